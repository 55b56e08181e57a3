/- Parts of the proof, laid together. -/
import Derived.WalkKit
import Derived.WalkSpells
import Derived.WalkLawsBesides
import Derived.Lib.Hide
import Derived.Maps.AppendAt
import Derived.Lib.AppendStr
import Derived.Laws.BytesArg
import Derived.Test.YtdakeodebgggfaaGreatDoorProg
import Derived.Lib.Mul64
import Derived.Laws.Bits64b
import Derived.Lib.ConvBytes
import Derived.BigQuiet
import Derived.Deep.QuietTactic
import Derived.Handy
import Derived.StillTailTactics
import Derived.RegionTactic
import Derived.BigRegion
import Derived.Deep.WholeRow
import Derived.Deep.LoopGhost
import Derived.Deep.MidRow
import Derived.Deep.RegionLaw
set_option linter.unusedVariables false
set_option linter.unusedSimpArgs false
set_option maxRecDepth 100000
set_option maxHeartbeats 8000000
namespace Go.Proofs.YtdakeodebgggfaaGreatDoor
open Go.RowKit
structure Rep (α:Type) where
  size:Nat
  pos:0<size
  rd:World→(Nat→Prop)→List Value→α→Prop
  len: ∀ {w S cs x},rd w S cs x→cs.length=size
  keep: ∀ {w w' S cs x},rd w S cs x→(∀ p:Addr,S p.block→w'.cell? p=w.cell? p)→rd w' S cs x
  more: ∀ {w S S' cs x},rd w S cs x→(∀ b,S b→S' b)→rd w S' cs x
  one: ∀ {w S cs x},rd w S cs x→ ∀ u∈cs,u.oneCell'=true
section
variable {α:Type} {w w':World} {S S':Nat→Prop}
theorem Rep.grown {r:Rep α} {cs:List Value} {x:α} {row:Option Nat} (h:r.rd w S cs x) (hg:w.grownBy w' row) (hS: ∀ b,S b→b<w.heap.size∧some b≠row):r.rd w' S cs x:=
  r.keep h fun p hp=>World.cell?_of_block (hg.block p.block (hS _ hp).1 (hS _ hp).2)
def Rep.u8:Rep UInt8 where
  size:=1
  pos:=by omega
  rd:=fun _ _ cs x=>cs=[.int .u8 (x.toNat:Int)]
  len:=fun h=>by rw [h];rfl
  keep:=fun h _=>h
  more:=fun h _=>h
  one:=fun h u hu=>by rw [h] at hu;simp at hu;subst hu;rfl
def Rep.row (r:Rep α) (w:World) (S:Nat→Prop) (b o:Nat) (xs:List α):Prop:=
  ∀ i x,xs[i]?=some x→ ∃ es,r.rd w S es x∧ ∀ j u,es[j]?=some u→w.cell? ⟨b,o+i*r.size+j,none⟩=some u
theorem Rep.row_keep {r:Rep α} {b o:Nat} {xs:List α} (h:r.row w S b o xs) (hb:S b) (hk: ∀ p:Addr,S p.block→w'.cell? p=w.cell? p):r.row w' S b o xs:=by
  intro i x hx
  obtain ⟨es,he,hc⟩:=h i x hx
  exact ⟨es,r.keep he hk,fun j u hu=>by rw [hk _ hb];exact hc j u hu⟩
theorem Rep.row_more {r:Rep α} {b o:Nat} {xs:List α} (h:r.row w S b o xs) (hS: ∀ b,S b→S' b):r.row w S' b o xs:=by
  intro i x hx
  obtain ⟨es,he,hc⟩:=h i x hx
  exact ⟨es,r.more he hS,hc⟩
def Rep.sl (r:Rep α) (w:World) (S:Nat→Prop) (A:Option Addr) (n c:Nat) (xs:List α):Prop:=
  xs.length=n∧n≤c∧c≤9223372036854775807∧(0<n→ ∃ b o,A=some ⟨b,o,none⟩∧S b∧r.row w S b o xs)
theorem Rep.sl_keep {r:Rep α} {A:Option Addr} {n c:Nat} {xs:List α} (h:r.sl w S A n c xs) (hk: ∀ p:Addr,S p.block→w'.cell? p=w.cell? p):r.sl w' S A n c xs:=
  ⟨h.1,h.2.1,h.2.2.1,fun hn=>by
    obtain ⟨b,o,rfl,hb,hr⟩:=h.2.2.2 hn
    exact ⟨b,o,rfl,hb,r.row_keep hr hb hk⟩⟩
theorem Rep.sl_more {r:Rep α} {A:Option Addr} {n c:Nat} {xs:List α} (h:r.sl w S A n c xs) (hS: ∀ b,S b→S' b):r.sl w S' A n c xs:=
  ⟨h.1,h.2.1,h.2.2.1,fun hn=>by
    obtain ⟨b,o,rfl,hb,hr⟩:=h.2.2.2 hn
    exact ⟨b,o,rfl,hS _ hb,r.row_more hr hS⟩⟩
theorem Rep.sl_below {r:Rep α} {A:Option Addr} {n c B:Nat} {xs:List α} (h:r.sl w S A n c xs) (hb:Below B w w') (hS: ∀ b,S b→b<B):r.sl w' S A n c xs:=
  r.sl_keep h fun _ hp=>hb.cell (hS _ hp)
theorem Rep.sl_grown {r:Rep α} {A:Option Addr} {n c:Nat} {xs:List α} {row:Option Nat} (h:r.sl w S A n c xs) (hg:w.grownBy w' row) (hS: ∀ b,S b→b<w.heap.size∧some b≠row):r.sl w' S A n c xs:=
  r.sl_keep h fun p hp=>World.cell?_of_block (hg.block p.block (hS _ hp).1 (hS _ hp).2)
theorem Rep.sl_at {r:Rep α} {A:Option Addr} {n c k:Nat} {xs:List α} (h:r.sl w S A n c xs) (hk:k<n) :
    ∃ b o x es,A=some ⟨b,o,none⟩∧S b∧xs[k]?=some x∧r.rd w S es x∧ ∀ j u,es[j]?=some u→w.cell? ⟨b,o+k*r.size+j,none⟩=some u:=by
  obtain ⟨b,o,hA,hb,hr⟩:=h.2.2.2 (by omega)
  have hl:k<xs.length:=by have:=h.1;omega
  obtain ⟨es,he,hc⟩:=hr k xs[k] (List.getElem?_eq_getElem hl)
  exact ⟨b,o,xs[k],es,hA,hb,List.getElem?_eq_getElem hl,he,hc⟩
def Rep.slice (r:Rep α):Rep (List α) where
  size:=1
  pos:=by omega
  rd:=fun w S cs xs=> ∃ A n c,cs=[.slice A n c]∧r.sl w S A n c xs
  len:=fun h=>by obtain ⟨_,_,_,rfl,_⟩:=h;rfl
  keep:=fun h hk=>by
    obtain ⟨A,n,c,rfl,h⟩:=h
    exact ⟨A,n,c,rfl,r.sl_keep h hk⟩
  more:=fun h hS=>by
    obtain ⟨A,n,c,rfl,h⟩:=h
    exact ⟨A,n,c,rfl,r.sl_more h hS⟩
  one:=fun h u hu=>by
    obtain ⟨A,n,c,rfl,h⟩:=h
    simp at hu
    subst hu
    rfl
theorem Rep.sl_nil {r:Rep α}:r.sl w S none 0 0 []:=⟨rfl,by omega,by omega,fun h=>absurd h (by omega)⟩
theorem Rep.sl_cut {r:Rep α} {A:Option Addr} {n c k:Nat} {xs:List α} (h:r.sl w S A n c xs) (hk:k≤n) :
    r.sl w S (if c=k then A else A.map (·.add (k*r.size))) (n-k) (c-k) (xs.drop k):=by
  refine ⟨by rw [List.length_drop,h.1],by have:=h.2.1;omega,by have:=h.2.2.1;omega,fun hn=>?_⟩
  obtain ⟨b,o,rfl,hb,hr⟩:=h.2.2.2 (by omega)
  have:=h.2.1
  rw [if_neg (by omega)]
  refine ⟨b,o+k*r.size,by simp [Addr.add_lit],hb,fun i x hx=>?_⟩
  rw [List.getElem?_drop] at hx
  obtain ⟨es,he,hc⟩:=hr _ x hx
  refine ⟨es,he,fun j u hu=>?_⟩
  rw [← hc j u hu,Nat.add_mul]
  congr 2
  omega
theorem Rep.sl_take {r:Rep α} {A:Option Addr} {n c k:Nat} {xs:List α} (h:r.sl w S A n c xs) (hk:k≤n):r.sl w S A k c (xs.take k):=by
  refine ⟨by rw [List.length_take,h.1];omega,by have:=h.2.1;omega,h.2.2.1,fun hn=>?_⟩
  obtain ⟨b,o,rfl,hb,hr⟩:=h.2.2.2 (by omega)
  refine ⟨b,o,rfl,hb,fun i x hx=>?_⟩
  rw [List.getElem?_take] at hx
  split at hx
  · exact hr i x hx
  · cases hx
def Rep.own (r:Rep α) (e:TypeId) (w:World) (base:Nat) (S:Nat→Prop) (v:Value) (xs:List α):Prop:=
  ∃ cells:List Value,w.ownsRow base e r.size v xs.length cells∧ ∀ i x,xs[i]?=some x→r.rd w S ((cells.drop (i*r.size)).take r.size) x
theorem Rep.own_nil {r:Rep α} {e:TypeId} {base:Nat}:r.own e w base S (.slice none 0 0) []:=⟨[],by simpa using World.ownsRow_nil w base e r.size,fun i x h=>by simp at h⟩
theorem Rep.own_lt {r:Rep α} {e:TypeId} {base:Nat} {v:Value} {xs:List α} (h:r.own e w base S v xs): ∀ k,v.ownBlock=some k→base≤k∧k<w.heap.size:=by
  obtain ⟨cells,ho,_⟩:=h
  exact ho.lt
theorem Rep.own_kept {r:Rep α} {e:TypeId} {base:Nat} {v:Value} {xs:List α} {row:Option Nat} (h:r.own e w base S v xs) (hg:w.grownBy w' row) (hne:v.ownBlock=none∨v.ownBlock≠row)
    (hS: ∀ b,S b→b<w.heap.size∧some b≠row):r.own e w' base S v xs:=by
  obtain ⟨cells,ho,hr⟩:=h
  exact ⟨cells,ho.kept hg hne,fun i x hx=>r.grown (hr i x hx) hg hS⟩
theorem Rep.own_drew {r:Rep α} {e:TypeId} {base:Nat} {v:Value} {xs:List α} (h:r.own e w base S v xs):r.own e w.drew base S v xs:=by
  obtain ⟨cells,ho,hr⟩:=h
  exact ⟨cells,ho.drew,fun i x hx=>r.keep (hr i x hx) (fun _ _=>rfl)⟩
theorem ownsRow_base {base base':Nat} {e:TypeId} {size n:Nat} {v:Value} {cs:List Value} (h:w.ownsRow base e size v n cs) (hb: ∀ k,v.ownBlock=some k→base'≤k):w.ownsRow base' e size v n cs:=by
  refine ⟨h.1,?_⟩
  rcases h.2 with hn|⟨g,cap,cur,rfl,h1,rest⟩
  · exact .inl hn
  · exact .inr ⟨g,cap,cur,rfl,hb g rfl,rest⟩
theorem Rep.own_base {r:Rep α} {e:TypeId} {base base':Nat} {v:Value} {xs:List α} (h:r.own e w base S v xs) (hb: ∀ k,v.ownBlock=some k→base'≤k):r.own e w base' S v xs:=by
  obtain ⟨cells,ho,hr⟩:=h
  exact ⟨cells,ownsRow_base ho hb,hr⟩
theorem Rep.own_later {r:Rep α} {e:TypeId} {base:Nat} {v:Value} {xs:List α} (h:r.own e w base (fun _=>False) v xs) (hb:Below w.heap.size w w'):r.own e w' base (fun _=>False) v xs:=
  r.own_kept (row:=none) h ⟨hb.os,hb.tape,hb.output,hb.size,fun k hk _=>hb.block k hk⟩ (by cases hv:v.ownBlock <;> simp) fun _ h=>h.elim
theorem own_blk {r:Rep α} {e t:TypeId} {base g:Nat} {v:Value} {xs:List α} {cs:Array Value} (h:r.own e w base S v xs) (hg:w.heap[g]?=some (.cells cs t (0,0))) (hne:e≠t):some g≠v.ownBlock:=by
  obtain ⟨cells,ho,_⟩:=h
  rcases ho.2 with ⟨rfl,_⟩|⟨g',cap,cur,rfl,_,hh,_⟩
  · simp [Value.ownBlock]
  · intro he
    have:g=g':=by simpa [Value.ownBlock] using he
    subst this
    rw [hg] at hh
    injection hh with hh
    injection hh with _ ht
    exact hne ht.symm
theorem box_app {r:Rep α} {e t:TypeId} {base g:Nat} {v:Value} {xs:List α} {cs:Array Value} (h:w.heap[g]?=some (.cells cs t (0,0))) (ho:r.own e w base S v xs) (hne:e≠t) (hg:w.grownBy w' v.ownBlock) :
    w'.heap[g]?=some (.cells cs t (0,0)):=(hg.block g (Array.getElem?_eq_some_iff.1 h).1 (own_blk ho h hne)).trans h
theorem below_app {r:Rep α} {e:TypeId} {base:Nat} {v:Value} {xs:List α} {w0:World} (hB:Below base w0 w) (ho:r.own e w base S v xs) (hg:w.grownBy w' v.ownBlock) (hs:base≤w0.heap.size):Below base w0 w':=
  hB.grown hg (Nat.le_trans hs hB.size) fun k hk=>(r.own_lt ho k hk).1
theorem Rep.own_sl {r:Rep α} {e:TypeId} {base:Nat} {v:Value} {xs:List α} (h:r.own e w base S v xs) :
    ∃ A c,v= .slice A xs.length c∧r.sl w (fun b=>S b∨v.ownBlock=some b) A xs.length c xs:=by
  obtain ⟨cells,ho,hr⟩:=h
  rcases ho.2 with ⟨rfl,hn⟩|⟨g,cap,cur,rfl,hb,hg,hc1,hc2,hc3,hc4⟩
  · refine ⟨none,0,by rw [hn],rfl,by omega,by omega,fun h=>absurd h (by omega)⟩
  · refine ⟨_,cap,rfl,rfl,hc1,hc2,fun hn=>⟨g,0,rfl,.inr rfl,fun i x hx=>?_⟩⟩
    have hx':=hr i x hx
    refine ⟨_,r.more hx' (fun b hb=> .inl hb),fun j u hu=>?_⟩
    have hl:=r.len hx'
    have hj:j<r.size:=by
      have:=(List.getElem?_eq_some_iff.1 hu).1
      omega
    rw [List.getElem?_take,if_pos hj,List.getElem?_drop] at hu
    have:=ho.cells (g:=g) rfl _ u hu
    rw [Addr.add_lit] at this
    rw [← this]
    congr 2
    omega
end
theorem ret_bool {x y:Bool} (h:x=y):Ending.returned (.bool x)= .returned (.bool y):=by rw [h]
theorem ret_int {k:IntKind} {x y:Int} (h:x=y):Ending.returned (.int k x)= .returned (.int k y):=by rw [h]
theorem boxed {w:World} {g:Nat} {cs:Array Value} {t:TypeId} (h:w.heap[g]?=some (.cells cs t (0,0))): ∀ j v,cs.toList[j]?=some v→w.cell? ⟨g,j,none⟩=some v:=by
  intro j v hv
  rw [cell_of_row w g j cs t (0,0) h]
  simpa using hv
theorem boxed_frozen {w:World} {g:Nat} {cs:Array Value} {t:TypeId} (h:w.heap[g]?=some (.cells cs t (0,0))) (j:Nat):w.frozen? ⟨g,j,none⟩=false:=by
  simp [World.frozen?,h]
theorem box_new (w:World) (cs:Array Value) (t:TypeId):(w.alloc (.cells cs t)).heap[w.heap.size]?=some (.cells cs t (0,0)):=heap_alloc_new w _
theorem box_alloc {w:World} {g:Nat} {x:Obj} (h:w.heap[g]?=some x) (o:Obj):(w.alloc o).heap[g]?=some x:=(Below.heap_alloc w o g (Array.getElem?_eq_some_iff.1 h).1).trans h
theorem box_grown {w w':World} {g:Nat} {x:Obj} {row:Option Nat} (h:w.heap[g]?=some x) (hg:w.grownBy w' row) (hr:some g≠row):w'.heap[g]?=some x:=(hg.block g (Array.getElem?_eq_some_iff.1 h).1 hr).trans h
theorem box_below {w w':World} {g B:Nat} {x:Obj} (h:w.heap[g]?=some x) (hb:Below B w w') (hg:g<B):w'.heap[g]?=some x:=(hb.block g hg).trans h
theorem grownBy_trans {a b c:World} {row:Option Nat} (h:a.grownBy b row) (k:b.grownBy c row):a.grownBy c row:=
  ⟨k.os.trans h.os,k.tape.trans h.tape,k.output.trans h.output,Nat.le_trans h.size k.size,fun i hi hr=>(k.block i (Nat.lt_of_lt_of_le hi h.size) hr).trans (h.block i hi hr)⟩
theorem rd_u8 {w:World} {S:Nat→Prop} {y:UInt8} {k:Int} (h:(y.toNat:Int)=k):Rep.u8.rd w S [.int .u8 k] y:=by
  subst h
  rfl
def ub (k:Int):UInt8:=UInt8.ofNat k.toNat
theorem ub_val {k:Int} (h0:0≤k) (h1:k≤255):((ub k).toNat:Int)=k:=by
  unfold ub
  rw [UInt8.toNat_ofNat']
  omega
def Halted (p:Prop):Prop:=p
theorem halt {p:Prop} (h:Halted p):p:=h
theorem go_on {p:Prop} (h:p):Halted p:=h
structure ElemT (P:Program) (t e:TypeId) (z:Value) (size bytes:Nat):Prop where
  und:P.underlying t=some (.slice e)
  info:(P.info? e).map (fun i=>(i.zero,i.size,i.bytes))=some (some z,size,bytes)
  zsz:z.cells.size=size
  pos:0<size
section
variable {α:Type} {P:Program} {w w':World} {S:Nat→Prop} {ops:Array Oper} {rest:List Oper} {o:Oper} {a:Act} {Q:Exit→Act→World→Prop}
theorem Rep.row_cells {r:Rep α} {b:Nat}: ∀ {xs:List α} {o:Nat},r.row w S b o xs →
    ∃ cells:List Value,cells.length=xs.length*r.size∧(∀ j u,cells[j]?=some u→w.cell? ⟨b,o+j,none⟩=some u)∧(∀ u∈cells,u.oneCell'=true) ∧
      ∀ i x,xs[i]?=some x→r.rd w S ((cells.drop (i*r.size)).take r.size) x:=by
  intro xs
  induction xs with
  | nil=>exact fun _=>⟨[],by simp,by simp,by simp,by simp⟩
  | cons x xs ih =>
    intro o h
    obtain ⟨es,he,hc⟩:=h 0 x rfl
    have hl:=r.len he
    obtain ⟨cells,h1,h2,h3,h4⟩:= @ih (o+r.size) (fun i y hy=>by
      obtain ⟨es,he,hc⟩:=h (i+1) y (by simpa using hy)
      refine ⟨es,he,fun j u hu=>?_⟩
      rw [← hc j u hu,Nat.add_mul,Nat.one_mul]
      congr 2
      omega)
    refine ⟨es++cells,by rw [List.length_append,h1,hl,List.length_cons,Nat.add_mul];omega,fun j u hu=>?_,?_,fun i y hy=>?_⟩
    · by_cases hj:j<es.length
      · rw [List.getElem?_append_left hj] at hu
        have:=hc j u hu
        simpa using this
      · rw [List.getElem?_append_right (by omega)] at hu
        have:=h2 _ u hu
        rw [← this]
        congr 2
        omega
    · intro u hu
      rcases List.mem_append.1 hu with hu|hu
      · exact r.one he u hu
      · exact h3 u hu
    · cases i with
      | zero =>
        simp at hy
        subst hy
        simpa [← hl] using he
      | succ i =>
        have:=h4 i y (by simpa using hy)
        rw [Nat.add_mul,Nat.one_mul,Nat.add_comm,← List.drop_drop,← hl,List.drop_left,hl]
        exact this
theorem own_snoc {r:Rep α} {e:TypeId} {base:Nat} {v':Value} {xs ys:List α} {cells news:List Value} {m:Nat} (ho:w'.ownsRow base e r.size v' (xs.length+m) (cells++news)) (hcl:cells.length=xs.length*r.size) (hm:ys.length=m)
    (hx: ∀ i x,xs[i]?=some x→r.rd w S ((cells.drop (i*r.size)).take r.size) x) (hy: ∀ i x,ys[i]?=some x→r.rd w S ((news.drop (i*r.size)).take r.size) x)
    {row:Option Nat} (hg:w.grownBy w' row) (hS: ∀ b,S b→b<w.heap.size∧some b≠row):r.own e w' base S v' (xs++ys):=by
  refine ⟨cells++news,by rw [List.length_append,hm];exact ho,fun i x hi=>?_⟩
  refine r.grown ?_ hg hS
  by_cases h:i<xs.length
  · rw [List.getElem?_append_left h] at hi
    have hxx:=hx i x hi
    have hl:=r.len hxx
    have h2:i*r.size+r.size≤cells.length:=by
      rw [hcl]
      have:(i+1)*r.size≤xs.length*r.size:=Nat.mul_le_mul_right _ h
      rw [Nat.add_mul] at this
      omega
    rw [List.drop_append_of_le_length (by omega),List.take_append_of_le_length (by rw [List.length_drop];omega)]
    exact hxx
  · rw [List.getElem?_append_right (by omega)] at hi
    have hyy:=hy _ x hi
    have e1:i*r.size=cells.length+(i-xs.length)*r.size:=by rw [hcl,← Nat.add_mul];congr 1;omega
    rw [e1,← List.drop_drop,List.drop_left]
    exact hyy
theorem run_app_nil (base:Nat) (t ty e:TypeId) (i:TypeInfo) (size:Nat) (ht:P.underlying t=some (.slice e)) (hi:P.info? e=some i)
    (v:Value) (n:Nat) (xs:List Value) (hown:w.ownsRow base e size v n xs) (c:Nat):(Builtin.append_ #[t,t] ty #[v,.slice none 0 c]).run P w= .ok v w:=by
  rcases hown.2 with ⟨rfl,rfl⟩|⟨g,cap,cur,rfl,_,_,hnc,_⟩
  · simp [Builtin.append_,run_underlying ht,sizeOf,typeInfo,hi,Builtin.lenOf,Builtin.firstCells]
  · simp [Builtin.append_,run_underlying ht,sizeOf,typeInfo,hi,Builtin.lenOf,Builtin.firstCells,hnc,storeCells]
theorem run_app {r:Rep α} {t e:TypeId} {z:Value} {bytes:Nat} (T:ElemT P t e z r.size bytes) (ty:TypeId) {base:Nat} {v:Value} {xs:List α} (hown:r.own e w base S v xs)
    {A:Option Addr} {m c:Nat} {news:List Value} {ys:List α} (hl:news.length=m*r.size) (hA:0<m→ ∃ ad,A=some ad∧ ∀ j u,news[j]?=some u→w.cell? (ad.add j)=some u)
    (hone: ∀ u∈news,u.oneCell'=true) (hm:ys.length=m) (hy: ∀ i x,ys[i]?=some x→r.rd w S ((news.drop (i*r.size)).take r.size) x)
    (hbytes:(xs.length+m)*bytes≤140737488355328) (h63:xs.length+m≤9223372036854775807) (hbase:base≤w.heap.size) (hS: ∀ b,S b→b<w.heap.size∧some b≠v.ownBlock) :
    ∃ v' w',(Builtin.append_ #[t,t] ty #[v,.slice A m c]).run P w= .ok v' w'∧r.own e w' base S v' (xs++ys)∧w.grownBy w' v.ownBlock∧(v'.ownBlock=v.ownBlock∨v'.ownBlock=some w.heap.size):=by
  obtain ⟨i,hi,hz,hs,hb⟩:=info_parts T.info
  obtain ⟨cells,ho,hr⟩:=hown
  cases A with
  | none =>
    have hm0:m=0:=by
      rcases Nat.eq_zero_or_pos m with h|h
      · exact h
      · obtain ⟨_,h,_⟩:=hA h
        cases h
    subst hm0
    have:ys=[]:=List.eq_nil_of_length_eq_zero hm
    subst this
    refine ⟨v,w,run_app_nil base t ty e i r.size T.und hi v _ cells ho c,⟨cells,by simpa using ho,by simpa using hr⟩,World.grownBy.refl _ _,.inl rfl⟩
  | some ad =>
    have hc: ∀ j u,news[j]?=some u→w.cell? (ad.add j)=some u:=by
      intro j u hu
      rcases Nat.eq_zero_or_pos m with h|h
      · subst h
        have hn:news=[]:=List.eq_nil_of_length_eq_zero (by simpa using hl)
        subst hn
        simp at hu
      · obtain ⟨ad',e1,h2⟩:=hA h
        injection e1 with e1
        subst e1
        exact h2 j u hu
    obtain ⟨v',w',h1,h2,h3,_,h5⟩:=run_append_own_at (P:=P) w base t ty e i z r.size bytes T.und hi hz hs hb T.zsz T.pos v _ cells ho ad m c news hl hc hone (by simpa [maxLen] using h63) hbytes hbase
    exact ⟨v',w',h1,own_snoc h2 ho.1 hm hr hy h3 hS,h3,h5⟩
theorem wp_app {K:Act→World→Prop} {r:Rep α} {t e:TypeId} {z:Value} {bytes:Nat} (T:ElemT P t e z r.size bytes) (s x:Operand)
    (ho:o.op= .call { callee:= .builtin .append,args:= #[s,x],argTypes:= #[t,t] }) {base:Nat} {v:Value} {xs:List α} (hs:a.eval s=v) (hown:r.own e w base S v xs)
    {A:Option Addr} {m c:Nat} (news:List Value) {ys:List α} (hx:a.eval x= .slice A m c) (hl:news.length=m*r.size) (hA:0<m→ ∃ ad,A=some ad∧ ∀ j u,news[j]?=some u→w.cell? (ad.add j)=some u)
    (hone: ∀ u∈news,u.oneCell'=true) (hm:ys.length=m) (hy: ∀ i x,ys[i]?=some x→r.rd w S ((news.drop (i*r.size)).take r.size) x)
    (hbytes:(xs.length+m)*bytes≤140737488355328) (h63:xs.length+m≤9223372036854775807) (hbase:base≤w.heap.size) (hS: ∀ b,S b→b<w.heap.size∧some b≠v.ownBlock)
    (h: ∀ v' w',r.own e w' base S v' (xs++ys)→w.grownBy w' v.ownBlock→(v'.ownBlock=v.ownBlock∨v'.ownBlock=some w.heap.size)→K (a.put o.dst v') w'):o.wp P a w K Q:=by
  obtain ⟨v',w',hrun,h2,h3,h4⟩:=run_app T o.type hown (c:=c) hl hA hone hm hy hbytes h63 hbase hS
  unfold Oper.wp execOp
  simp only [ho,resolve,invoke,builtin,Sem.run_bind,Sem.run_pure,Result.andThen_ok,List.map_toArray,List.map_cons,List.map_nil,hs,hx,hrun]
  exact h v' w' h2 h3 h4
theorem own_lit {r:Rep α} {e:TypeId} {base:Nat} (cs:Array Value) (xs:List α) {g n:Nat} (hg:g=w.heap.size) (hn:xs.length=n) (hb:base≤w.heap.size) (hm:n≤9223372036854775807) (hs:cs.size=n*r.size)
    (hS: ∀ b,S b→b<w.heap.size) (hr: ∀ i x,xs[i]?=some x→r.rd w S ((cs.toList.drop (i*r.size)).take r.size) x) :
    r.own e (w.alloc (.cells cs e)) base S (.slice (some ⟨g,0,none⟩) n n) xs:=by
  subst hg
  subst hn
  exact ⟨cs.toList,World.ownsRow_lit w cs _ hb (by simpa [maxLen] using hm) hs,fun i x hx=>r.grown (hr i x hx) (World.grownBy_alloc w _ none) fun b h=>⟨hS b h,by simp⟩⟩
theorem rd_one {r:Rep α} {x:α} {cs:List Value} (h:r.rd w S cs x): ∀ i y,[x][i]?=some y→r.rd w S ((cs.drop (i*r.size)).take r.size) y:=by
  intro i y hi
  cases i with
  | zero =>
    simp at hi
    subst hi
    rw [Nat.zero_mul,List.drop_zero,List.take_of_length_le (by rw [r.len h];exact Nat.le_refl _)]
    exact h
  | succ i=>simp at hi
theorem wpList_app1 (hgd:o.guard=none) {r:Rep α} {t e:TypeId} {z:Value} {bytes:Nat} (T:ElemT P t e z r.size bytes) (s x:Operand)
    (ho:o.op= .call { callee:= .builtin .append,args:= #[s,x],argTypes:= #[t,t] }) {base:Nat} {v:Value} {xs:List α} (hs:a.eval s=v) (hown:r.own e w base S v xs)
    {ad:Addr} {c:Nat} (news:List Value) (y:α) (hx:a.eval x= .slice (some ad) 1 c) (hA: ∀ j u,news[j]?=some u→w.cell? (ad.add j)=some u) (hy:r.rd w S news y)
    (hbytes:(xs.length+1)*bytes≤140737488355328) (h63:xs.length+1≤9223372036854775807) (hbase:base≤w.heap.size) (hS: ∀ b,S b→b<w.heap.size∧some b≠v.ownBlock)
    (h: ∀ v' w',r.own e w' base S v' (xs++[y])→w.grownBy w' v.ownBlock→(v'.ownBlock=v.ownBlock∨v'.ownBlock=some w.heap.size)→wpList P ops Q rest (a.put o.dst v') w'):wpList P ops Q (o::rest) a w:=
  wpList_plain hgd fun K hK=>wp_app T s x ho hs hown (A:=some ad) (m:=1) (c:=c) news (ys:=[y]) hx (by rw [r.len hy];omega) (fun _=>⟨ad,rfl,hA⟩) (r.one hy) rfl
    (fun i x hi=>by
      cases i with
      | zero =>
        simp at hi
        subst hi
        rw [Nat.zero_mul,List.drop_zero,List.take_of_length_le (by rw [r.len hy];exact Nat.le_refl _)]
        exact hy
      | succ i=>simp at hi) hbytes h63 hbase hS fun v' w' h2 h3 h4=>hK _ _ (h v' w' h2 h3 h4)
def Rep.Flat (r:Rep α):Prop:= ∀ w w' S S' cs x,r.rd w S cs x→r.rd w' S' cs x
theorem flat_u8:Rep.u8.Flat:=fun _ _ _ _ _ _ h=>h
theorem wpList_appF (hgd:o.guard=none) {r:Rep α} {S':Nat→Prop} (hf:r.Flat) {t e:TypeId} {z:Value} {bytes:Nat} (T:ElemT P t e z r.size bytes) (s x:Operand)
    (ho:o.op= .call { callee:= .builtin .append,args:= #[s,x],argTypes:= #[t,t] }) {base:Nat} {v:Value} {xs:List α} (hs:a.eval s=v) (hown:r.own e w base S v xs)
    {A:Option Addr} {m c:Nat} {ys:List α} (hx:a.eval x= .slice A m c) (hsl:r.sl w S' A m c ys)
    (hbytes:(xs.length+m)*bytes≤140737488355328) (h63:xs.length+m≤9223372036854775807) (hbase:base≤w.heap.size) (hS: ∀ b,S b→b<w.heap.size∧some b≠v.ownBlock)
    (h: ∀ v' w',r.own e w' base S v' (xs++ys)→w.grownBy w' v.ownBlock→(v'.ownBlock=v.ownBlock∨v'.ownBlock=some w.heap.size)→wpList P ops Q rest (a.put o.dst v') w'):wpList P ops Q (o::rest) a w:=by
  rcases Nat.eq_zero_or_pos m with hm|hm
  · have h0:=hsl.1
    rw [hm] at h0
    have:ys=[]:=List.eq_nil_of_length_eq_zero h0
    subst this
    exact wpList_plain hgd fun K hK=>wp_app T s x ho hs hown (A:=A) (m:=m) (c:=c) [] (ys:=[]) hx (by simp [hm]) (fun h=>absurd h (by omega)) (by simp) hsl.1 (by simp) hbytes h63 hbase hS
      fun v' w' h2 h3 h4=>hK _ _ (h v' w' h2 h3 h4)
  · obtain ⟨b,o',rfl,hb,hr⟩:=hsl.2.2.2 hm
    obtain ⟨cells,h1,h2,h3,h4⟩:=r.row_cells hr
    exact wpList_plain hgd fun K hK=>wp_app T s x ho hs hown (A:=some ⟨b,o',none⟩) (m:=m) (c:=c) cells (ys:=ys) hx (by rw [h1,hsl.1]) (fun _=>⟨_,rfl,fun j u hu=>by rw [Addr.add_lit];exact h2 j u hu⟩) h3 hsl.1 (fun i x hi=>hf _ _ _ _ _ _ (h4 i x hi)) hbytes h63 hbase hS
      fun v' w' h2 h3 h4=>hK _ _ (h v' w' h2 h3 h4)
theorem conv_bs {src e dst:TypeId} (hs:P.underlying src=some (.slice e)) (he:P.underlying e=some (.int .u8)) (hd:P.underlying dst=some .string) {A:Option Addr} {n c:Nat} {bs:List UInt8} (h:Rep.u8.sl w S A n c bs) :
    (convert src dst (.slice A n c)).run P w= .ok (.string ⟨bs.toArray⟩) w:=by
  rcases Nat.eq_zero_or_pos n with hn|hn
  · have:bs=[]:=List.eq_nil_of_length_eq_zero (by rw [h.1,hn])
    subst this
    subst hn
    cases A with
    | none=>exact run_convert_bytes_nil w src e hs he 0 c dst hd
    | some ad =>
      rw [run_convert_bytes_string w src dst e _ 0 c hs he hd,run_bytesToString w _ 0 c [] (by simp [loadCells,loadCellsFrom])]
      rfl
  · obtain ⟨b,o,rfl,hb,hr⟩:=h.2.2.2 hn
    have hl:=h.1
    rw [run_convert_bytes_arg w src e hs he b o n c (bs.map fun x=>(x.toNat:Int)) (by simpa using hl) (fun i hi=>by
      obtain ⟨es,he,hc⟩:=hr i bs[i] (List.getElem?_eq_getElem (by omega))
      obtain rfl:es=[.int .u8 (bs[i].toNat:Int)]:=he
      have:=hc 0 _ rfl
      simp only [Rep.u8,Nat.mul_one,Nat.add_zero] at this
      rw [this]
      simp [List.getD,show i<bs.length by omega]) dst hd]
    congr 2
    simp only [strOfNums,List.map_map]
    congr 2
    refine (List.map_congr_left fun x _=>?_).trans (List.map_id bs)
    simp
end
end Go.Proofs.YtdakeodebgggfaaGreatDoor
namespace Go.Proofs.YtdakeodebgggfaaGreatDoor
open Go.RowKit Go.Lib
def sl (x:UInt64) (n:Nat):UInt64:=UInt64.ofNat (x.toNat*2^n)
def sr (x:UInt64) (n:Nat):UInt64:=UInt64.ofNat (x.toNat/2^n)
def wa (x y:UInt64):UInt64:=x+y
def wx (x y:UInt64):UInt64:=x ^^^ y
def wn (x y:UInt64):UInt64:=x &&& y
def wo (x y:UInt64):UInt64:=x ||| y
def wc (x:UInt64):UInt64:= ~~~x
theorem wrap_word (n:Nat):IntKind.u64.wrap (n:Int)=((UInt64.ofNat n).toNat:Int):=by
  rw [IntKind.wrap_u64,UInt64.toNat_ofNat']
  omega
theorem word_lt (x:UInt64):x.toNat<18446744073709551616:=x.toNat_lt
theorem sr_nat (x:UInt64) (n:Nat):(sr x n).toNat=x.toNat/2^n:=by
  unfold sr
  rw [UInt64.toNat_ofNat']
  exact Nat.mod_eq_of_lt (Nat.lt_of_le_of_lt (Nat.div_le_self _ _) (word_lt x))
theorem u64_add (x y:UInt64):Op.intArith .add .u64 (x.toNat:Int) (y.toNat:Int)=pure (.int .u64 ((wa x y).toNat:Int)):=by
  show pure (Value.int .u64 (IntKind.u64.wrap ((x.toNat:Int)+(y.toNat:Int))))=pure (.int .u64 ((x+y).toNat:Int))
  rw [show (x.toNat:Int)+(y.toNat:Int)=((x.toNat+y.toNat:Nat):Int) by omega,wrap_word]
  congr 4
theorem bv_word (x:UInt64):BitVec.ofInt 64 (x.toNat:Int)=x.toBitVec:=by
  apply BitVec.eq_of_toNat_eq
  simp
theorem u64_xor (x y:UInt64):Op.intBits .xor .u64 (x.toNat:Int) (y.toNat:Int)=pure (.int .u64 ((wx x y).toNat:Int)):=by
  show pure (Value.int .u64 (IntKind.u64.wrap ((BitVec.ofInt 64 (x.toNat:Int) ^^^ BitVec.ofInt 64 (y.toNat:Int)).toNat:Int)))=pure (.int .u64 ((x ^^^ y).toNat:Int))
  rw [bv_word,bv_word,wrap_word]
  congr 4
  apply UInt64.toNat_inj.1
  simp
theorem u64_and (x y:UInt64):Op.intBits .and .u64 (x.toNat:Int) (y.toNat:Int)=pure (.int .u64 ((wn x y).toNat:Int)):=by
  show pure (Value.int .u64 (IntKind.u64.wrap ((BitVec.ofInt 64 (x.toNat:Int) &&& BitVec.ofInt 64 (y.toNat:Int)).toNat:Int)))=pure (.int .u64 ((x &&& y).toNat:Int))
  rw [bv_word,bv_word,wrap_word]
  congr 4
  apply UInt64.toNat_inj.1
  simp
theorem u64_or (x y:UInt64):Op.intBits .or .u64 (x.toNat:Int) (y.toNat:Int)=pure (.int .u64 ((wo x y).toNat:Int)):=by
  show pure (Value.int .u64 (IntKind.u64.wrap ((BitVec.ofInt 64 (x.toNat:Int) ||| BitVec.ofInt 64 (y.toNat:Int)).toNat:Int)))=pure (.int .u64 ((x ||| y).toNat:Int))
  rw [bv_word,bv_word,wrap_word]
  congr 4
  apply UInt64.toNat_inj.1
  simp
theorem u64_shl (x:UInt64) (yk:IntKind) (n:Int) (h0:0≤n) (h1:n≤63):Op.shift .shl .u64 (x.toNat:Int) yk n=pure (.int .u64 ((sl x n.toNat).toNat:Int)):=by
  rw [shift_shl .u64 yk _ n h0 (by show n≤64;omega)]
  rw [show (x.toNat:Int)*2^n.toNat=((x.toNat*2^n.toNat:Nat):Int) by simp,wrap_word]
  rfl
theorem u64_shr (x:UInt64) (yk:IntKind) (n:Int) (h0:0≤n) (h1:n≤63):Op.shift .shr .u64 (x.toNat:Int) yk n=pure (.int .u64 ((sr x n.toNat).toNat:Int)):=by
  rw [shift_shr .u64 yk _ n h0 (by show n≤64;omega),sr_nat]
  simp
theorem ones_xor (x:UInt64):wx 18446744073709551615 x=wc x:=by
  apply UInt64.toBitVec_inj.1
  show (18446744073709551615#64) ^^^ x.toBitVec= ~~~x.toBitVec
  rw [show (18446744073709551615#64)=BitVec.allOnes 64 from by decide,BitVec.allOnes_xor]
theorem xor_ones (x:UInt64):wx x 18446744073709551615=wc x:=by
  rw [← ones_xor]
  apply UInt64.toBitVec_inj.1
  exact BitVec.xor_comm _ _
theorem u64_xor1 (x:UInt64):Op.intBits .xor .u64 (x.toNat:Int) 18446744073709551615=pure (.int .u64 ((wc x).toNat:Int)):=by
  rw [← xor_ones]
  exact u64_xor x 18446744073709551615
theorem u64_byte (x:UInt64):IntKind.u8.wrap (x.toNat:Int)=((UInt8.ofNat x.toNat).toNat:Int):=by
  rw [IntKind.wrap_u8,UInt8.toNat_ofNat']
  omega
attribute [go_sem ↓] u64_xor1 u64_add u64_xor u64_and u64_or u64_shl u64_shr
def rotr (x:UInt64) (n:Nat):UInt64:=wo (sl x (64-n)) (sr x n)
theorem sr_bv (x:UInt64) (n:Nat) (hn:n<64):(sr x n).toBitVec=x.toBitVec >>> n:=by
  apply BitVec.eq_of_toNat_eq
  rw [BitVec.toNat_ushiftRight,Nat.shiftRight_eq_div_pow]
  exact sr_nat x n
theorem sl_bv (x:UInt64) (n:Nat) (hn:n<64):(sl x n).toBitVec=x.toBitVec <<< n:=by
  apply BitVec.eq_of_toNat_eq
  rw [BitVec.toNat_shiftLeft,Nat.shiftLeft_eq]
  show (UInt64.ofNat (x.toNat*2^n)).toNat=_
  rw [UInt64.toNat_ofNat']
  rfl
theorem rotr_add (x:UInt64) (n:Nat) (h0:0<n) (h1:n<64):wa (sr x n) (sl x (64-n))=rotr x n:=by
  show sr x n+sl x (64-n)=sl x (64-n) ||| sr x n
  apply UInt64.toBitVec_inj.1
  rw [UInt64.toBitVec_add,UInt64.toBitVec_or,sr_bv x n h1,sl_bv x (64-n) (by omega),BitVec.or_comm]
  refine BitVec.add_eq_or_of_and_eq_zero _ _ ?_
  apply BitVec.eq_of_getLsbD_eq
  intro i hi
  simp only [BitVec.getLsbD_and,BitVec.getLsbD_ushiftRight,BitVec.getLsbD_shiftLeft,BitVec.getLsbD_zero]
  by_cases h:i<64-n
  · simp [h]
  · rw [BitVec.getLsbD_of_ge x.toBitVec (n+i) (by omega)]
    simp
theorem turn_1 (x:UInt64) (w:World) :
    Calls Tryz.prog 133 #[.int .u64 (x.toNat:Int),.int .i64 1] w fun e w'=>e= .returned (.int .u64 ((rotr x 1).toNat:Int))∧w=w':=by
  have hb:bits .and .u64 (IntKind.u64.wrap (-1)) 63=63:=by decide
  go_enter Tryz.func133,Tryz.ntmps133
  go_wp2
  clear hb
  go_ret
  exact ⟨rfl,rfl⟩
theorem refturn_1 (x:UInt64) (w:World) :
    Calls Tryz.prog 99 #[.int .u64 (x.toNat:Int),.int .u64 1] w fun e w'=>e= .returned (.int .u64 ((rotr x 1).toNat:Int))∧w=w':=by
  have HR:=Lib.hid (rotr_add x 1 (by decide) (by decide))
  go_enter Tryz.func99,Tryz.ntmps99
  go_wp2
  go_ret
  exact ⟨ret_int (by rw [HR.out]),rfl⟩
theorem turn_8 (x:UInt64) (w:World) :
    Calls Tryz.prog 133 #[.int .u64 (x.toNat:Int),.int .i64 8] w fun e w'=>e= .returned (.int .u64 ((rotr x 8).toNat:Int))∧w=w':=by
  have hb:bits .and .u64 (IntKind.u64.wrap (-8)) 63=56:=by decide
  go_enter Tryz.func133,Tryz.ntmps133
  go_wp2
  clear hb
  go_ret
  exact ⟨rfl,rfl⟩
theorem refturn_8 (x:UInt64) (w:World) :
    Calls Tryz.prog 99 #[.int .u64 (x.toNat:Int),.int .u64 8] w fun e w'=>e= .returned (.int .u64 ((rotr x 8).toNat:Int))∧w=w':=by
  have HR:=Lib.hid (rotr_add x 8 (by decide) (by decide))
  go_enter Tryz.func99,Tryz.ntmps99
  go_wp2
  go_ret
  exact ⟨ret_int (by rw [HR.out]),rfl⟩
theorem turn_14 (x:UInt64) (w:World) :
    Calls Tryz.prog 133 #[.int .u64 (x.toNat:Int),.int .i64 14] w fun e w'=>e= .returned (.int .u64 ((rotr x 14).toNat:Int))∧w=w':=by
  have hb:bits .and .u64 (IntKind.u64.wrap (-14)) 63=50:=by decide
  go_enter Tryz.func133,Tryz.ntmps133
  go_wp2
  clear hb
  go_ret
  exact ⟨rfl,rfl⟩
theorem refturn_14 (x:UInt64) (w:World) :
    Calls Tryz.prog 99 #[.int .u64 (x.toNat:Int),.int .u64 14] w fun e w'=>e= .returned (.int .u64 ((rotr x 14).toNat:Int))∧w=w':=by
  have HR:=Lib.hid (rotr_add x 14 (by decide) (by decide))
  go_enter Tryz.func99,Tryz.ntmps99
  go_wp2
  go_ret
  exact ⟨ret_int (by rw [HR.out]),rfl⟩
theorem turn_18 (x:UInt64) (w:World) :
    Calls Tryz.prog 133 #[.int .u64 (x.toNat:Int),.int .i64 18] w fun e w'=>e= .returned (.int .u64 ((rotr x 18).toNat:Int))∧w=w':=by
  have hb:bits .and .u64 (IntKind.u64.wrap (-18)) 63=46:=by decide
  go_enter Tryz.func133,Tryz.ntmps133
  go_wp2
  clear hb
  go_ret
  exact ⟨rfl,rfl⟩
theorem refturn_18 (x:UInt64) (w:World) :
    Calls Tryz.prog 99 #[.int .u64 (x.toNat:Int),.int .u64 18] w fun e w'=>e= .returned (.int .u64 ((rotr x 18).toNat:Int))∧w=w':=by
  have HR:=Lib.hid (rotr_add x 18 (by decide) (by decide))
  go_enter Tryz.func99,Tryz.ntmps99
  go_wp2
  go_ret
  exact ⟨ret_int (by rw [HR.out]),rfl⟩
theorem turn_19 (x:UInt64) (w:World) :
    Calls Tryz.prog 133 #[.int .u64 (x.toNat:Int),.int .i64 19] w fun e w'=>e= .returned (.int .u64 ((rotr x 19).toNat:Int))∧w=w':=by
  have hb:bits .and .u64 (IntKind.u64.wrap (-19)) 63=45:=by decide
  go_enter Tryz.func133,Tryz.ntmps133
  go_wp2
  clear hb
  go_ret
  exact ⟨rfl,rfl⟩
theorem refturn_19 (x:UInt64) (w:World) :
    Calls Tryz.prog 99 #[.int .u64 (x.toNat:Int),.int .u64 19] w fun e w'=>e= .returned (.int .u64 ((rotr x 19).toNat:Int))∧w=w':=by
  have HR:=Lib.hid (rotr_add x 19 (by decide) (by decide))
  go_enter Tryz.func99,Tryz.ntmps99
  go_wp2
  go_ret
  exact ⟨ret_int (by rw [HR.out]),rfl⟩
theorem turn_28 (x:UInt64) (w:World) :
    Calls Tryz.prog 133 #[.int .u64 (x.toNat:Int),.int .i64 28] w fun e w'=>e= .returned (.int .u64 ((rotr x 28).toNat:Int))∧w=w':=by
  have hb:bits .and .u64 (IntKind.u64.wrap (-28)) 63=36:=by decide
  go_enter Tryz.func133,Tryz.ntmps133
  go_wp2
  clear hb
  go_ret
  exact ⟨rfl,rfl⟩
theorem refturn_28 (x:UInt64) (w:World) :
    Calls Tryz.prog 99 #[.int .u64 (x.toNat:Int),.int .u64 28] w fun e w'=>e= .returned (.int .u64 ((rotr x 28).toNat:Int))∧w=w':=by
  have HR:=Lib.hid (rotr_add x 28 (by decide) (by decide))
  go_enter Tryz.func99,Tryz.ntmps99
  go_wp2
  go_ret
  exact ⟨ret_int (by rw [HR.out]),rfl⟩
theorem turn_34 (x:UInt64) (w:World) :
    Calls Tryz.prog 133 #[.int .u64 (x.toNat:Int),.int .i64 34] w fun e w'=>e= .returned (.int .u64 ((rotr x 34).toNat:Int))∧w=w':=by
  have hb:bits .and .u64 (IntKind.u64.wrap (-34)) 63=30:=by decide
  go_enter Tryz.func133,Tryz.ntmps133
  go_wp2
  clear hb
  go_ret
  exact ⟨rfl,rfl⟩
theorem refturn_34 (x:UInt64) (w:World) :
    Calls Tryz.prog 99 #[.int .u64 (x.toNat:Int),.int .u64 34] w fun e w'=>e= .returned (.int .u64 ((rotr x 34).toNat:Int))∧w=w':=by
  have HR:=Lib.hid (rotr_add x 34 (by decide) (by decide))
  go_enter Tryz.func99,Tryz.ntmps99
  go_wp2
  go_ret
  exact ⟨ret_int (by rw [HR.out]),rfl⟩
theorem turn_39 (x:UInt64) (w:World) :
    Calls Tryz.prog 133 #[.int .u64 (x.toNat:Int),.int .i64 39] w fun e w'=>e= .returned (.int .u64 ((rotr x 39).toNat:Int))∧w=w':=by
  have hb:bits .and .u64 (IntKind.u64.wrap (-39)) 63=25:=by decide
  go_enter Tryz.func133,Tryz.ntmps133
  go_wp2
  clear hb
  go_ret
  exact ⟨rfl,rfl⟩
theorem refturn_39 (x:UInt64) (w:World) :
    Calls Tryz.prog 99 #[.int .u64 (x.toNat:Int),.int .u64 39] w fun e w'=>e= .returned (.int .u64 ((rotr x 39).toNat:Int))∧w=w':=by
  have HR:=Lib.hid (rotr_add x 39 (by decide) (by decide))
  go_enter Tryz.func99,Tryz.ntmps99
  go_wp2
  go_ret
  exact ⟨ret_int (by rw [HR.out]),rfl⟩
theorem turn_41 (x:UInt64) (w:World) :
    Calls Tryz.prog 133 #[.int .u64 (x.toNat:Int),.int .i64 41] w fun e w'=>e= .returned (.int .u64 ((rotr x 41).toNat:Int))∧w=w':=by
  have hb:bits .and .u64 (IntKind.u64.wrap (-41)) 63=23:=by decide
  go_enter Tryz.func133,Tryz.ntmps133
  go_wp2
  clear hb
  go_ret
  exact ⟨rfl,rfl⟩
theorem refturn_41 (x:UInt64) (w:World) :
    Calls Tryz.prog 99 #[.int .u64 (x.toNat:Int),.int .u64 41] w fun e w'=>e= .returned (.int .u64 ((rotr x 41).toNat:Int))∧w=w':=by
  have HR:=Lib.hid (rotr_add x 41 (by decide) (by decide))
  go_enter Tryz.func99,Tryz.ntmps99
  go_wp2
  go_ret
  exact ⟨ret_int (by rw [HR.out]),rfl⟩
theorem turn_61 (x:UInt64) (w:World) :
    Calls Tryz.prog 133 #[.int .u64 (x.toNat:Int),.int .i64 61] w fun e w'=>e= .returned (.int .u64 ((rotr x 61).toNat:Int))∧w=w':=by
  have hb:bits .and .u64 (IntKind.u64.wrap (-61)) 63=3:=by decide
  go_enter Tryz.func133,Tryz.ntmps133
  go_wp2
  clear hb
  go_ret
  exact ⟨rfl,rfl⟩
theorem refturn_61 (x:UInt64) (w:World) :
    Calls Tryz.prog 99 #[.int .u64 (x.toNat:Int),.int .u64 61] w fun e w'=>e= .returned (.int .u64 ((rotr x 61).toNat:Int))∧w=w':=by
  have HR:=Lib.hid (rotr_add x 61 (by decide) (by decide))
  go_enter Tryz.func99,Tryz.ntmps99
  go_wp2
  go_ret
  exact ⟨ret_int (by rw [HR.out]),rfl⟩
end Go.Proofs.YtdakeodebgggfaaGreatDoor
namespace Go.Proofs.YtdakeodebgggfaaGreatDoor
open Go.RowKit
section
variable {α:Type} {w w':World} {S:Nat→Prop}
theorem sl_box {r:Rep α} {g:Nat} {cs:Array Value} {t:TypeId} {xs:List α} {n c:Nat} (h:w.heap[g]?=some (.cells cs t (0,0))) (hg:S g) (hn:xs.length=n) (hc:n≤c) (hm:c≤9223372036854775807)
    (hr: ∀ i x,xs[i]?=some x→r.rd w S ((cs.toList.drop (i*r.size)).take r.size) x):r.sl w S (some ⟨g,0,none⟩) n c xs:=by
  refine ⟨hn,hc,hm,fun _=>⟨g,0,rfl,hg,fun i x hx=>⟨_,hr i x hx,fun j u hu=>?_⟩⟩⟩
  have hj:j<r.size:=by
    have:=(List.getElem?_eq_some_iff.1 hu).1
    rw [r.len (hr i x hx)] at this
    exact this
  rw [List.getElem?_take,if_pos hj,List.getElem?_drop] at hu
  rw [Nat.zero_add]
  exact boxed h _ _ hu
theorem box_set {g j:Nat} {cs:Array Value} {t:TypeId} (h:w.heap[g]?=some (.cells cs t (0,0))) (u:Value):(w.setCell ⟨g,j,none⟩ u).heap[g]?=some (.cells (cs.setIfInBounds j u) t (0,0)):=by
  simp [World.setCell,Array.getElem?_modify,h]
theorem cell_far {p q:Addr} {u:Value} (h:q.block≠p.block):(w.setCell p u).cell? q=w.cell? q:=World.cell?_of_block (Below.heap_setCell w p u q.block h)
theorem Rep.sl_setFar {r:Rep α} {A:Option Addr} {n c g j:Nat} {xs:List α} {u:Value} (h:r.sl w S A n c xs) (hS: ∀ b,S b→b≠g):r.sl (w.setCell ⟨g,j,none⟩ u) S A n c xs:=r.sl_keep h fun p hp=>cell_far (hS _ hp)
theorem box_far {g:Nat} {x:Obj} {p:Addr} (h:w.heap[g]?=some x) (hp:g≠p.block) (u:Value):(w.setCell p u).heap[g]?=some x:=(Below.heap_setCell w p u g hp).trans h
theorem grownBy_set {a:World} {g j:Nat} (h:a.grownBy w (some g)) (u:Value):a.grownBy (w.setCell ⟨g,j,none⟩ u) (some g):=
  ⟨h.os,h.tape,h.output,by simpa [World.setCell] using h.size,fun i hi hr=>(Below.heap_setCell w _ u i (by rintro rfl;exact hr rfl)).trans (h.block i hi hr)⟩
theorem grownBy_of_below {a:World} (h:Below a.heap.size a w) (row:Option Nat):a.grownBy w row:=⟨h.os,h.tape,h.output,h.size,fun k hk _=>h.block k hk⟩
theorem grownBy_any {a:World} (h:a.grownBy w none) (row:Option Nat):a.grownBy w row:=⟨h.os,h.tape,h.output,h.size,fun k hk _=>h.block k hk (by simp)⟩
theorem Rep.own_setFar {r:Rep α} {e:TypeId} {base:Nat} {v:Value} {xs:List α} {p:Addr} {u:Value} (h:r.own e w base (fun _=>False) v xs) (hp:some p.block≠v.ownBlock):r.own e (w.setCell p u) base (fun _=>False) v xs:=
  r.own_kept (row:=some p.block) h ⟨rfl,rfl,rfl,by simp [World.setCell],fun k _ hk=>Below.heap_setCell w p u k (by rintro rfl;exact hk rfl)⟩ (.inr (Ne.symm hp)) fun _ h=>h.elim
theorem grownBy_drew {a:World} {row:Option Nat} (h:a.grownBy w row):a.grownBy w.drew row:=⟨h.os,h.tape,h.output,h.size,h.block⟩
end
section
variable {α:Type} {P:Program} {w:World} {ops:Array Oper} {rest:List Oper} {o:Oper} {a:Act} {Q:Exit→Act→World→Prop}
theorem conv_sb {src dst e:TypeId} (hs:P.underlying src=some .string) (hd:P.underlying dst=some (.slice e)) (he:P.underlying e=some (.int .u8)) (w:World) (xs:List UInt8) (hx:xs.length≤9223372036854775807) :
    ∃ A c w',(convert src dst (.string ⟨xs.toArray⟩)).run P w= .ok (.slice A xs.length c) w'∧Rep.u8.sl w' (fun b=>b=w.heap.size) A xs.length c xs∧Below w.heap.size w w':=by
  have hl:ByteArray.size ⟨xs.toArray⟩=xs.length:=by simp [ByteArray.size]
  have hr:=Lib.run_convert_string_bytes (P:=P) w src dst e ⟨xs.toArray⟩ hs hd he
  rw [hl] at hr
  refine ⟨_,_,_,hr,⟨rfl,grownCap_ge _ _ _ _,by have:=grownCap_le_maxLen w xs.length 0 e (by simpa [maxLen] using hx);simpa [maxLen] using this,fun hn=>⟨_,0,rfl,rfl,fun i x hi=>⟨[.int .u8 (x.toNat:Int)],rfl,fun j u hu=>?_⟩⟩⟩,?_⟩
  · have hil:i<xs.length:=(List.getElem?_eq_some_iff.1 hi).1
    cases j with
    | zero =>
      simp at hu
      subst hu
      have:=Lib.bytesWorld_cell w e ⟨xs.toArray⟩ i (by rw [hl];exact hil)
      rw [show Rep.u8.size=1 from rfl,Nat.mul_one,Nat.zero_add,Nat.add_zero,this]
      simp [List.getD,hi]
    | succ j=>simp at hu
  · refine ⟨?_,?_,?_,by rw [Lib.bytesWorld_size];omega,fun k hk=>Lib.bytesWorld_at_old w e _ k hk⟩
    all_goals
      unfold Lib.bytesWorld World.freeze
      split <;> rfl
theorem step_app1 {S:Nat→Prop} {K:Act→World→Prop} {E:Prop} (hgd:o.guard=none) {r:Rep α} {t e:TypeId} {z:Value} {bytes:Nat} (T:ElemT P t e z r.size bytes) (s x:Operand)
    (ho:o.op= .call { callee:= .builtin .append,args:= #[s,x],argTypes:= #[t,t] }) {base:Nat} {v:Value} {xs:List α} (hs:a.eval s=v) (hown:r.own e w base S v xs)
    {ad:Addr} {c:Nat} (news:List Value) (y:α) (hx:a.eval x= .slice (some ad) 1 c) (hA: ∀ j u,news[j]?=some u→w.cell? (ad.add j)=some u) (hy:r.rd w S news y)
    (hbytes:(xs.length+1)*bytes≤140737488355328) (h63:xs.length+1≤9223372036854775807) (hbase:base≤w.heap.size) (hS: ∀ b,S b→b<w.heap.size∧some b≠v.ownBlock)
    (h: ∀ v' w',r.own e w' base S v' (xs++[y])→w.grownBy w' v.ownBlock→K (a.put o.dst v') w'):if Region.wanted o (yielded ops a.tmps)=true then Oper.wp P o a w K Q else E:=by
  have hw:Region.wanted o (yielded ops a.tmps)=true:=by simp [Region.wanted,hgd]
  rw [if_pos hw]
  exact wp_app T s x ho hs hown (A:=some ad) (m:=1) (c:=c) news (ys:=[y]) hx (by rw [r.len hy];omega) (fun _=>⟨ad,rfl,hA⟩) (r.one hy) rfl (rd_one hy) hbytes h63 hbase hS fun v' w' h2 h3 _=>h v' w' h2 h3
end
end Go.Proofs.YtdakeodebgggfaaGreatDoor
namespace Go.Proofs.YtdakeodebgggfaaGreatDoor
open Go.RowKit Go.Lib
def wcell (n:Nat):Value:= .int .u64 (n:Int)
def wcells (xs:List Nat):Array Value:=(xs.map wcell).toArray
def m64:Nat:=18446744073709551616
def Words (k:Nat) (xs:List Nat):Prop:=xs.length=k∧ ∀ a∈xs,a<m64
theorem wcell_at {w:World} {g:Nat} {xs:List Nat} {t:TypeId} (h:w.heap[g]?=some (.cells (wcells xs) t (0,0))) {i:Nat} (hi:i<xs.length):w.cell? ⟨g,i,none⟩=some (.int .u64 ((xs.getD i 0:Nat):Int)):=by
  refine boxed h i _ ?_
  simp [wcells,wcell,hi]
theorem wcell_set {w:World} {g:Nat} {xs:List Nat} {t:TypeId} (h:w.heap[g]?=some (.cells (wcells xs) t (0,0))) (i:Nat) (n:Nat):(w.setCell ⟨g,i,none⟩ (.int .u64 (n:Int))).heap[g]?=some (.cells (wcells (xs.set i n)) t (0,0)):=by
  rw [box_set h]
  congr 2
  apply Array.ext'
  simp [wcells,wcell,List.map_set]
theorem Words.lt {k:Nat} {xs:List Nat} (h:Words k xs) (i:Nat):xs.getD i 0<m64:=by
  rw [List.getD_eq_getElem?_getD]
  cases hx:xs[i]? with
  | none=>decide
  | some a=>exact h.2 a (List.mem_of_getElem? hx)
theorem Words.set {k:Nat} {xs:List Nat} (h:Words k xs) (i n:Nat) (hn:n<m64):Words k (xs.set i n):=by
  refine ⟨by rw [List.length_set];exact h.1,fun a ha=>?_⟩
  rcases List.mem_or_eq_of_mem_set ha with h'|h'
  · exact h.2 a h'
  · rw [h'];exact hn
def mhi (a b:Nat):Nat:=a*b/m64
def mlo (a b:Nat):Nat:=a*b%m64
def asum (a b:Nat):Nat:=(a+b)%m64
def acar (a b:Nat):Nat:=(a+b)/m64
theorem asum_lt (a b:Nat):asum a b<m64:=Nat.mod_lt _ (by decide)
theorem word_add (a b:Nat):Op.intArith .add .u64 (a:Int) (b:Int)=pure (.int .u64 (asum a b:Int)):=by
  show pure (Value.int .u64 (IntKind.u64.wrap ((a:Int)+(b:Int))))=pure (Value.int .u64 (asum a b:Int))
  rw [IntKind.wrap_u64]
  unfold asum m64
  congr 2
theorem word_add64 (a b:Nat) (w:World):(callFunc 114 #[.int .u64 (a:Int),.int .u64 (b:Int),.int .u64 0]).run Tryz.prog w= .ok (.value (.tuple #[.int .u64 (asum a b:Int),.int .u64 (acar a b:Int)])) w:=by
  rw [run_callFunc_extern Tryz.func114 (by kernel_rfl) (by kernel_rfl) (by kernel_rfl) (e:=add64Entry) (by kernel_rfl),run_add64 (a:Int) (b:Int) 0 (by omega) (by omega) (by omega) (by omega)]
  unfold asum acar m64
  rw [Int.add_zero]
  rfl
namespace Mul64
theorem maskN (a:Nat) (ha:a<18446744073709551616):bits .and .u64 (a:Int) 4294967295=((a%4294967296:Nat):Int):=by
  have h:=bits_and_u64_nat a 4294967295 ha (by omega)
  have e:a &&& 4294967295=a%4294967296:=Nat.and_two_pow_sub_one_eq_mod a 32
  rw [e] at h
  exact h
theorem divN (a:Nat):(a:Int)/4294967296=((a/4294967296:Nat):Int):=by omega
theorem mulN (a b:Nat):(a:Int)*(b:Int)=((a*b:Nat):Int):=(Int.natCast_mul a b).symm
theorem addN (a b:Nat):(a:Int)+(b:Int)=((a+b:Nat):Int):=(Int.natCast_add a b).symm
theorem wrapN (a:Nat) (ha:a<18446744073709551616):IntKind.u64.wrap (a:Int)=(a:Int):=by rw [IntKind.wrap_u64];omega
theorem wrapM (a:Nat):IntKind.u64.wrap (a:Int)=((a%18446744073709551616:Nat):Int):=by rw [IntKind.wrap_u64];omega
end Mul64
set_option maxHeartbeats 1000000 in
theorem mul64_c (x y:Nat) (hx:x<m64) (hy:y<m64) (w:World) :
    Calls Tryz.prog 115 #[.int .u64 x,.int .u64 y] w fun e w'=>e= .returned (.tuple #[.int .u64 (mhi x y:Int),.int .u64 (mlo x y:Int)])∧w=w':=by
  unfold mhi mlo
  unfold m64 at hx hy ⊢
  obtain ⟨bd,bt,bw,hhi⟩:=Lib.mul64_hi x y hx hy
  have ba:=Lib.half_mul_le (a:=x/4294967296) (b:=y/4294967296) (by omega) (by omega)
  have bb:=Lib.half_mul_le (a:=x/4294967296) (b:=y%4294967296) (by omega) (by omega)
  have bc:=Lib.half_mul_le (a:=x%4294967296) (b:=y/4294967296) (by omega) (by omega)
  have ba':x/4294967296*(y/4294967296)<18446744073709551616:=by omega
  have bb':x/4294967296*(y%4294967296)<18446744073709551616:=by omega
  have bc':x%4294967296*(y/4294967296)<18446744073709551616:=by omega
  have bh1:x/4294967296*(y/4294967296)+(x/4294967296*(y%4294967296)+x%4294967296*(y%4294967296)/4294967296)/4294967296<18446744073709551616:=by omega
  have bh:x/4294967296*(y/4294967296)+(x/4294967296*(y%4294967296)+x%4294967296*(y%4294967296)/4294967296)/4294967296+((x/4294967296*(y%4294967296)+x%4294967296*(y%4294967296)/4294967296)%4294967296+x%4294967296*(y/4294967296))/4294967296<18446744073709551616:=by rw [hhi];exact Nat.div_lt_of_lt_mul (Nat.mul_lt_mul_of_lt_of_lt hx hy)
  go_enter Tryz.func115,Tryz.ntmps115
  go_wp2
  simp only [Mul64.maskN x hx,Mul64.maskN y hy,Mul64.divN,Mul64.mulN,Mul64.addN,Mul64.wrapN _ bd,Mul64.wrapN _ bb',Mul64.wrapN _ bt,Mul64.maskN _ bt,Mul64.wrapN _ bc',Mul64.wrapN _ bw,Mul64.wrapN _ ba',Mul64.wrapN _ bh1,Mul64.wrapN _ bh,Mul64.wrapM (x*y)]
  rw [hhi]
  go_ret2
  exact ⟨rfl,rfl⟩
theorem quiet_eq {P:Program} {f:FuncId} {args:Array Value} {w:World} {n:Nat} {v:Value}
    (h:Calls P f args (w.drewN n) fun e w'=>e= .returned v∧w.drewN n=w'):Calls P f args (w.drewN n) fun e w''=>e= .returned v∧ ∃ m,w''=w.drewN m:=
  h.mono fun _ _ ⟨he,hm⟩=>⟨he,n,hm.symm⟩
theorem below_drewN {B:Nat} {a w:World} (h:Below B a w) (n:Nat):Below B a (w.drewN n):=⟨h.os,h.tape,h.output,h.size,h.block⟩
theorem box_at2 {w:World} {g:Nat} {cs:Array Value} {t:TypeId} (h:g=w.heap.size):(w.alloc (.cells cs t)).heap[g]?=some (.cells cs t (0,0)):=by
  subst h
  exact box_new w cs t
def stepT (x y:List Nat) (i k:Nat) (s:List Nat × Nat):List Nat × Nat:=
  (s.1.set (i+k) (asum (asum (mlo (x.getD i 0) (y.getD k 0)) (s.1.getD (i+k) 0)) s.2),
   asum (asum (mhi (x.getD i 0) (y.getD k 0)) (acar (mlo (x.getD i 0) (y.getD k 0)) (s.1.getD (i+k) 0))) (acar (asum (mlo (x.getD i 0) (y.getD k 0)) (s.1.getD (i+k) 0)) s.2))
def rowT (x y:List Nat) (i:Nat):Nat→List Nat × Nat→List Nat × Nat
  | 0,s=>s
  | n+1,s=>rowT x y i n (stepT x y i (4-i-(n+1)) s)
def allT (x y:List Nat):Nat→List Nat→List Nat
  | 0,s=>s
  | n+1,s=>allT x y n (rowT x y (4-(n+1)) (4-(4-(n+1))) (s,0)).1
def timesL (x y:List Nat):List Nat:=allT x y 4 [0,0,0,0]
attribute [local go_sem ↓] word_add word_add64
set_option maxHeartbeats 4000000 in
set_option maxRecDepth 100000 in
theorem times_c (x y:List Nat) (hx:Words 4 x) (hy:Words 4 y) (w:World) :
    Calls Tryz.prog 138 #[.agg (wcells x),.agg (wcells y)] w fun e w'=>e= .returned (.agg (wcells (timesL x y)))∧Below w.heap.size w w':=by
  go_enter Tryz.func138,Tryz.ntmps138
  go_wp2
  go_loopw [12] (fun i wr=> ∃ (j:Nat) (out:List Nat),j≤4∧i= .int .i64 j∧Words 4 out∧Hid (timesL x y=allT x y (4-j) out)∧wr.heap[w.heap.size]?=some (.cells (wcells x) 178 (0,0))∧wr.heap[w.heap.size+1]?=some (.cells (wcells y) 178 (0,0)) ∧
    wr.heap[w.heap.size+1+1]?=some (.cells (wcells [0,0,0,0]) 178 (0,0))∧wr.heap[w.heap.size+1+1+1]?=some (.cells (wcells out) 178 (0,0))∧Below w.heap.size w wr) (fun i _=>4-(RowKit.intOf i).toNat)
  case atStart=>exact ⟨0,[0,0,0,0],by omega,rfl,⟨rfl,by decide⟩,rfl,box_alloc (box_alloc (box_alloc (box_at2 rfl) _) _) _,box_alloc (box_alloc (box_at2 (by simp)) _) _,box_alloc (box_at2 (by simp)) _,box_at2 (by simp),by go_grown⟩
  case round =>
    obtain ⟨j,out,hj,rfl,hw,HT,hbx,hby,hbr,hbo,hB⟩:=hrel
    by_cases hlt:j<4
    · obtain ⟨wo,rfl⟩: ∃ wo:World,wo=wr:=⟨_,rfl⟩
      go_wp2
      go_loopw [7,8] (fun cr kk wq=> ∃ (k:Nat) (out2:List Nat) (cy:Nat),k≤4-j∧kk= .int .i64 k∧cr= .int .u64 cy∧cy<m64∧Words 4 out2∧Hid (rowT x y j (4-j) (out,0)=rowT x y j (4-j-k) (out2,cy))∧wq.heap[w.heap.size]?=some (.cells (wcells x) 178 (0,0))∧wq.heap[w.heap.size+1]?=some (.cells (wcells y) 178 (0,0)) ∧
        wq.heap[w.heap.size+1+1]?=some (.cells (wcells [0,0,0,0]) 178 (0,0))∧wq.heap[w.heap.size+1+1+1]?=some (.cells (wcells out2) 178 (0,0))∧Below w.heap.size w wq) (fun _ kk _=>4-(RowKit.intOf kk).toNat)
      case atStart=>exact ⟨0,out,0,by omega,rfl,rfl,by decide,hw,rfl,hbx,hby,hbr,hbo,hB⟩
      case round =>
        obtain ⟨k,out2,cy,hk,rfl,rfl,hcy,hw2,HT2,hbx2,hby2,hbr2,hbo2,hB2⟩:=hrel
        by_cases hlk:j+k<4
        · have c1:=wcell_at hbx2 (i:=j) (by have:=hx.1;omega)
          have c2:=wcell_at hby2 (i:=k) (by have:=hy.1;omega)
          have c3:=wcell_at hbo2 (i:=j+k) (by have:=hw2.1;omega)
          have f3:=boxed_frozen hbo2 (j+k)
          have b1:=hx.lt j
          have b2:=hy.lt k
          have b3:=hw2.lt (j+k)
          generalize ha:x.getD j 0=a at *
          generalize hb:y.getD k 0=b at *
          generalize hc:out2.getD (j+k) 0=c at *
          have HA:=Lib.hid ha
          have HB:=Lib.hid hb
          have HC:=Lib.hid hc
          clear ha hb hc
          go_wp2
          have hjk:((j:Int)+(k:Int)).toNat=j+k:=by omega
          go_quiet ((go_at_call 115;exact quiet_eq (mul64_c a b b1 b2 _)))
          go_wp2
          have HS:Hid (rowT x y j (4-j) (out,0)=rowT x y j (4-j-(k+1)) (stepT x y j k (out2,cy))):=by
            show _=_
            rw [HT2.out,show 4-j-k=(4-j-(k+1))+1 by omega,rowT,show 4-j-(4-j-(k+1)+1)=k by omega]
          rw [show stepT x y j k (out2,cy)=(out2.set (j+k) (asum (asum (mlo a b) c) cy),asum (asum (mhi a b) (acar (mlo a b) c)) (acar (asum (mlo a b) c) cy)) by unfold stepT;rw [HA.out,HB.out,HC.out]] at HS
          go_roundw
          case rel=>exact ⟨k+1,_,_,by omega,by go_num,rfl,asum_lt _ _,hw2.set _ _ (asum_lt _ _),HS,box_far (w:=wr.drewN nq) hbx2 (by simp only;omega) _,box_far (w:=wr.drewN nq) hby2 (by simp only;omega) _,box_far (w:=wr.drewN nq) hbr2 (by simp only;omega) _,wcell_set (w:=wr.drewN nq) hbo2 _ _,Below.setCell (below_drewN hB2 nq) (by simp only;omega) _⟩
          case measure=>simp [RowKit.intOf];omega
        · have HS:Hid (timesL x y=allT x y (4-(j+1)) out2):=by
            show _=_
            have h1:=HT2.out
            rw [HT.out,show 4-j=(4-(j+1))+1 by omega,allT,show 4-(4-(j+1)+1)=j by omega,h1,show 4-j-k=0 by omega]
            rfl
          go_wp2
          go_roundw
          case rel=>exact ⟨j+1,out2,by omega,by go_num,hw2,HS,hbx2,hby2,hbr2,hbo2,hB2⟩
          case measure=>simp [RowKit.intOf];omega
    · have hj4:j=4:=by omega
      have HS:Hid (out=timesL x y):=by
        show _=_
        rw [HT.out,hj4]
        rfl
      obtain ⟨o0,o1,o2,o3,ho⟩: ∃ o0 o1 o2 o3,out=[o0,o1,o2,o3]:=by
        match out,hw.1 with
        | [a,b,c,d],_=>exact ⟨a,b,c,d,rfl⟩
      subst ho
      clear hj4
      have hc:=boxed hbo
      have co0:=hc 0 _ rfl;have co1:=hc 1 _ rfl;have co2:=hc 2 _ rfl;have co3:=hc 3 _ rfl
      have hd:=boxed hbr
      have cr0:=hd 0 _ rfl;have cr1:=hd 1 _ rfl;have cr2:=hd 2 _ rfl;have cr3:=hd 3 _ rfl
      have fr0:=boxed_frozen hbr 0;have fr1:=boxed_frozen hbr 1;have fr2:=boxed_frozen hbr 2;have fr3:=boxed_frozen hbr 3
      clear hc hd
      simp only [wcell] at co0 co1 co2 co3 cr0 cr1 cr2 cr3
      go_wp2
      refine bodyPost_ret (results_cell_row rfl _ _ (w.heap.size+1+1) 178 (wcells [o0,o1,o2,o3]) (0,0) _ rfl (box_set (box_set (box_set (box_set hbr _) _) _) _) Tryz.underlying178 rfl (by kernel_rfl)) rfl ?_
      exact ⟨by rw [HS.out],by go_grown⟩
end Go.Proofs.YtdakeodebgggfaaGreatDoor
namespace Go.Proofs.YtdakeodebgggfaaGreatDoor
open Go.RowKit Go.Lib
def HaltedO (p:Prop):Prop:=p
theorem go_onO {p:Prop} (h:p):HaltedO p:=h
theorem haltO {p:Prop} (h:HaltedO p):p:=h
attribute [irreducible] HaltedO
section
variable {P:Program} {w:World} {ops:Array Oper} {rest:List Oper} {o:Oper} {a:Act} {Q:Exit→Act→World→Prop}
theorem halt_load {ty:TypeId} {x:Operand} (ho:o.op= .load ty x) (h:HaltedO (wpList P ops Q (o::rest) a w)):wpList P ops Q (o::rest) a w:=haltO h
theorem halt_store {ty:TypeId} {x y:Operand} (ho:o.op= .store ty x y) (h:HaltedO (wpList P ops Q (o::rest) a w)):wpList P ops Q (o::rest) a w:=haltO h
theorem wcells_size (xs:List Nat):(wcells xs).size=xs.length:=by simp [wcells]
theorem wcells_one (xs:List Nat):(wcells xs).all (·.oneCell')=true:=by
  simp only [wcells,Array.all_toList.symm,List.all_eq_true,List.mem_map]
  rintro v ⟨n,_,rfl⟩
  rfl
theorem wpList_loadW (hgd:o.guard=none) (ty:TypeId) (x:Operand) (ho:o.op= .load ty x) (g:Nat) (hx:a.eval x= .pointer (some ⟨g,0,none⟩)) (xs:List Nat) {k:Nat} (hl:xs.length=k) {t e:TypeId}
    (hg:w.heap[g]?=some (.cells (wcells xs) t (0,0))) (hu:P.underlying ty=some (.array k e)) (hi:(P.info? ty).map (·.size)=some k)
    (h:wpList P ops Q rest (a.put o.dst (.agg (wcells xs))) w):wpList P ops Q (o::rest) a w:=
  wpList_load_row hgd ty x ho g hx t (wcells xs) (0,0) _ hg hu rfl (by rw [wcells_size,hl];exact hi) h
theorem wpList_storeW (hgd:o.guard=none) (ty:TypeId) (x y:Operand) (ho:o.op= .store ty x y) (g:Nat) (ys:List Nat) (hx:a.eval x= .pointer (some ⟨g,0,none⟩)) (hy:a.eval y= .agg (wcells ys)) {k:Nat} (hl:ys.length=k) {t:TypeId} {old:Array Value}
    (hg:w.heap[g]?=some (.cells old t (0,0))) (hold:old.size=k) (hi:(P.info? ty).map (·.size)=some k)
    (h: ∀ w':World,w'.heap[g]?=some (.cells (wcells ys) t (0,0))→w.grownBy w' (some g)→w'.heap.size=w.heap.size→wpList P ops Q rest (a.put o.dst undef) w'):wpList P ops Q (o::rest) a w:=by
  refine wpList_store_row hgd ty x y ho g (wcells ys) hx hy t old hg (by rw [wcells_size,hl];exact hi) (by rw [wcells_size,hl];exact hold) (wcells_one ys) (h _ (setRow_heap w g old _ t _ hg) ⟨rfl,rfl,rfl,by simp,fun i hi hr=>setRow_other w g i _ (by rintro rfl;exact hr rfl)⟩ (by simp))
end
def aboveAt (x y:List Nat):Nat→Bool
  | 0=>false
  | n+1=>if x.getD n 0=y.getD n 0 then aboveAt x y n else decide (y.getD n 0<x.getD n 0)
set_option maxHeartbeats 1000000 in
set_option maxRecDepth 100000 in
theorem above_c (x y:List Nat) (hx:Words 4 x) (hy:Words 4 y) (w:World) :
    Calls Tryz.prog 139 #[.agg (wcells x),.agg (wcells y)] w fun e w'=>e= .returned (.bool (aboveAt x y 4))∧Below w.heap.size w w':=by
  go_enter Tryz.func139,Tryz.ntmps139
  go_wp2
  go_loopw [5] (fun i wr=> ∃ (n:Nat),n≤4∧i= .int .i64 ((n:Int)-1)∧Hid (aboveAt x y 4=aboveAt x y n)∧wr.heap[w.heap.size]?=some (.cells (wcells x) 178 (0,0))∧wr.heap[w.heap.size+1]?=some (.cells (wcells y) 178 (0,0))∧Below w.heap.size w wr) (fun i _=>(RowKit.intOf i+1).toNat)
  case atStart=>exact ⟨4,by omega,rfl,rfl,box_alloc (box_at2 rfl) _,box_at2 (by simp),by go_grown⟩
  case round =>
    obtain ⟨n,hn,rfl,HT,hbx,hby,hB⟩:=hrel
    by_cases h0:0<n
    · obtain ⟨m,rfl⟩: ∃ m,n=m+1:=⟨n-1,by omega⟩
      have c1:=wcell_at hbx (i:=m) (by have:=hx.1;omega)
      have c2:=wcell_at hby (i:=m) (by have:=hy.1;omega)
      have e1:((m+1:Nat):Int)-1=(m:Int):=by omega
      rw [e1]
      clear e1
      by_cases he:x.getD m 0=y.getD m 0
      · have HS:Hid (aboveAt x y 4=aboveAt x y m):=by
          show _=_
          rw [HT.out,aboveAt,if_pos he]
        rw [he] at c1
        generalize y.getD m 0=b at *
        clear he
        go_wp2
        go_quiet (fail)
        go_wp2
        go_roundw
        case rel=>exact ⟨m,by omega,by go_num,HS,hbx,hby,below_drewN hB _⟩
        case measure=>simp [RowKit.intOf] <;> omega
      · have HS:Hid (aboveAt x y 4=decide (y.getD m 0<x.getD m 0)):=by
          show _=_
          rw [HT.out,aboveAt,if_neg he]
        generalize y.getD m 0=b at *
        generalize x.getD m 0=c at *
        have hne:((c:Int)!=(b:Int))=true:=by simp only [bne_iff_ne,ne_eq];omega
        clear he
        go_wp2
        go_quiet (fail)
        go_wp2
        go_quiet (fail)
        go_wp2
        go_ret
        exact ⟨by rw [HS.out];exact ret_bool (by simp),below_drewN (below_drewN hB _) _⟩
    · obtain rfl:n=0:=by omega
      go_wp2
      go_ret
      exact ⟨by rw [HT.out];rfl,hB⟩
def pow2 (n:Nat):Nat:=2^n
def nor (a b:Nat):Nat:=(a ||| b)%m64
theorem nor_lt (a b:Nat):nor a b<m64:=Nat.mod_lt _ (by decide)
def bitL (x:List Nat) (b:Nat):List Nat:=x.set (b/64) (nor (x.getD (b/64) 0) (pow2 (b%64)))
def powL (y:List Nat):Nat→List Nat→List Nat
  | 0,z=>z
  | n+1,z=>powL y n (timesL z y)
def stepR (goal:List Nat) (power:Nat) (x:List Nat) (b:Nat):List Nat:=
  if aboveAt (powL (bitL x b) (power-1) (bitL x b)) goal 4=true then x else bitL x b
def rootR (goal:List Nat) (power:Nat):Nat→List Nat→List Nat
  | 0,x=>x
  | n+1,x=>rootR goal power n (stepR goal power x n)
def rootN (p power:Nat):Nat:=(rootR ([0,0,0,0].set power p) power 69 [0,0,0,0]).getD 0 0
theorem word_or (a b:Nat):Op.intBits .or .u64 (a:Int) (b:Int)=pure (.int .u64 (nor a b:Int)):=by
  show pure (Value.int .u64 (IntKind.u64.wrap ((BitVec.ofInt 64 (a:Int) ||| BitVec.ofInt 64 (b:Int)).toNat:Int)))=pure (Value.int .u64 (nor a b:Int))
  rw [BitVec.toNat_or,BitVec.ofInt_natCast,BitVec.ofInt_natCast,BitVec.toNat_ofNat,BitVec.toNat_ofNat,IntKind.wrap_u64]
  unfold nor m64
  rw [show (18446744073709551616:Nat)=2^64 from rfl,Nat.or_mod_two_pow]
  congr 2
  have:(a%2^64 ||| b%2^64)<2^64:=Nat.or_lt_two_pow (Nat.mod_lt _ (by decide)) (Nat.mod_lt _ (by decide))
  omega
theorem word_one (yk:IntKind) (n:Int) (h0:0≤n) (h1:n≤63):Op.shift .shl .u64 1 yk n=pure (.int .u64 (pow2 n.toNat:Int)):=by
  show _=pure (Value.int .u64 ((2^n.toNat:Nat):Int))
  rw [shift_shl .u64 yk _ n h0 (by show n≤64;omega)]
  have h2:2^n.toNat<2^64:=Nat.pow_lt_pow_right (by omega) (by omega)
  rw [IntKind.wrap_u64,Int.one_mul]
  congr 2
  have:((2^n.toNat:Nat):Int)=(2:Int)^n.toNat:=by simp
  rw [← this]
  generalize 2^n.toNat=K at *
  omega
theorem timesL_words (x y:List Nat):Words 4 (timesL x y):=by
  have hs: ∀ i k s,Words 4 s.1→Words 4 (stepT x y i k s).1:=fun i k s h=>h.set _ _ (asum_lt _ _)
  have hr: ∀ i n s,Words 4 s.1→Words 4 (rowT x y i n s).1:=by
    intro i n
    induction n with
    | zero=>exact fun s h=>h
    | succ n ih=>exact fun s h=>ih _ (hs _ _ _ h)
  have ha: ∀ n s,Words 4 s→Words 4 (allT x y n s):=by
    intro n
    induction n with
    | zero=>exact fun s h=>h
    | succ n ih=>exact fun s h=>ih _ (hr _ _ _ h)
  exact ha 4 _ ⟨rfl,by decide⟩
attribute [local go_sem ↓] word_or word_one
set_option maxHeartbeats 4000000 in
set_option maxRecDepth 100000 in
theorem root_2 (p:Nat) (hp:p<m64) (w:World) :
    Calls Tryz.prog 132 #[.int .u64 (p:Int),.int .i64 2] w fun e w'=>e= .returned (.int .u64 (rootN p 2:Int))∧Below w.heap.size w w':=by
  have HG:Hid (Words 4 [0,0,p,0]):=Words.set (xs:=[0,0,0,0]) ⟨rfl,by decide⟩ 2 _ hp
  go_enter Tryz.func132,Tryz.ntmps132
  go_wp2
  go_loopw [7] (fun i wr=> ∃ (n:Nat) (x:List Nat),n≤69∧i= .int .i64 ((n:Int)-1)∧Words 4 x∧Hid (rootN p 2=(rootR [0,0,p,0] 2 n x).getD 0 0) ∧
    wr.heap[w.heap.size]?=some (.cells (wcells [0,0,p,0]) 178 (0,0))∧wr.heap[w.heap.size+1]?=some (.cells (wcells x) 178 (0,0))∧Below w.heap.size w wr∧w.heap.size+2≤wr.heap.size) (fun i _=>(RowKit.intOf i+1).toNat)
  case atStart=>exact ⟨69,[0,0,0,0],by omega,rfl,⟨rfl,by decide⟩,rfl,box_alloc (box_at2 rfl) _,box_at2 (by simp),by go_grown,by simp⟩
  case round =>
    obtain ⟨n,x,hn,rfl,hw,HT,hbg,hbx,hB,hsz⟩:=hrel
    by_cases h0:0<n
    · obtain ⟨m,rfl⟩: ∃ m,n=m+1:=⟨n-1,by omega⟩
      have e1:((m+1:Nat):Int)-1=(m:Int):=by omega
      rw [e1]
      clear e1
      go_wp2_with (refine halt_load (ty:=178) rfl ?_)
      refine go_onO (wpList_loadW rfl _ _ rfl _ rfl x hw.1 hbx Tryz.underlying178 (by kernel_rfl) ?_)
      go_wp2_with (refine halt_store (ty:=178) rfl ?_)
      refine go_onO (wpList_storeW rfl _ _ _ rfl _ x rfl rfl hw.1 (box_at2 rfl) rfl (by kernel_rfl) ?_)
      intro w1 hby hg1 hs1
      have hbg1:=box_grown (box_alloc hbg _) hg1 (by simp <;> omega)
      have hbx1:=box_grown (box_alloc hbx _) hg1 (by simp <;> omega)
      have hB1:=(hB.alloc hB.size _).grown hg1 (by simp <;> omega) (fun k e=>by injection e;omega)
      simp only [World.size_alloc] at hs1
      have cy:=wcell_at hby (i:=m/64) (by have:=hw.1;omega)
      have fy:=boxed_frozen hby (m/64)
      have HBL:Hid (bitL x m=x.set (m/64) (nor (x.getD (m/64) 0) (pow2 (m%64)))):=rfl
      generalize x.getD (m/64) 0=b at *
      have hd1:((m:Int)/64).toNat=m/64:=by omega
      have hd2:((m:Int)%64).toNat=m%64:=by omega
      have hd3:(m:Int)/64<4:=by omega
      have hd4:(0:Int)≤(m:Int)/64:=by omega
      have hd5:(0:Int)≤(m:Int)%64:=by omega
      have hd6:(m:Int)%64≤63:=by omega
      have W1:IntKind.i64.wrap ((m:Int)/64)=(m:Int)/64:=IntWalk.i64_in _ (by omega)
      have W2:IntKind.i64.wrap ((m:Int)%64)=(m:Int)%64:=IntWalk.i64_in _ (by omega)
      have W3:(m:Int).tmod 64=(m:Int)%64:=Int.tmod_eq_emod_of_nonneg (by omega)
      clear hbx hbg hB hg1
      go_wp2
      go_region
      have hby2:=wcell_set hby (m/64) (nor b (pow2 (m%64)))
      rw [← HBL.out] at hby2
      have hbg2:=box_far (p:=⟨wr.heap.size,m/64,none⟩) hbg1 (by simp only;omega) (.int .u64 (nor b (pow2 (m%64)):Int))
      have hbx2:=box_far (p:=⟨wr.heap.size,m/64,none⟩) hbx1 (by simp only;omega) (.int .u64 (nor b (pow2 (m%64)):Int))
      have hB2:=(Below.setCell (p:=⟨wr.heap.size,m/64,none⟩) hB1 (by simp only;omega) (.int .u64 (nor b (pow2 (m%64)):Int))).drew
      have hs2:(w1.setCell ⟨wr.heap.size,m/64,none⟩ (.int .u64 (nor b (pow2 (m%64)):Int))).drew.heap.size=wr.heap.size+1:=by simpa using hs1
      have hwy:Words 4 (bitL x m):=hw.set _ _ (nor_lt _ _)
      have hby3:(w1.setCell ⟨wr.heap.size,m/64,none⟩ (.int .u64 (nor b (pow2 (m%64)):Int))).drew.heap[wr.heap.size]?=_:=hby2
      have hbg3:(w1.setCell ⟨wr.heap.size,m/64,none⟩ (.int .u64 (nor b (pow2 (m%64)):Int))).drew.heap[w.heap.size]?=_:=hbg2
      have hbx3:(w1.setCell ⟨wr.heap.size,m/64,none⟩ (.int .u64 (nor b (pow2 (m%64)):Int))).drew.heap[w.heap.size+1]?=_:=hbx2
      generalize (w1.setCell ⟨wr.heap.size,m/64,none⟩ (.int .u64 (nor b (pow2 (m%64)):Int))).drew=w2 at *
      clear hby2 hbg2 hbx2 hby hbg1 hbx1 hB1 cy fy hd1 hd2 hd3 hd4 hd5 hd6 W1 W2 W3 HBL hs1
      have HY:Hid (∃ y,y=bitL x m):=⟨_,rfl⟩
      generalize hy:bitL x m=y at *
      have HY:=Lib.hid hy
      clear hy
      go_wp2_with (refine halt_load (ty:=178) rfl ?_)
      refine go_onO (wpList_loadW rfl _ _ rfl _ rfl y hwy.1 hby3 Tryz.underlying178 (by kernel_rfl) ?_)
      go_wp2_with (refine halt_store (ty:=178) rfl ?_)
      refine go_onO (wpList_storeW rfl _ _ _ rfl _ y rfl rfl hwy.1 (box_at2 hs2.symm) rfl (by kernel_rfl) ?_)
      intro w3 hbz4 hg4 hs4
      have hby4:=box_grown (box_alloc hby3 _) hg4 (by simp <;> omega)
      have hbg4:=box_grown (box_alloc hbg3 _) hg4 (by simp <;> omega)
      have hbx4:=box_grown (box_alloc hbx3 _) hg4 (by simp <;> omega)
      have hB4:=(hB2.alloc hB2.size _).grown hg4 (by simp <;> omega) (fun k e=>by injection e;omega)
      simp only [World.size_alloc] at hs4
      have hs4':wr.heap.size+2≤w3.heap.size:=by omega
      clear hs4 hs2
      clear hby3 hbg3 hbx3 hB2 hg4
      go_wp2
      go_loopw [30] (fun c wq=> ∃ (k:Nat) (z:List Nat),k≤1∧c= .int .i64 k∧Words 4 z∧Hid (powL y 1 y=powL y (1-k) z)∧wq.heap[w.heap.size]?=some (.cells (wcells [0,0,p,0]) 178 (0,0))∧wq.heap[w.heap.size+1]?=some (.cells (wcells x) 178 (0,0)) ∧
        wq.heap[wr.heap.size]?=some (.cells (wcells y) 178 (0,0))∧wq.heap[wr.heap.size+1]?=some (.cells (wcells z) 178 (0,0))∧Below w.heap.size w wq∧wr.heap.size+2≤wq.heap.size) (fun c _=>1-(RowKit.intOf c).toNat)
      case atStart=>exact ⟨0,y,by omega,rfl,hwy,rfl,hbg4,hbx4,hby4,hbz4,hB4,by omega⟩
      case round =>
        rename_i wq _
        obtain ⟨k,z,hk,rfl,hwz,HP,hbg5,hbx5,hby5,hbz5,hB5,hs5⟩:=hrel
        by_cases hlt:k<1
        · go_wp2_with (refine halt_load (ty:=178) rfl ?_)
          refine go_onO (wpList_loadW rfl _ _ rfl _ rfl z hwz.1 hbz5 Tryz.underlying178 (by kernel_rfl) ?_)
          go_wp2_with (refine halt_load (ty:=178) rfl ?_)
          refine go_onO (wpList_loadW rfl _ _ rfl _ rfl y hwy.1 hby5 Tryz.underlying178 (by kernel_rfl) ?_)
          go_wp2_with fail
          refine Calls.mono (times_c z y hwz hwy _) ?_
          rintro e w6 ⟨rfl,hg6⟩
          have hs6:=hg6.size
          have hbg6:=box_below hbg5 hg6 (by omega)
          have hbx6:=box_below hbx5 hg6 (by omega)
          have hby6:=box_below hby5 hg6 (by omega)
          have hbz6:=box_below hbz5 hg6 (by omega)
          have hB6:=hB5.trans (hg6.mono hB5.size)
          have hw6:=timesL_words z y
          have HP6:Hid (powL y 1 y=powL y (1-(k+1)) (timesL z y)):=by
            show _=_
            rw [HP.out,show 1-k=(1-(k+1))+1 by omega,powL]
          clear hbg5 hbx5 hby5 hbz5 hB5 hg6
          generalize timesL z y=z' at *
          go_wp2_with (refine halt_store (ty:=178) rfl ?_)
          refine go_onO (wpList_storeW rfl _ _ _ rfl _ z' rfl rfl hw6.1 hbz6 (by rw [wcells_size,hwz.1]) (by kernel_rfl) ?_)
          intro w7 hbz7 hg7 hs7
          have hbg7:=box_grown hbg6 hg7 (by simp <;> omega)
          have hbx7:=box_grown hbx6 hg7 (by simp <;> omega)
          have hby7:=box_grown hby6 hg7 (by simp <;> omega)
          have hB7:=hB6.grown hg7 (by omega) (fun k e=>by injection e;omega)
          clear hbg6 hbx6 hby6 hbz6 hB6 hg7
          go_wp2
          go_roundw
          case rel=>exact ⟨k+1,z',by omega,by go_num,hw6,HP6,hbg7,hbx7,hby7,hbz7,hB7,by omega⟩
          case measure=>simp [RowKit.intOf] <;> omega
        · have hke:k=1:=by omega
          have HZ:Hid (powL (bitL x m) (2-1) (bitL x m)=z):=by
            show _=_
            rw [HY.out]
            have:=HP.out
            rw [hke] at this
            exact this
          clear hke
          go_wp2_with (refine halt_load (ty:=178) rfl ?_)
          refine go_onO (wpList_loadW rfl _ _ rfl _ rfl z hwz.1 hbz5 Tryz.underlying178 (by kernel_rfl) ?_)
          go_wp2_with (refine halt_load (ty:=178) rfl ?_)
          refine go_onO (wpList_loadW rfl _ _ rfl _ rfl [0,0,p,0] rfl hbg5 Tryz.underlying178 (by kernel_rfl) ?_)
          go_wp2_with fail
          refine Calls.mono (above_c z [0,0,p,0] hwz HG.out _) ?_
          rintro e w6 ⟨rfl,hg6⟩
          have hs6:=hg6.size
          have hbg6:=box_below hbg5 hg6 (by omega)
          have hbx6:=box_below hbx5 hg6 (by omega)
          have hby6:=box_below hby5 hg6 (by omega)
          have hB6:=hB5.trans (hg6.mono hB5.size)
          clear hbg5 hbx5 hby5 hbz5 hB5 hg6
          cases ha:aboveAt z [0,0,p,0] 4 with
          | true =>
            have HT2:Hid (rootN p 2=(rootR [0,0,p,0] 2 m x).getD 0 0):=by
              show _=_
              rw [HT.out,rootR,stepR,HZ.out,if_pos ha]
            clear ha
            go_wp2
            go_roundw
            case rel=>exact ⟨m,x,by omega,by go_num,hw,HT2,hbg6,hbx6,hB6,by omega⟩
            case measure=>simp [RowKit.intOf] <;> omega
          | false =>
            have HT2:Hid (rootN p 2=(rootR [0,0,p,0] 2 m y).getD 0 0):=by
              show _=_
              rw [HT.out,rootR,stepR,HZ.out,ha,if_neg (by decide),HY.out]
            clear ha
            go_wp2_with (refine halt_load (ty:=178) rfl ?_)
            refine go_onO (wpList_loadW rfl _ _ rfl _ rfl y hwy.1 hby6 Tryz.underlying178 (by kernel_rfl) ?_)
            go_wp2_with (refine halt_store (ty:=178) rfl ?_)
            refine go_onO (wpList_storeW rfl _ _ _ rfl _ y rfl rfl hwy.1 hbx6 (by rw [wcells_size,hw.1]) (by kernel_rfl) ?_)
            intro w7 hbx7 hg7 hs7
            have hbg7:=box_grown hbg6 hg7 (by simp)
            have hB7:=hB6.grown hg7 (by omega) (fun k e=>by injection e;omega)
            clear hbg6 hbx6 hby6 hB6 hg7
            go_wp2
            go_roundw
            case rel=>exact ⟨m,y,by omega,by go_num,hwy,HT2,hbg7,hbx7,hB7,by omega⟩
            case measure=>simp [RowKit.intOf] <;> omega
    · obtain rfl:n=0:=by omega
      have c0:=wcell_at hbx (i:=0) (by have:=hw.1;omega)
      have HR:Hid (rootN p 2=x.getD 0 0):=by show _=_;rw [HT.out];rfl
      generalize x.getD 0 0=b at *
      go_wp2
      go_ret
      exact ⟨by rw [HR.out];rfl,hB⟩
set_option maxHeartbeats 4000000 in
set_option maxRecDepth 100000 in
theorem root_3 (p:Nat) (hp:p<m64) (w:World) :
    Calls Tryz.prog 132 #[.int .u64 (p:Int),.int .i64 3] w fun e w'=>e= .returned (.int .u64 (rootN p 3:Int))∧Below w.heap.size w w':=by
  have HG:Hid (Words 4 [0,0,0,p]):=Words.set (xs:=[0,0,0,0]) ⟨rfl,by decide⟩ 3 _ hp
  go_enter Tryz.func132,Tryz.ntmps132
  go_wp2
  go_loopw [7] (fun i wr=> ∃ (n:Nat) (x:List Nat),n≤69∧i= .int .i64 ((n:Int)-1)∧Words 4 x∧Hid (rootN p 3=(rootR [0,0,0,p] 3 n x).getD 0 0) ∧
    wr.heap[w.heap.size]?=some (.cells (wcells [0,0,0,p]) 178 (0,0))∧wr.heap[w.heap.size+1]?=some (.cells (wcells x) 178 (0,0))∧Below w.heap.size w wr∧w.heap.size+2≤wr.heap.size) (fun i _=>(RowKit.intOf i+1).toNat)
  case atStart=>exact ⟨69,[0,0,0,0],by omega,rfl,⟨rfl,by decide⟩,rfl,box_alloc (box_at2 rfl) _,box_at2 (by simp),by go_grown,by simp⟩
  case round =>
    obtain ⟨n,x,hn,rfl,hw,HT,hbg,hbx,hB,hsz⟩:=hrel
    by_cases h0:0<n
    · obtain ⟨m,rfl⟩: ∃ m,n=m+1:=⟨n-1,by omega⟩
      have e1:((m+1:Nat):Int)-1=(m:Int):=by omega
      rw [e1]
      clear e1
      go_wp2_with (refine halt_load (ty:=178) rfl ?_)
      refine go_onO (wpList_loadW rfl _ _ rfl _ rfl x hw.1 hbx Tryz.underlying178 (by kernel_rfl) ?_)
      go_wp2_with (refine halt_store (ty:=178) rfl ?_)
      refine go_onO (wpList_storeW rfl _ _ _ rfl _ x rfl rfl hw.1 (box_at2 rfl) rfl (by kernel_rfl) ?_)
      intro w1 hby hg1 hs1
      have hbg1:=box_grown (box_alloc hbg _) hg1 (by simp <;> omega)
      have hbx1:=box_grown (box_alloc hbx _) hg1 (by simp <;> omega)
      have hB1:=(hB.alloc hB.size _).grown hg1 (by simp <;> omega) (fun k e=>by injection e;omega)
      simp only [World.size_alloc] at hs1
      have cy:=wcell_at hby (i:=m/64) (by have:=hw.1;omega)
      have fy:=boxed_frozen hby (m/64)
      have HBL:Hid (bitL x m=x.set (m/64) (nor (x.getD (m/64) 0) (pow2 (m%64)))):=rfl
      generalize x.getD (m/64) 0=b at *
      have hd1:((m:Int)/64).toNat=m/64:=by omega
      have hd2:((m:Int)%64).toNat=m%64:=by omega
      have hd3:(m:Int)/64<4:=by omega
      have hd4:(0:Int)≤(m:Int)/64:=by omega
      have hd5:(0:Int)≤(m:Int)%64:=by omega
      have hd6:(m:Int)%64≤63:=by omega
      have W1:IntKind.i64.wrap ((m:Int)/64)=(m:Int)/64:=IntWalk.i64_in _ (by omega)
      have W2:IntKind.i64.wrap ((m:Int)%64)=(m:Int)%64:=IntWalk.i64_in _ (by omega)
      have W3:(m:Int).tmod 64=(m:Int)%64:=Int.tmod_eq_emod_of_nonneg (by omega)
      clear hbx hbg hB hg1
      go_wp2
      go_region
      have hby2:=wcell_set hby (m/64) (nor b (pow2 (m%64)))
      rw [← HBL.out] at hby2
      have hbg2:=box_far (p:=⟨wr.heap.size,m/64,none⟩) hbg1 (by simp only;omega) (.int .u64 (nor b (pow2 (m%64)):Int))
      have hbx2:=box_far (p:=⟨wr.heap.size,m/64,none⟩) hbx1 (by simp only;omega) (.int .u64 (nor b (pow2 (m%64)):Int))
      have hB2:=(Below.setCell (p:=⟨wr.heap.size,m/64,none⟩) hB1 (by simp only;omega) (.int .u64 (nor b (pow2 (m%64)):Int))).drew
      have hs2:(w1.setCell ⟨wr.heap.size,m/64,none⟩ (.int .u64 (nor b (pow2 (m%64)):Int))).drew.heap.size=wr.heap.size+1:=by simpa using hs1
      have hwy:Words 4 (bitL x m):=hw.set _ _ (nor_lt _ _)
      have hby3:(w1.setCell ⟨wr.heap.size,m/64,none⟩ (.int .u64 (nor b (pow2 (m%64)):Int))).drew.heap[wr.heap.size]?=_:=hby2
      have hbg3:(w1.setCell ⟨wr.heap.size,m/64,none⟩ (.int .u64 (nor b (pow2 (m%64)):Int))).drew.heap[w.heap.size]?=_:=hbg2
      have hbx3:(w1.setCell ⟨wr.heap.size,m/64,none⟩ (.int .u64 (nor b (pow2 (m%64)):Int))).drew.heap[w.heap.size+1]?=_:=hbx2
      generalize (w1.setCell ⟨wr.heap.size,m/64,none⟩ (.int .u64 (nor b (pow2 (m%64)):Int))).drew=w2 at *
      clear hby2 hbg2 hbx2 hby hbg1 hbx1 hB1 cy fy hd1 hd2 hd3 hd4 hd5 hd6 W1 W2 W3 HBL hs1
      have HY:Hid (∃ y,y=bitL x m):=⟨_,rfl⟩
      generalize hy:bitL x m=y at *
      have HY:=Lib.hid hy
      clear hy
      go_wp2_with (refine halt_load (ty:=178) rfl ?_)
      refine go_onO (wpList_loadW rfl _ _ rfl _ rfl y hwy.1 hby3 Tryz.underlying178 (by kernel_rfl) ?_)
      go_wp2_with (refine halt_store (ty:=178) rfl ?_)
      refine go_onO (wpList_storeW rfl _ _ _ rfl _ y rfl rfl hwy.1 (box_at2 hs2.symm) rfl (by kernel_rfl) ?_)
      intro w3 hbz4 hg4 hs4
      have hby4:=box_grown (box_alloc hby3 _) hg4 (by simp <;> omega)
      have hbg4:=box_grown (box_alloc hbg3 _) hg4 (by simp <;> omega)
      have hbx4:=box_grown (box_alloc hbx3 _) hg4 (by simp <;> omega)
      have hB4:=(hB2.alloc hB2.size _).grown hg4 (by simp <;> omega) (fun k e=>by injection e;omega)
      simp only [World.size_alloc] at hs4
      have hs4':wr.heap.size+2≤w3.heap.size:=by omega
      clear hs4 hs2
      clear hby3 hbg3 hbx3 hB2 hg4
      go_wp2
      go_loopw [30] (fun c wq=> ∃ (k:Nat) (z:List Nat),k≤2∧c= .int .i64 k∧Words 4 z∧Hid (powL y 2 y=powL y (2-k) z)∧wq.heap[w.heap.size]?=some (.cells (wcells [0,0,0,p]) 178 (0,0))∧wq.heap[w.heap.size+1]?=some (.cells (wcells x) 178 (0,0)) ∧
        wq.heap[wr.heap.size]?=some (.cells (wcells y) 178 (0,0))∧wq.heap[wr.heap.size+1]?=some (.cells (wcells z) 178 (0,0))∧Below w.heap.size w wq∧wr.heap.size+2≤wq.heap.size) (fun c _=>2-(RowKit.intOf c).toNat)
      case atStart=>exact ⟨0,y,by omega,rfl,hwy,rfl,hbg4,hbx4,hby4,hbz4,hB4,by omega⟩
      case round =>
        rename_i wq _
        obtain ⟨k,z,hk,rfl,hwz,HP,hbg5,hbx5,hby5,hbz5,hB5,hs5⟩:=hrel
        by_cases hlt:k<2
        · go_wp2_with (refine halt_load (ty:=178) rfl ?_)
          refine go_onO (wpList_loadW rfl _ _ rfl _ rfl z hwz.1 hbz5 Tryz.underlying178 (by kernel_rfl) ?_)
          go_wp2_with (refine halt_load (ty:=178) rfl ?_)
          refine go_onO (wpList_loadW rfl _ _ rfl _ rfl y hwy.1 hby5 Tryz.underlying178 (by kernel_rfl) ?_)
          go_wp2_with fail
          refine Calls.mono (times_c z y hwz hwy _) ?_
          rintro e w6 ⟨rfl,hg6⟩
          have hs6:=hg6.size
          have hbg6:=box_below hbg5 hg6 (by omega)
          have hbx6:=box_below hbx5 hg6 (by omega)
          have hby6:=box_below hby5 hg6 (by omega)
          have hbz6:=box_below hbz5 hg6 (by omega)
          have hB6:=hB5.trans (hg6.mono hB5.size)
          have hw6:=timesL_words z y
          have HP6:Hid (powL y 2 y=powL y (2-(k+1)) (timesL z y)):=by
            show _=_
            rw [HP.out,show 2-k=(2-(k+1))+1 by omega,powL]
          clear hbg5 hbx5 hby5 hbz5 hB5 hg6
          generalize timesL z y=z' at *
          go_wp2_with (refine halt_store (ty:=178) rfl ?_)
          refine go_onO (wpList_storeW rfl _ _ _ rfl _ z' rfl rfl hw6.1 hbz6 (by rw [wcells_size,hwz.1]) (by kernel_rfl) ?_)
          intro w7 hbz7 hg7 hs7
          have hbg7:=box_grown hbg6 hg7 (by simp <;> omega)
          have hbx7:=box_grown hbx6 hg7 (by simp <;> omega)
          have hby7:=box_grown hby6 hg7 (by simp <;> omega)
          have hB7:=hB6.grown hg7 (by omega) (fun k e=>by injection e;omega)
          clear hbg6 hbx6 hby6 hbz6 hB6 hg7
          go_wp2
          go_roundw
          case rel=>exact ⟨k+1,z',by omega,by go_num,hw6,HP6,hbg7,hbx7,hby7,hbz7,hB7,by omega⟩
          case measure=>simp [RowKit.intOf] <;> omega
        · have hke:k=2:=by omega
          have HZ:Hid (powL (bitL x m) (3-1) (bitL x m)=z):=by
            show _=_
            rw [HY.out]
            have:=HP.out
            rw [hke] at this
            exact this
          clear hke
          go_wp2_with (refine halt_load (ty:=178) rfl ?_)
          refine go_onO (wpList_loadW rfl _ _ rfl _ rfl z hwz.1 hbz5 Tryz.underlying178 (by kernel_rfl) ?_)
          go_wp2_with (refine halt_load (ty:=178) rfl ?_)
          refine go_onO (wpList_loadW rfl _ _ rfl _ rfl [0,0,0,p] rfl hbg5 Tryz.underlying178 (by kernel_rfl) ?_)
          go_wp2_with fail
          refine Calls.mono (above_c z [0,0,0,p] hwz HG.out _) ?_
          rintro e w6 ⟨rfl,hg6⟩
          have hs6:=hg6.size
          have hbg6:=box_below hbg5 hg6 (by omega)
          have hbx6:=box_below hbx5 hg6 (by omega)
          have hby6:=box_below hby5 hg6 (by omega)
          have hB6:=hB5.trans (hg6.mono hB5.size)
          clear hbg5 hbx5 hby5 hbz5 hB5 hg6
          cases ha:aboveAt z [0,0,0,p] 4 with
          | true =>
            have HT2:Hid (rootN p 3=(rootR [0,0,0,p] 3 m x).getD 0 0):=by
              show _=_
              rw [HT.out,rootR,stepR,HZ.out,if_pos ha]
            clear ha
            go_wp2
            go_roundw
            case rel=>exact ⟨m,x,by omega,by go_num,hw,HT2,hbg6,hbx6,hB6,by omega⟩
            case measure=>simp [RowKit.intOf] <;> omega
          | false =>
            have HT2:Hid (rootN p 3=(rootR [0,0,0,p] 3 m y).getD 0 0):=by
              show _=_
              rw [HT.out,rootR,stepR,HZ.out,ha,if_neg (by decide),HY.out]
            clear ha
            go_wp2_with (refine halt_load (ty:=178) rfl ?_)
            refine go_onO (wpList_loadW rfl _ _ rfl _ rfl y hwy.1 hby6 Tryz.underlying178 (by kernel_rfl) ?_)
            go_wp2_with (refine halt_store (ty:=178) rfl ?_)
            refine go_onO (wpList_storeW rfl _ _ _ rfl _ y rfl rfl hwy.1 hbx6 (by rw [wcells_size,hw.1]) (by kernel_rfl) ?_)
            intro w7 hbx7 hg7 hs7
            have hbg7:=box_grown hbg6 hg7 (by simp)
            have hB7:=hB6.grown hg7 (by omega) (fun k e=>by injection e;omega)
            clear hbg6 hbx6 hby6 hB6 hg7
            go_wp2
            go_roundw
            case rel=>exact ⟨m,y,by omega,by go_num,hwy,HT2,hbg7,hbx7,hB7,by omega⟩
            case measure=>simp [RowKit.intOf] <;> omega
    · obtain rfl:n=0:=by omega
      have c0:=wcell_at hbx (i:=0) (by have:=hw.1;omega)
      have HR:Hid (rootN p 3=x.getD 0 0):=by show _=_;rw [HT.out];rfl
      generalize x.getD 0 0=b at *
      go_wp2
      go_ret
      exact ⟨by rw [HR.out];rfl,hB⟩
end Go.Proofs.YtdakeodebgggfaaGreatDoor
namespace Go.Proofs.YtdakeodebgggfaaGreatDoor
open Go.RowKit Go.Lib
def primeStep (ps:List Nat) (p:Nat):List Nat:=if ps.any (fun q=>p%q==0) then ps else ps++[p]
def primesTo:Nat→List Nat
  | 0=>[]
  | n+1=>primeStep (primesTo n) (n+2)
def primesL:List Nat:=primesTo 408
theorem primes_short: ∀ k,k<408→(primesTo k).length<80:=by decide +kernel
theorem primes_end:(primesTo 408).length=80:=by decide +kernel
theorem primes_mem: ∀ k,∀ q∈primesTo k,2≤q∧q≤k+1
  | 0,q,h=>by cases h
  | k+1,q,h=>by
    unfold primesTo primeStep at h
    split at h
    · have:=primes_mem k q h
      omega
    · rcases List.mem_append.1 h with h|h
      · have:=primes_mem k q h
        omega
      · simp at h
        omega
def zeros (n:Nat):List Nat:=List.replicate n 0
theorem zeros_len (n:Nat):(zeros n).length=n:=List.length_replicate
def padL (n:Nat) (ps:List Nat):List Nat:=ps++List.replicate (n-ps.length) 0
theorem padL_nil (n:Nat):padL n []=zeros n:=by simp [padL,zeros]
theorem padL_len {n:Nat} {ps:List Nat} (h:ps.length≤n):(padL n ps).length=n:=by
  unfold padL
  rw [List.length_append,List.length_replicate]
  omega
theorem padL_get {n i:Nat} {ps:List Nat} (h:i<ps.length):(padL n ps).getD i 0=ps.getD i 0:=by
  unfold padL
  simp [List.getD,List.getElem?_append_left h]
theorem padL_set {n p:Nat} {ps:List Nat} (h:ps.length<n):(padL n ps).set ps.length p=padL n (ps++[p]):=by
  unfold padL
  rw [List.set_append_right _ _ (Nat.le_refl _),Nat.sub_self,List.length_append,List.length_singleton,List.append_assoc]
  congr 1
  obtain ⟨k,hk⟩: ∃ k,n-ps.length=k+1:=⟨n-ps.length-1,by omega⟩
  rw [hk,List.replicate_succ,List.set_cons_zero,show n-(ps.length+1)=k by omega]
  rfl
theorem any_take_succ {ps:List Nat} {p i:Nat} (hi:i<ps.length) (h:(ps.take i).any (fun q=>p%q==0)=false) (hq:p%ps.getD i 0≠0):(ps.take (i+1)).any (fun q=>p%q==0)=false:=by
  have e:ps[i]?=some (ps.getD i 0):=by simp [List.getD,hi]
  rw [List.take_add_one,e,List.any_append,h]
  simpa using hq
theorem any_found {ps:List Nat} {p i:Nat} (hi:i<ps.length) (hq:p%ps.getD i 0=0):ps.any (fun q=>p%q==0)=true:=by
  rw [List.any_eq_true]
  refine ⟨ps.getD i 0,?_,by simpa using hq⟩
  simp [List.getD,hi]
theorem run_slice_arr {P:Program} {t e:TypeId} {N n:Nat} (g:Nat) (hu:P.underlying t=some (.array N e)) (hi:(P.info? e).map (·.size)=some 1) (hn:n≤N) (w:World) :
    (Instr.sliceAt t (.pointer (some ⟨g,0,none⟩)) none (some (.int .i64 (n:Int))) none).run P w= .ok (.slice (some ⟨g,0,none⟩) n N) w:=by
  cases hq:P.info? e with
  | none=>simp [hq] at hi
  | some i =>
    have h1:i.size=1:=by simpa [hq] using hi
    simp [Instr.sliceAt,Instr.sureAddr,run_underlying hu,Instr.sliceBounds,run_sliceBound,sizeOf,typeInfo,hq,hn,Addr.add_lit]
theorem word_rem2 (a b:Nat):((a:Int)+2)%(b:Int)=(((a+2)%b:Nat):Int):=rfl
set_option maxHeartbeats 4000000 in
set_option maxRecDepth 100000 in
theorem primes_c (w:World) :
    Calls Tryz.prog 131 #[] w fun e w'=>e= .returned (.agg (wcells primesL))∧Below w.heap.size w w':=by
  have z80:=(zero_of_info (P:=Tryz.prog) (t:=136) (v:= .agg (wcells (zeros 80))) (n:=80) (by kernel_rfl)).1
  go_enter Tryz.func131,Tryz.ntmps131
  go_wp2
  go_step3
  go_wp2
  go_step3
  go_wp2
  go_loopg [2,3] 408 (fun g n p wr=> ∃ (k:Nat) (ps:List Nat),k+g=408∧Hid (ps=primesTo k)∧ps.length≤80∧n= .int .i64 (ps.length:Nat)∧p= .int .u64 ((k+2:Nat):Int) ∧
    wr.heap[w.heap.size]?=some (.cells (wcells (zeros 80)) 136 (0,0))∧wr.heap[w.heap.size+1]?=some (.cells (wcells (padL 80 ps)) 136 (0,0))∧Below w.heap.size w wr)
  case atStart=>exact ⟨0,[],by omega,rfl,by simp,rfl,rfl,box_alloc (box_at2 rfl) _,by rw [padL_nil];exact box_at2 (by simp),by go_grown⟩
  case round =>
    obtain ⟨k,ps,hkg,HK,hpl,rfl,rfl,hbr,hbo,hB⟩:=hrel
    cases gk with
    | zero =>
      have hk:k=408:=by omega
      have hpe:ps.length=80:=by rw [HK.out,hk];exact primes_end
      have HP:Hid (ps=primesL):=by show _=_;rw [HK.out,hk];rfl
      have hpd:padL 80 ps=ps:=by unfold padL;rw [hpe];simp
      rw [hpd] at hbo
      have hge: ¬ ((ps.length:Int)<80):=by omega
      clear hk hpd
      have HE:=Lib.hid hpe
      clear hpe
      go_wp2_with (refine halt_load (ty:=136) rfl ?_)
      refine go_onO (wpList_loadW rfl _ _ rfl _ rfl ps HE.out hbo Tryz.underlying136 (by kernel_rfl) ?_)
      go_wp2_with (refine halt_store (ty:=136) rfl ?_)
      refine go_onO (wpList_storeW rfl _ _ _ rfl _ ps rfl rfl HE.out hbr (by rw [wcells_size,zeros_len]) (by kernel_rfl) ?_)
      intro w7 hbr7 hg7 hs7
      go_wp2
      (try rw [Exit.noGoto_ret])
      refine bodyPost_ret (results_cell_row rfl _ _ w.heap.size 136 (wcells ps) (0,0) _ rfl hbr7 Tryz.underlying136 rfl (by rw [wcells_size,HE.out];kernel_rfl)) rfl ?_
      exact ⟨by rw [HP.out],hB.grown hg7 (by have:=hB.size;omega) (fun k e=>by injection e;omega)⟩
    | succ g =>
      have hps:ps.length<80:=by rw [HK.out];exact primes_short k (by omega)
      have hsl:=fun (v:World)=>run_slice_arr (w.heap.size+1) Tryz.underlying136 (by kernel_rfl) hpl v
      go_wp2
      go_loopg [13] ps.length (fun g2 ix wy=> ∃ j:Nat,j+g2=ps.length∧ix= .int .i64 j∧Hid ((ps.take j).any (fun q=>(k+2)%q==0)=false)∧wr=wy)
      case atStart=>exact ⟨0,by omega,rfl,rfl,rfl⟩
      case round =>
        obtain ⟨j,hjg,rfl,HJ,rfl⟩:=hrel
        cases gk with
        | zero =>
          have hj:j=ps.length:=by omega
          have HN:Hid (ps++[k+2]=primesTo (k+1)):=by
            show _=_
            have:=HJ.out
            rw [hj,List.take_length] at this
            rw [primesTo,← HK.out,primeStep,this]
            rfl
          subst hj
          have c3:=wcell_at hbo (i:=ps.length) (by rw [padL_len hpl];exact hps)
          have f3:=boxed_frozen hbo ps.length
          go_wp2
          go_roundg g
          case measure=>omega
          case rel=>exact ⟨k+1,ps++[k+2],by omega,HN,by rw [List.length_append,List.length_singleton];omega,by simp,by go_num,box_far hbr (by simp only;omega) _,by rw [← padL_set hps];exact wcell_set hbo _ _,hB.setCell (by simp only;omega) _⟩
        | succ g2 =>
          have hjl:j<ps.length:=by omega
          have c3:=wcell_at hbo (i:=j) (by rw [padL_len hpl];omega)
          rw [padL_get hjl] at c3
          have hq2:2≤ps.getD j 0:=by
            have:ps.getD j 0∈ps:=by simp [List.getD,hjl]
            rw [HK.out] at this ⊢
            exact (primes_mem k _ this).1
          have HW:=Lib.hid (word_rem2 k (ps.getD j 0))
          by_cases hr:(k+2)%ps.getD j 0=0
          · have HN:Hid (ps=primesTo (k+1)):=by
              show _=_
              rw [primesTo,← HK.out,primeStep,any_found hjl hr]
              rfl
            have W:=HW.out
            rw [hr] at W
            generalize ps.getD j 0=q at *
            clear hr
            go_wp2
            go_roundg g
            case measure=>omega
            case rel=>exact ⟨k+1,ps,by omega,HN,hpl,rfl,by go_num,hbr,hbo,hB⟩
          · have HJ2:Hid ((ps.take (j+1)).any (fun q=>(k+2)%q==0)=false):=any_take_succ hjl HJ.out hr
            have W:=HW.out
            have hr1:0<(k+2)%ps.getD j 0:=by omega
            generalize (k+2)%ps.getD j 0=r at *
            generalize ps.getD j 0=q at *
            have hne:((r:Int)==0)=false:=by simp only [beq_eq_false_iff_ne,ne_eq];omega
            clear hr
            go_wp2
            go_roundg g2
            case measure=>omega
            case rel=>exact ⟨j+1,by omega,by go_num,HJ2,rfl⟩
end Go.Proofs.YtdakeodebgggfaaGreatDoor
namespace Go.Proofs.YtdakeodebgggfaaGreatDoor
open Go.RowKit Go.Lib
section
variable {P:Program} {w:World} {ops:Array Oper} {rest:List Oper} {o:Oper} {a:Act} {Q:Exit→Act→World→Prop} {K:Act→World→Prop}
theorem wpOp_plain {i:Nat} {o:Oper} (hi:ops[i]?=some o) (hg:o.guard=none) (h:o.wp P a w K Q):wpOp P ops Q i K a w:=by
  unfold wpOp
  rw [hi]
  simp only [Region.wanted,hg,if_true]
  exact .inl h
theorem wp_loadW (ty:TypeId) (x:Operand) (ho:o.op= .load ty x) (g:Nat) (hx:a.eval x= .pointer (some ⟨g,0,none⟩)) (xs:List Nat) {k:Nat} (hl:xs.length=k) {t e:TypeId}
    (hg:w.heap[g]?=some (.cells (wcells xs) t (0,0))) (hu:P.underlying ty=some (.array k e)) (hi:(P.info? ty).map (·.size)=some k)
    (h:K (a.put o.dst (.agg (wcells xs))) w):o.wp P a w K Q:=
  wp_load_row ty x ho g hx t (wcells xs) (0,0) _ hg hu rfl (by rw [wcells_size,hl];exact hi) h
theorem wp_storeW (ty:TypeId) (x y:Operand) (ho:o.op= .store ty x y) (g:Nat) (ys:List Nat) (hx:a.eval x= .pointer (some ⟨g,0,none⟩)) (hy:a.eval y= .agg (wcells ys)) {k:Nat} (hl:ys.length=k) {t:TypeId} {old:Array Value}
    (hg:w.heap[g]?=some (.cells old t (0,0))) (hold:old.size=k) (hi:(P.info? ty).map (·.size)=some k)
    (h: ∀ w':World,w'.heap[g]?=some (.cells (wcells ys) t (0,0))→w.grownBy w' (some g)→w'.heap.size=w.heap.size→K (a.put o.dst undef) w'):o.wp P a w K Q:=by
  refine wp_store_row ty x y ho g (wcells ys) hx hy t old hg (by rw [wcells_size,hl];exact hi) (by rw [wcells_size,hl];exact hold) (wcells_one ys) (h _ (setRow_heap w g old _ t _ hg) ⟨rfl,rfl,rfl,by simp,fun i hi hr=>setRow_other w g i _ (by rintro rfl;exact hr rfl)⟩ (by simp))
theorem run_index_words {t e:TypeId} {N i:Nat} {d:TypeDesc} (hu:P.underlying t=some (.array N e)) (hs:(P.info? e).map (·.size)=some 1) (he:P.underlying e=some (.int .u64)) {xs:List Nat} (hl:xs.length=N) (hi:i<N) (w:World) :
    (Instr.index t (.agg (wcells xs)) (.int .i64 (i:Int))).run P w= .ok (.int .u64 ((xs.getD i 0:Nat):Int)) w:=by
  cases hq:P.info? e with
  | none=>simp [hq] at hs
  | some q =>
    have h1:q.size=1:=by simpa [hq] using hs
    have hx:(wcells xs)[i]?=some (.int .u64 ((xs.getD i 0:Nat):Int)):=by simp [wcells,wcell,hl,hi]
    simp [Instr.index,asIntOf,run_underlying hu,sizeOf,typeInfo,hq,h1,part,isAgg,run_underlying he,hi,hx]
theorem results_cell2 {fn:Func} {p q:Tmp} {ty tz:TypeId} (h:fn.results= #[.cell p ty,.cell q tz]) (tmps:Array Value) (w:World) (g k:Nat) (t u:TypeId) (cs ds:Array Value) (fr fs:Nat × Nat) (d e:TypeDesc)
    (hp:tmps.getD p undef= .pointer (some ⟨g,0,none⟩)) (hg:w.heap[g]?=some (.cells cs t fr)) (hq:tmps.getD q undef= .pointer (some ⟨k,0,none⟩)) (hk:w.heap[k]?=some (.cells ds u fs))
    (hu:P.underlying ty=some d) (hd:(match d with| .struct _| .array _ _=>true|_=>false)=true) (hi:(P.info? ty).map (·.size)=some cs.size)
    (hu2:P.underlying tz=some e) (hd2:(match e with| .struct _| .array _ _=>true|_=>false)=true) (hi2:(P.info? tz).map (·.size)=some ds.size) :
    (results fn tmps).run P w= .ok (.tuple #[.agg cs,.agg ds]) w:=by
  have hp':tmps[p]?.getD undef= .pointer (some ⟨g,0,none⟩):=by simpa using hp
  have hq':tmps[q]?.getD undef= .pointer (some ⟨k,0,none⟩):=by simpa using hq
  simp [results,h,hp',hq',asAddr,run_loadVar_row w g t ty cs fr d hg hu hd hi,run_loadVar_row w k u tz ds fs e hk hu2 hd2 hi2]
end
theorem primesL_len:primesL.length=80:=primes_end
theorem primesL_lt (i:Nat):primesL.getD i 0<m64:=by
  rw [List.getD_eq_getElem?_getD]
  cases h:primesL[i]? with
  | none=>decide
  | some q =>
    have:=(primes_mem 408 q (List.mem_of_getElem? h)).2
    show q<m64
    unfold m64
    omega
def rootsL (power n:Nat):List Nat:=(primesL.take n).map fun p=>rootN p power
theorem rootsL_len {power n:Nat} (h:n≤80):(rootsL power n).length=n:=by
  unfold rootsL
  rw [List.length_map,List.length_take,primesL_len]
  omega
theorem rootsL_succ {power n:Nat} (h:n<80):rootsL power (n+1)=rootsL power n++[rootN (primesL.getD n 0) power]:=by
  unfold rootsL
  rw [List.take_add_one,show primesL[n]?=some (primesL.getD n 0) by simp [List.getD,primesL_len,h]]
  simp
set_option maxHeartbeats 4000000 in
set_option maxRecDepth 100000 in
theorem tables_c (w:World) :
    Calls Tryz.prog 126 #[] w fun e w'=>e= .returned (.tuple #[.agg (wcells (rootsL 2 8)),.agg (wcells (rootsL 3 80))])∧Below w.heap.size w w':=by
  have z80:=(zero_of_info (P:=Tryz.prog) (t:=136) (v:= .agg (wcells (zeros 80))) (n:=80) (by kernel_rfl)).1
  have z8:=(zero_of_info (P:=Tryz.prog) (t:=134) (v:= .agg (wcells (zeros 8))) (n:=8) (by kernel_rfl)).1
  have hix:=fun (i:Nat) (hi:i<80) (v:World)=>run_index_words (d:= .bool) Tryz.underlying136 (by kernel_rfl) Tryz.underlying59 primesL_len hi v
  have HIX:=Lib.hid hix
  clear hix
  go_enter Tryz.func126,Tryz.ntmps126
  go_wp2_with fail
  refine Calls.mono (primes_c _) ?_
  rintro e w1 ⟨rfl,hB1⟩
  have hb0:=box_below (box_alloc (box_alloc (box_alloc (box_new w (wcells (zeros 8)) 134) (.cells (wcells (zeros 80)) 136)) (.cells (wcells (zeros 8)) 134)) (.cells (wcells (zeros 80)) 136)) hB1 (by simp <;> omega)
  have hb1:=box_below (box_alloc (box_alloc (box_new (w.alloc (.cells (wcells (zeros 8)) 134)) (wcells (zeros 80)) 136) (.cells (wcells (zeros 8)) 134)) (.cells (wcells (zeros 80)) 136)) hB1 (by simp <;> omega)
  have hb2:=box_below (box_alloc (box_new ((w.alloc (.cells (wcells (zeros 8)) 134)).alloc (.cells (wcells (zeros 80)) 136)) (wcells (zeros 8)) 134) (.cells (wcells (zeros 80)) 136)) hB1 (by simp <;> omega)
  have hb3:=box_below (box_new (((w.alloc (.cells (wcells (zeros 8)) 134)).alloc (.cells (wcells (zeros 80)) 136)).alloc (.cells (wcells (zeros 8)) 134)) (wcells (zeros 80)) 136) hB1 (by simp <;> omega)
  have hB:Below w.heap.size w w1:=((((Below.refl _ _).alloc (Nat.le_refl _) _).alloc (by simp) _).alloc (by simp;omega) _ |>.alloc (by simp;omega) _).trans (hB1.mono (by simp;omega))
  have hsz:=hB1.size
  simp only [World.size_alloc] at hb1 hb2 hb3 hsz
  clear hB1
  go_wp2
  go_loopw [7] (fun ix wr=> ∃ (i:Nat),i≤80∧ix= .int .i64 (i:Nat)∧wr.heap[w.heap.size]?=some (.cells (wcells (zeros 8)) 134 (0,0))∧wr.heap[w.heap.size+1]?=some (.cells (wcells (zeros 80)) 136 (0,0)) ∧
    wr.heap[w.heap.size+1+1]?=some (.cells (wcells (padL 8 (rootsL 2 (min i 8)))) 134 (0,0))∧wr.heap[w.heap.size+1+1+1]?=some (.cells (wcells (padL 80 (rootsL 3 i))) 136 (0,0))∧Below w.heap.size w wr∧w.heap.size+4≤wr.heap.size) (fun ix _=>80-(RowKit.intOf ix).toNat)
  case atStart=>exact ⟨0,by omega,rfl,hb0,hb1,hb2,hb3,hB,hsz⟩
  case round =>
    obtain ⟨i,hi,rfl,hbr,hbq,hbf,hba,hB,hs⟩:=hrel
    by_cases hlt:i<80
    · have hixi:=HIX.out i hlt
      have hp:=primesL_lt i
      have hrl:(rootsL 3 i).length=i:=rootsL_len hi
      have HR3:Hid (rootsL 3 (i+1)=rootsL 3 i++[rootN (primesL.getD i 0) 3]):=rootsL_succ hlt
      have HR2:Hid (i<8→rootsL 2 (i+1)=rootsL 2 i++[rootN (primesL.getD i 0) 2]):=fun h=>rootsL_succ hlt
      have hge:i<(padL 80 (rootsL 3 i)).length:=by rw [padL_len (by omega)];exact hlt
      have HGE:=Lib.hid hge
      have HRL:=Lib.hid hrl
      clear hge hrl
      generalize primesL.getD i 0=p at *
      go_wp2_with fail
      refine Calls.mono (root_3 p hp _) ?_
      rintro e w2 ⟨rfl,hg2⟩
      have hs2:=hg2.size
      have hbr2:=box_below hbr hg2 (by omega)
      have hbq2:=box_below hbq hg2 (by omega)
      have hbf2:=box_below hbf hg2 (by omega)
      have hba2:=box_below hba hg2 (by omega)
      have hB2:=hB.trans (hg2.mono hB.size)
      generalize rootN p 3=r3 at *
      have c3:=wcell_at hba2 HGE.out
      have f3:=boxed_frozen hba2 i
      clear hbr hbq hbf hba hB hg2
      by_cases h8:i<8
      · go_wp2_with fail
        have hba3:=wcell_set hba2 i r3
        have hbr3:=box_far (p:=⟨w.heap.size+1+1+1,i,none⟩) hbr2 (by simp only;omega) (.int .u64 (r3:Int))
        have hbq3:=box_far (p:=⟨w.heap.size+1+1+1,i,none⟩) hbq2 (by simp only;omega) (.int .u64 (r3:Int))
        have hbf3:=box_far (p:=⟨w.heap.size+1+1+1,i,none⟩) hbf2 (by simp only;omega) (.int .u64 (r3:Int))
        have hB3:=Below.setCell (p:=⟨w.heap.size+1+1+1,i,none⟩) hB2 (by simp only;omega) (.int .u64 (r3:Int))
        have hs3:(w2.setCell ⟨w.heap.size+1+1+1,i,none⟩ (.int .u64 (r3:Int))).heap.size=w2.heap.size:=by simp
        generalize w2.setCell ⟨w.heap.size+1+1+1,i,none⟩ (.int .u64 (r3:Int))=w3 at *
        clear hbr2 hbq2 hbf2 hba2 hB2 c3 f3
        refine Calls.mono (root_2 p hp _) ?_
        rintro e w4 ⟨rfl,hg4⟩
        have hs4:=hg4.size
        have hs34:w2.heap.size≤w3.heap.size:=Nat.le_of_eq hs3.symm
        have hbr4:=box_below hbr3 hg4 (by omega)
        have hbq4:=box_below hbq3 hg4 (by omega)
        have hbf4:=box_below hbf3 hg4 (by omega)
        have hba4:=box_below hba3 hg4 (by omega)
        have hB4:=hB3.trans (hg4.mono hB3.size)
        generalize rootN p 2=r2 at *
        have hm8:min i 8=i:=by omega
        rw [hm8] at hbf4
        have HFL:Hid ((rootsL 2 i).length=i):=rootsL_len hi
        have c4:=wcell_at hbf4 (i:=i) (by rw [padL_len (by rw [HFL.out];omega)];exact h8)
        have f4:=boxed_frozen hbf4 i
        clear hbr3 hbq3 hbf3 hba3 hB3 hg4 hm8 hs3
        go_wp2
        go_roundw
        case rel =>
          refine ⟨i+1,by omega,by go_num,box_far hbr4 (by simp only;omega) _,box_far hbq4 (by simp only;omega) _,?_,?_,hB4.setCell (by simp only;omega) _,by simp;omega⟩
          · rw [show min (i+1) 8=i+1 by omega,HR2.out h8,← padL_set (by rw [HFL.out];omega),HFL.out]
            exact wcell_set hbf4 i r2
          · rw [HR3.out,← padL_set (by rw [HRL.out];omega),HRL.out]
            exact box_far hba4 (by simp only;omega) _
        case measure=>simp [RowKit.intOf] <;> omega
      · go_wp2
        go_roundw
        case rel =>
          refine ⟨i+1,by omega,by go_num,box_far hbr2 (by simp only;omega) _,box_far hbq2 (by simp only;omega) _,?_,?_,hB2.setCell (by simp only;omega) _,by simp;omega⟩
          · rw [show min (i+1) 8=min i 8 by omega]
            exact box_far hbf2 (by simp only;omega) _
          · rw [HR3.out,← padL_set (by rw [HRL.out];omega),HRL.out]
            exact wcell_set hba2 i r3
        case measure=>simp [RowKit.intOf] <;> omega
    · obtain rfl:i=80:=by omega
      have e1:padL 8 (rootsL 2 (min 80 8))=rootsL 2 8:=by unfold padL;rw [show min 80 8=8 from rfl,rootsL_len (by omega)];simp
      have e2:padL 80 (rootsL 3 80)=rootsL 3 80:=by unfold padL;rw [rootsL_len (by omega)];simp
      rw [e1] at hbf
      rw [e2] at hba
      clear e1 e2
      have hsz:=hs
      clear z80 z8
      go_wp2
      refine wp_region_any (by kernel_rfl) ?_
      change wpAny _ _ _ _ _ _ _ (World.drew _)
      refine wpAny_all (rs:=[0,1]) (by kernel_rfl) (by decide) ?_
      intro i hi
      simp only [List.mem_cons,List.not_mem_nil,or_false] at hi
      rcases hi with rfl|rfl
      · refine wpOp_plain rfl rfl (wp_loadW 134 _ rfl _ rfl (rootsL 2 8) (rootsL_len (by omega)) hbf Tryz.underlying134 (by kernel_rfl) ?_)
        refine wpAny_all (rs:=[1,2]) (by kernel_rfl) (by decide) ?_
        intro i hi
        simp only [List.mem_cons,List.not_mem_nil,or_false] at hi
        rcases hi with rfl|rfl
        · refine wpOp_plain rfl rfl (wp_loadW 136 _ rfl _ rfl (rootsL 3 80) (rootsL_len (by omega)) hba Tryz.underlying136 (by kernel_rfl) ?_)
          refine wpAny_all (rs:=[2]) (by kernel_rfl) (by decide) ?_
          intro i hi
          obtain rfl:i=2:=by simpa using hi
          refine wpOp_plain rfl rfl (wp_storeW 134 _ _ rfl _ (rootsL 2 8) rfl rfl (rootsL_len (by omega)) hbr (by rw [wcells_size,zeros_len]) (by kernel_rfl) ?_)
          intro w5 hk5 hg5 hs5
          have hq5:=box_grown (w:=wr.drew) hbq hg5 (by simp)
          have hB5:=hB.drew.grown hg5 (by simp;omega) (fun k e=>by injection e;omega)
          refine wpAny_all (rs:=[3]) (by kernel_rfl) (by decide) ?_
          intro i hi
          obtain rfl:i=3:=by simpa using hi
          refine wpOp_plain rfl rfl (wp_storeW 136 _ _ rfl _ (rootsL 3 80) rfl rfl (rootsL_len (by omega)) hq5 (by rw [wcells_size,zeros_len]) (by kernel_rfl) ?_)
          intro w6 hk6 hg6 hs6
          have hz1:=box_grown hk5 hg6 (by simp)
          have hz2:=hk6
          have hz3:=hB5.grown hg6 (by simp at hs5;omega) (fun k e=>by injection e;omega)
          refine wpAny_done (by kernel_rfl) ?_ _
          go_wp2
          refine bodyPost_ret (results_cell2 rfl _ _ w.heap.size (w.heap.size+1) _ _ (wcells (rootsL 2 8)) (wcells (rootsL 3 80)) (0,0) (0,0) _ _ rfl hz1 rfl hz2 Tryz.underlying134 rfl (by rw [wcells_size,rootsL_len (by omega)];kernel_rfl) Tryz.underlying136 rfl (by rw [wcells_size,rootsL_len (by omega)];kernel_rfl)) rfl ?_
          exact ⟨rfl,hz3⟩
        · refine wpOp_plain rfl rfl (wp_storeW 134 _ _ rfl _ (rootsL 2 8) rfl rfl (rootsL_len (by omega)) hbr (by rw [wcells_size,zeros_len]) (by kernel_rfl) ?_)
          intro w5 hk5 hg5 hs5
          have hq5:=box_grown (w:=wr.drew) hbq hg5 (by simp)
          have ha5:=box_grown (w:=wr.drew) hba hg5 (by simp;omega)
          have hB5:=hB.drew.grown hg5 (by simp;omega) (fun k e=>by injection e;omega)
          refine wpAny_all (rs:=[1]) (by kernel_rfl) (by decide) ?_
          intro i hi
          obtain rfl:i=1:=by simpa using hi
          refine wpOp_plain rfl rfl (wp_loadW 136 _ rfl _ rfl (rootsL 3 80) (rootsL_len (by omega)) ha5 Tryz.underlying136 (by kernel_rfl) ?_)
          refine wpAny_all (rs:=[3]) (by kernel_rfl) (by decide) ?_
          intro i hi
          obtain rfl:i=3:=by simpa using hi
          refine wpOp_plain rfl rfl (wp_storeW 136 _ _ rfl _ (rootsL 3 80) rfl rfl (rootsL_len (by omega)) hq5 (by rw [wcells_size,zeros_len]) (by kernel_rfl) ?_)
          intro w6 hk6 hg6 hs6
          have hz1:=box_grown hk5 hg6 (by simp)
          have hz2:=hk6
          have hz3:=hB5.grown hg6 (by simp at hs5;omega) (fun k e=>by injection e;omega)
          refine wpAny_done (by kernel_rfl) ?_ _
          go_wp2
          refine bodyPost_ret (results_cell2 rfl _ _ w.heap.size (w.heap.size+1) _ _ (wcells (rootsL 2 8)) (wcells (rootsL 3 80)) (0,0) (0,0) _ _ rfl hz1 rfl hz2 Tryz.underlying134 rfl (by rw [wcells_size,rootsL_len (by omega)];kernel_rfl) Tryz.underlying136 rfl (by rw [wcells_size,rootsL_len (by omega)];kernel_rfl)) rfl ?_
          exact ⟨rfl,hz3⟩
      · refine wpOp_plain rfl rfl (wp_loadW 136 _ rfl _ rfl (rootsL 3 80) (rootsL_len (by omega)) hba Tryz.underlying136 (by kernel_rfl) ?_)
        refine wpAny_all (rs:=[0]) (by kernel_rfl) (by decide) ?_
        intro i hi
        obtain rfl:i=0:=by simpa using hi
        refine wpOp_plain rfl rfl (wp_loadW 134 _ rfl _ rfl (rootsL 2 8) (rootsL_len (by omega)) hbf Tryz.underlying134 (by kernel_rfl) ?_)
        refine wpAny_all (rs:=[2]) (by kernel_rfl) (by decide) ?_
        intro i hi
        obtain rfl:i=2:=by simpa using hi
        refine wpOp_plain rfl rfl (wp_storeW 134 _ _ rfl _ (rootsL 2 8) rfl rfl (rootsL_len (by omega)) hbr (by rw [wcells_size,zeros_len]) (by kernel_rfl) ?_)
        intro w5 hk5 hg5 hs5
        have hq5:=box_grown (w:=wr.drew) hbq hg5 (by simp)
        have hB5:=hB.drew.grown hg5 (by simp;omega) (fun k e=>by injection e;omega)
        refine wpAny_all (rs:=[3]) (by kernel_rfl) (by decide) ?_
        intro i hi
        obtain rfl:i=3:=by simpa using hi
        refine wpOp_plain rfl rfl (wp_storeW 136 _ _ rfl _ (rootsL 3 80) rfl rfl (rootsL_len (by omega)) hq5 (by rw [wcells_size,zeros_len]) (by kernel_rfl) ?_)
        intro w6 hk6 hg6 hs6
        have hz1:=box_grown hk5 hg6 (by simp)
        have hz2:=hk6
        have hz3:=hB5.grown hg6 (by simp at hs5;omega) (fun k e=>by injection e;omega)
        refine wpAny_done (by kernel_rfl) ?_ _
        go_wp2
        refine bodyPost_ret (results_cell2 rfl _ _ w.heap.size (w.heap.size+1) _ _ (wcells (rootsL 2 8)) (wcells (rootsL 3 80)) (0,0) (0,0) _ _ rfl hz1 rfl hz2 Tryz.underlying134 rfl (by rw [wcells_size,rootsL_len (by omega)];kernel_rfl) Tryz.underlying136 rfl (by rw [wcells_size,rootsL_len (by omega)];kernel_rfl)) rfl ?_
        exact ⟨rfl,hz3⟩
end Go.Proofs.YtdakeodebgggfaaGreatDoor
namespace Go.Proofs.YtdakeodebgggfaaGreatDoor
open Go.RowKit Go.Lib
def unat (xs:List UInt64):List Nat:=xs.map (·.toNat)
theorem unat_len (xs:List UInt64):(unat xs).length=xs.length:=List.length_map _
theorem unat_get (xs:List UInt64) (i:Nat):(unat xs).getD i 0=(xs.getD i 0).toNat:=by
  unfold unat
  simp only [List.getD_eq_getElem?_getD,List.getElem?_map]
  cases xs[i]? <;> rfl
theorem unat_set (xs:List UInt64) (i:Nat) (x:UInt64):(unat xs).set i x.toNat=unat (xs.set i x):=by
  unfold unat
  rw [List.map_set]
theorem ucell_at {w:World} {g:Nat} {xs:List UInt64} {t:TypeId} (h:w.heap[g]?=some (.cells (wcells (unat xs)) t (0,0))) {i:Nat} (hi:i<xs.length):w.cell? ⟨g,i,none⟩=some (.int .u64 ((xs.getD i 0).toNat:Int)):=by
  rw [wcell_at h (by rw [unat_len];exact hi),unat_get]
theorem ucell_set {w:World} {g:Nat} {xs:List UInt64} {t:TypeId} (h:w.heap[g]?=some (.cells (wcells (unat xs)) t (0,0))) (i:Nat) (x:UInt64):(w.setCell ⟨g,i,none⟩ (.int .u64 (x.toNat:Int))).heap[g]?=some (.cells (wcells (unat (xs.set i x))) t (0,0)):=by
  rw [wcell_set h,unat_set]
def zerosU (n:Nat):List UInt64:=List.replicate n 0
theorem zerosU_nat (n:Nat):unat (zerosU n)=zeros n:=by simp [unat,zerosU,zeros]
def padU (n:Nat) (ps:List UInt64):List UInt64:=ps++zerosU (n-ps.length)
theorem padU_len {n:Nat} {ps:List UInt64} (h:ps.length≤n):(padU n ps).length=n:=by
  unfold padU zerosU
  rw [List.length_append,List.length_replicate]
  omega
theorem padU_get {n i:Nat} {ps:List UInt64} (h:i<ps.length):(padU n ps).getD i 0=ps.getD i 0:=by
  unfold padU
  simp [List.getD,List.getElem?_append_left h]
theorem padU_set {n:Nat} {p:UInt64} {ps:List UInt64} (h:ps.length<n):(padU n ps).set ps.length p=padU n (ps++[p]):=by
  unfold padU zerosU
  rw [List.set_append_right _ _ (Nat.le_refl _),Nat.sub_self,List.length_append,List.length_singleton,List.append_assoc]
  congr 1
  obtain ⟨k,hk⟩: ∃ k,n-ps.length=k+1:=⟨n-ps.length-1,by omega⟩
  rw [hk,List.replicate_succ,List.set_cons_zero,show n-(ps.length+1)=k by omega]
  rfl
theorem padU_nil (n:Nat):padU n []=zerosU n:=by simp [padU]
theorem padU_full {ps:List UInt64} {n:Nat} (h:ps.length=n):padU n ps=ps:=by simp [padU,zerosU,h]
def ob (y:UInt8):UInt64:=UInt64.ofNat y.toNat
theorem wrap_ob (y:UInt8):IntKind.u64.wrap (y.toNat:Int)=((ob y).toNat:Int):=wrap_word _
def word8 (x:UInt64) (bs:List UInt8):UInt64:=bs.foldl (fun x c=>wo (sl x 8) (ob c)) x
def small0 (x:UInt64):UInt64:=wx (wx (rotr x 1) (rotr x 8)) (sr x 7)
def small1 (x:UInt64):UInt64:=wx (wx (rotr x 19) (rotr x 61)) (sr x 6)
def big0 (x:UInt64):UInt64:=wx (wx (rotr x 28) (rotr x 34)) (rotr x 39)
def big1 (x:UInt64):UInt64:=wx (wx (rotr x 14) (rotr x 18)) (rotr x 41)
def nextW (ws:List UInt64) (n:Nat):UInt64:=
  wa (wa (wa (ws.getD (n-16) 0) (small0 (ws.getD (n-15) 0))) (ws.getD (n-7) 0)) (small1 (ws.getD (n-2) 0))
def wordsOf (bs:List UInt8):Nat→List UInt64
  | 0=>[]
  | n+1=>wordsOf bs n++[if n<16 then word8 0 ((bs.drop (8*n)).take 8) else nextW (wordsOf bs n) n]
theorem wordsOf_len (bs:List UInt8): ∀ n,(wordsOf bs n).length=n
  | 0=>rfl
  | n+1=>by rw [wordsOf,List.length_append,wordsOf_len bs n];rfl
def chooseW (e f g:UInt64):UInt64:=wo (wn e f) (wn (wc e) g)
def majorW (a b c:UInt64):UInt64:=wo (wo (wn a b) (wn a c)) (wn b c)
def roundW (s:List UInt64) (k w:UInt64):List UInt64:=
  match s with
  | [a,b,c,d,e,f,g,h] =>
    let t:=wa (wa (wa (wa h (big1 e)) (chooseW e f g)) k) w
    [wa t (wa (big0 a) (majorW a b c)),a,b,c,wa d t,e,f,g]
  | s=>s
def roundsW (ks ws:List UInt64) (s:List UInt64):Nat→List UInt64
  | 0=>s
  | n+1=>roundW (roundsW ks ws s n) (ks.getD n 0) (ws.getD n 0)
theorem roundW_len {s:List UInt64} (h:s.length=8) (k w:UInt64):(roundW s k w).length=8:=by
  match s,h with
  | [a,b,c,d,e,f,g,i],_=>rfl
theorem roundsW_len {ks ws s:List UInt64} (h:s.length=8): ∀ n,(roundsW ks ws s n).length=8
  | 0=>h
  | n+1=>roundW_len (roundsW_len h n) _ _
def addsW (s t:List UInt64):List UInt64:=List.zipWith wa s t
def compress (ks st:List UInt64) (bs:List UInt8):List UInt64:=addsW st (roundsW ks (wordsOf bs 80) st 80)
theorem padU_set0 {n i:Nat} {ps:List UInt64} (h:ps.length=i) (hi:i<n):(padU n ps).set i 0=padU n ps:=by
  subst h
  unfold padU zerosU
  rw [List.set_append_right _ _ (Nat.le_refl _),Nat.sub_self]
  obtain ⟨k,hk⟩: ∃ k,n-ps.length=k+1:=⟨n-ps.length-1,by omega⟩
  rw [hk,List.replicate_succ,List.set_cons_zero]
theorem set_getD {xs:List UInt64} {i:Nat} (h:i<xs.length) (x:UInt64):(xs.set i x).getD i 0=x:=by
  simp [List.getD,h]
theorem word8_snoc (x:UInt64) (bs:List UInt8) (c:UInt8):word8 x (bs++[c])=wo (sl (word8 x bs) 8) (ob c):=by
  unfold word8
  rw [List.foldl_append]
  rfl
theorem byte_cells {b:List UInt8} {A:Option Addr} {n c:Nat} {w:World} {S:Nat→Prop} (hs:Rep.u8.sl w S A n c b) (hn:0<n) :
    ∃ B o,A=some ⟨B,o,none⟩∧S B∧ ∀ i,i<n→w.cell? ⟨B,o+i,none⟩=some (.int .u8 ((b.getD i 0).toNat:Int)):=by
  obtain ⟨B,o,hA,hB,hr⟩:=hs.2.2.2 hn
  refine ⟨B,o,hA,hB,fun i hi=>?_⟩
  have hil:i<b.length:=by have:=hs.1;omega
  obtain ⟨es,he,hc⟩:=hr i b[i] (List.getElem?_eq_getElem hil)
  obtain rfl:es=[.int .u8 (b[i].toNat:Int)]:=he
  have:=hc 0 _ rfl
  rw [show Rep.u8.size=1 from rfl,Nat.mul_one,Nat.add_zero] at this
  rw [this]
  simp [List.getD,hil]
theorem round_cells (a b c d e f g h k w:UInt64):wcells (unat (roundW [a,b,c,d,e,f,g,h] k w)) =
    #[.int .u64 ((wa (wa (wa (wa (wa h (wx (wx (rotr e 14) (rotr e 18)) (rotr e 41))) (wo (wn e f) (wn (wc e) g))) k) w) (wa (wx (wx (rotr a 28) (rotr a 34)) (rotr a 39)) (wo (wo (wn a b) (wn a c)) (wn b c)))).toNat:Int),
      .int .u64 (a.toNat:Int),.int .u64 (b.toNat:Int),.int .u64 (c.toNat:Int),
      .int .u64 ((wa d (wa (wa (wa (wa h (wx (wx (rotr e 14) (rotr e 18)) (rotr e 41))) (wo (wn e f) (wn (wc e) g))) k) w)).toNat:Int),.int .u64 (e.toNat:Int),.int .u64 (f.toNat:Int),.int .u64 (g.toNat:Int)]:=rfl
def mixL (a st:List UInt64) (m:Nat):List UInt64:=a.take m++st.drop m
theorem mixL_len {a st:List UInt64} {m:Nat} (h:a.length=st.length) (hm:m≤st.length):(mixL a st m).length=st.length:=by
  unfold mixL
  rw [List.length_append,List.length_take,List.length_drop]
  omega
theorem mixL_get {a st:List UInt64} {m:Nat} (h:a.length=st.length) (hm:m<st.length):(mixL a st m).getD m 0=st.getD m 0:=by
  unfold mixL
  have hl:(a.take m).length=m:=by rw [List.length_take];omega
  simp only [List.getD_eq_getElem?_getD]
  rw [List.getElem?_append_right (by omega),hl,Nat.sub_self,List.getElem?_drop,Nat.add_zero]
theorem mixL_set {a st:List UInt64} {m:Nat} (h:a.length=st.length) (hm:m<st.length):(mixL a st m).set m (a.getD m 0)=mixL a st (m+1):=by
  unfold mixL
  have hl:(a.take m).length=m:=by rw [List.length_take];omega
  rw [List.set_append_right _ _ (by omega),hl,Nat.sub_self,List.take_add_one,show a[m]?=some (a.getD m 0) by simp [List.getD,show m<a.length by omega]]
  rw [List.append_assoc]
  congr 1
  rw [List.drop_eq_getElem_cons hm]
  rfl
theorem addsW_len {s t:List UInt64} (h:s.length=t.length):(addsW s t).length=s.length:=by
  unfold addsW
  rw [List.length_zipWith]
  omega
theorem addsW_get {s t:List UInt64} {m:Nat} (hs:m<s.length) (ht:m<t.length):(addsW s t).getD m 0=wa (s.getD m 0) (t.getD m 0):=by
  unfold addsW
  simp [List.getD,List.getElem?_zipWith,hs,ht]
def hashCells (st ks:List UInt64) (r:Value) (a:Nat):Array Value:=((st++ks).map (fun x=>Value.int .u64 (x.toNat:Int))++[r,.int .u64 (a:Int)]).toArray
theorem quiet_later {P:Program} {f:FuncId} {args:Array Value} {w:World} {k n:Nat} {v:Value} (h:Calls P f args (w.drewN (k+n)) fun e w'=>e= .returned v∧w'=w.drewN (k+n)) :
    Calls P f args (w.drewN (k+n)) fun e w''=>e= .returned v∧ ∃ m,w''=w.drewN (k+m):=h.mono fun _ _ ⟨he,hm⟩=>⟨he,n,hm⟩
theorem turn_any (x:UInt64) (n:Int) (hn:n∈[(1:Int),8,14,18,19,28,34,39,41,61]) (w:World) :
    Calls Tryz.prog 133 #[.int .u64 (x.toNat:Int),.int .i64 n] w fun e w'=>e= .returned (.int .u64 ((rotr x n.toNat).toNat:Int))∧w'=w:=by
  simp only [List.mem_cons,List.not_mem_nil,or_false] at hn
  rcases hn with rfl|rfl|rfl|rfl|rfl|rfl|rfl|rfl|rfl|rfl
  · exact (turn_1 x w).mono fun _ _ ⟨a,b⟩=>⟨a,b.symm⟩
  · exact (turn_8 x w).mono fun _ _ ⟨a,b⟩=>⟨a,b.symm⟩
  · exact (turn_14 x w).mono fun _ _ ⟨a,b⟩=>⟨a,b.symm⟩
  · exact (turn_18 x w).mono fun _ _ ⟨a,b⟩=>⟨a,b.symm⟩
  · exact (turn_19 x w).mono fun _ _ ⟨a,b⟩=>⟨a,b.symm⟩
  · exact (turn_28 x w).mono fun _ _ ⟨a,b⟩=>⟨a,b.symm⟩
  · exact (turn_34 x w).mono fun _ _ ⟨a,b⟩=>⟨a,b.symm⟩
  · exact (turn_39 x w).mono fun _ _ ⟨a,b⟩=>⟨a,b.symm⟩
  · exact (turn_41 x w).mono fun _ _ ⟨a,b⟩=>⟨a,b.symm⟩
  · exact (turn_61 x w).mono fun _ _ ⟨a,b⟩=>⟨a,b.symm⟩
theorem hash_nat (st ks:List UInt64) (r:Value) (a:Nat):hashCells st ks r a=(((unat st).map wcell++(unat ks).map wcell)++[r,.int .u64 (a:Int)]).toArray:=by
  unfold hashCells unat
  rw [List.map_append,List.map_map,List.map_map]
  rfl
theorem hash_state {w:World} {g:Nat} {st ks:List UInt64} {r:Value} {a:Nat} {t:TypeId} (h:w.heap[g]?=some (.cells (hashCells st ks r a) t (0,0))):w.rangeAt g 0 (wcells (unat st)).toList:=by
  intro j v hv
  rw [hash_nat] at h
  refine boxed h (0+j) v ?_
  rw [Nat.zero_add]
  have hj:j<((unat st).map wcell).length:=(List.getElem?_eq_some_iff.1 hv).1
  simp only [wcells] at hv
  rw [List.getElem?_append_left (by rw [List.length_append];omega),List.getElem?_append_left hj]
  exact hv
theorem hash_consts {w:World} {g:Nat} {st ks:List UInt64} {r:Value} {a:Nat} {t:TypeId} (hst:st.length=8) (h:w.heap[g]?=some (.cells (hashCells st ks r a) t (0,0))):w.rangeAt g 8 (wcells (unat ks)).toList:=by
  intro j v hv
  rw [hash_nat] at h
  refine boxed h (8+j) v ?_
  have hj:j<((unat ks).map wcell).length:=(List.getElem?_eq_some_iff.1 hv).1
  have hl:((unat st).map wcell).length=8:=by rw [List.length_map,unat_len,hst]
  simp only [wcells] at hv
  rw [List.getElem?_append_left (by rw [List.length_append];omega),List.getElem?_append_right (by omega),hl,Nat.add_sub_cancel_left]
  exact hv
theorem hash_at {w:World} {g:Nat} {st ks:List UInt64} {r:Value} {a:Nat} {t:TypeId} (h:w.heap[g]?=some (.cells (hashCells st ks r a) t (0,0))) {i:Nat} (hi:i<st.length):w.cell? ⟨g,i,none⟩=some (.int .u64 ((st.getD i 0).toNat:Int)):=by
  have:=hash_state h i (.int .u64 ((st.getD i 0).toNat:Int)) (by simp [wcells,wcell,unat,hi])
  rwa [Nat.zero_add] at this
theorem hash_set {w:World} {g:Nat} {st ks:List UInt64} {r:Value} {a:Nat} {t:TypeId} (h:w.heap[g]?=some (.cells (hashCells st ks r a) t (0,0))) {i:Nat} (hi:i<st.length) (x:UInt64) :
    (w.setCell ⟨g,i,none⟩ (.int .u64 (x.toNat:Int))).heap[g]?=some (.cells (hashCells (st.set i x) ks r a) t (0,0)):=by
  rw [box_set h]
  congr 2
  apply Array.ext'
  unfold hashCells
  simp only [Array.toList_setIfInBounds]
  rw [List.set_append_left _ _ (by simp;omega),← List.map_set,List.set_append_left _ _ hi]
section
variable {P:Program} {w:World} {ops:Array Oper} {rest:List Oper} {o:Oper} {a:Act} {Q:Exit→Act→World→Prop}
theorem wpList_storeR (hgd:o.guard=none) (ty:TypeId) (x y:Operand) (ho:o.op= .store ty x y) (g:Nat) (cells:Array Value) (hx:a.eval x= .pointer (some ⟨g,0,none⟩)) (hy:a.eval y= .agg cells) {t:TypeId} {old:Array Value}
    (hg:w.heap[g]?=some (.cells old t (0,0))) (hi:(P.info? ty).map (·.size)=some cells.size) (hold:old.size=cells.size) (h1:cells.all (·.oneCell')=true)
    (h: ∀ w':World,w'.heap[g]?=some (.cells cells t (0,0))→w.grownBy w' (some g)→w'.heap.size=w.heap.size→wpList P ops Q rest (a.put o.dst undef) w'):wpList P ops Q (o::rest) a w:=
  wpList_store_row hgd ty x y ho g cells hx hy t old hg hi hold h1 (h _ (setRow_heap w g old _ t _ hg) ⟨rfl,rfl,rfl,by simp,fun i hi hr=>setRow_other w g i _ (by rintro rfl;exact hr rfl)⟩ (by simp))
theorem wpList_loadM (hgd:o.guard=none) (ty:TypeId) (x:Operand) (ho:o.op= .load ty x) (b f:Nat) (hx:a.eval x= .pointer (some ⟨b,f,none⟩)) (xs:List Nat) {k:Nat} (hl:xs.length=k) {e:TypeId}
    (hc:w.rangeAt b f (wcells xs).toList) (hu:P.underlying ty=some (.array k e)) (hi:(P.info? ty).map (·.size)=some k)
    (h:wpList P ops Q rest (a.put o.dst (.agg (wcells xs))) w):wpList P ops Q (o::rest) a w:=
  wpList_load_mid hgd ty x ho b f hx (wcells xs).toList _ hc hu rfl (by rw [Array.length_toList,wcells_size,hl];exact hi) h
end
theorem bits_not (x:UInt64):bits .xor .u64 IntKind.u64.max (x.toNat:Int)=((wc x).toNat:Int):=by
  rw [← ones_xor]
  show IntKind.u64.wrap ((BitVec.ofInt 64 ((18446744073709551615:UInt64).toNat:Int) ^^^ BitVec.ofInt 64 (x.toNat:Int)).toNat:Int)=((18446744073709551615 ^^^ x).toNat:Int)
  rw [bv_word,bv_word,wrap_word]
  congr 1
  rw [← UInt64.toBitVec_xor]
  simp only [UInt64.toNat_toBitVec,UInt64.ofNat_toNat]
theorem bits_and' (x y:UInt64):bits .and .u64 (x.toNat:Int) (y.toNat:Int)=((wn x y).toNat:Int):=by
  show IntKind.u64.wrap ((BitVec.ofInt 64 (x.toNat:Int) &&& BitVec.ofInt 64 (y.toNat:Int)).toNat:Int)=((x &&& y).toNat:Int)
  rw [bv_word,bv_word,wrap_word]
  congr 1
  rw [← UInt64.toBitVec_and]
  simp only [UInt64.toNat_toBitVec,UInt64.ofNat_toNat]
theorem bits_or' (x y:UInt64):bits .or .u64 (x.toNat:Int) (y.toNat:Int)=((wo x y).toNat:Int):=by
  show IntKind.u64.wrap ((BitVec.ofInt 64 (x.toNat:Int) ||| BitVec.ofInt 64 (y.toNat:Int)).toNat:Int)=((x ||| y).toNat:Int)
  rw [bv_word,bv_word,wrap_word]
  congr 1
  rw [← UInt64.toBitVec_or]
  simp only [UInt64.toNat_toBitVec,UInt64.ofNat_toNat]
theorem wrap_add' (x y:UInt64):IntKind.u64.wrap ((x.toNat:Int)+(y.toNat:Int))=((wa x y).toNat:Int):=by
  rw [show (x.toNat:Int)+(y.toNat:Int)=((x.toNat+y.toNat:Nat):Int) by omega,wrap_word]
  congr 1
attribute [local go_sem] wrap_ob bits_not bits_and' bits_or' wrap_add'
def BlockPost (st ks:List UInt64) (r:Value) (al:Nat) (g:Nat) (bs:List UInt8) (w:World) (e:Ending) (w':World):Prop:=
  e= .returned (.tuple #[])∧w'.heap[g]?=some (.cells (hashCells (compress ks st bs) ks r al) 168 (0,0))∧w.grownBy w' (some g)
set_option maxHeartbeats 4000000 in
set_option maxRecDepth 100000 in
theorem block_t (st ks:List UInt64) (r:Value) (al:Nat) (g:Nat) (bs:List UInt8) (A:Option Addr) (n c:Nat) (S:Nat→Prop) (w:World) (hst:st.length=8) (hks:ks.length=80)
    (hb:w.heap[g]?=some (.cells (hashCells st ks r al) 168 (0,0))) (hs:Rep.u8.sl w S A n c bs) (hn:128≤n) (hS: ∀ b,S b→b<w.heap.size) :
    Calls Tryz.prog 127 #[.pointer (some ⟨g,0,none⟩),.slice A n c] w (BlockPost st ks r al g bs w):=by
  have z80:=(zero_of_info (P:=Tryz.prog) (t:=136) (v:= .agg (wcells (zeros 80))) (n:=80) (by kernel_rfl)).1
  have z8:=(zero_of_info (P:=Tryz.prog) (t:=134) (v:= .agg (wcells (zeros 8))) (n:=8) (by kernel_rfl)).1
  have hgl:g<w.heap.size:=(Array.getElem?_eq_some_iff.1 hb).1
  obtain ⟨B,o,rfl,hBS,hbyte⟩:=byte_cells hs (by omega)
  have hBl:=hS B hBS
  have HBY:=Lib.hid hbyte
  have hnc:=hs.2.1
  have hcm:=hs.2.2.1
  have HBL:=Lib.hid hs.1
  have HST:=Lib.hid hst
  have HKS:=Lib.hid hks
  clear hbyte hs hst hks hBS
  go_enter Tryz.func127,Tryz.ntmps127
  go_wp2
  go_loopw [18] (fun ix wr=> ∃ (i:Nat),i≤80∧ix= .int .i64 (i:Nat)∧wr.heap[w.heap.size]?=some (.cells (wcells (unat (padU 80 (wordsOf bs i)))) 136 (0,0))∧Below w.heap.size w wr∧w.heap.size+1≤wr.heap.size) (fun ix _=>80-(RowKit.intOf ix).toNat)
  case atStart=>exact ⟨0,by omega,rfl,by rw [wordsOf,padU_nil,zerosU_nat];exact box_at2 rfl,by go_grown,by simp⟩
  case round =>
    obtain ⟨i,hi,rfl,hbw,hB,hsz⟩:=hrel
    by_cases hlt:i<80
    · have HL:Hid ((padU 80 (wordsOf bs i)).length=80):=padU_len (by rw [wordsOf_len];exact hi)
      by_cases h16:i<16
      · have hc8: ¬ c=8*i:=by omega
        obtain ⟨wo',rfl⟩: ∃ wo':World,wo'=wr:=⟨_,rfl⟩
        go_wp2
        go_loopw [31] (fun kx wq=> ∃ (k:Nat),k≤8∧kx= .int .i64 (k:Nat)∧wq.heap[w.heap.size]?=some (.cells (wcells (unat ((padU 80 (wordsOf bs i)).set i (word8 0 ((bs.drop (8*i)).take k))))) 136 (0,0))∧Below w.heap.size w wq∧w.heap.size+1≤wq.heap.size) (fun kx _=>8-(RowKit.intOf kx).toNat)
        case atStart=>exact ⟨0,by omega,rfl,by rw [show word8 0 ((bs.drop (8*i)).take 0)=0 from rfl,padU_set0 (wordsOf_len bs i) hlt];exact hbw,hB,hsz⟩
        case round =>
          obtain ⟨k,hk,rfl,hbw2,hB2,hsz2⟩:=hrel
          by_cases hk8:k<8
          · have cb:=hB2.cell (p:=⟨B,o+(8*i+k),none⟩) hBl
            rw [HBY.out (8*i+k) (by omega)] at cb
            have cw:=ucell_at hbw2 (i:=i) (by rw [List.length_set,HL.out];exact hlt)
            rw [set_getD (by rw [HL.out];exact hlt)] at cw
            have fw:=boxed_frozen hbw2 i
            have HX:Hid (wo (sl (word8 0 ((bs.drop (8*i)).take k)) 8) (ob (bs.getD (8*i+k) 0))=word8 0 ((bs.drop (8*i)).take (k+1))):=by
              show _=_
              rw [List.take_add_one,show (bs.drop (8*i))[k]?=some (bs.getD (8*i+k) 0) by rw [List.getElem?_drop];simp [List.getD,show 8*i+k<bs.length by rw [HBL.out];omega]]
              exact (word8_snoc _ _ _).symm
            have e1:o+8*i+k=o+(8*i+k):=by omega
            rw [← e1] at cb
            clear e1
            generalize word8 0 ((bs.drop (8*i)).take k)=x at *
            generalize bs.getD (8*i+k) 0=y at *
            go_wp2
            go_roundw
            case rel =>
              refine ⟨k+1,by omega,by go_num,?_,hB2.setCell (by simp only;omega) _,by simp;omega⟩
              have:=ucell_set hbw2 i (wo (sl x 8) (ob y))
              rw [List.set_set] at this
              rw [← HX.out]
              exact this
            case measure=>simp [RowKit.intOf] <;> omega
          · obtain rfl:k=8:=by omega
            go_wp2
            go_roundw
            case rel =>
              refine ⟨i+1,by omega,by go_num,?_,hB2,hsz2⟩
              have hw:=padU_set (n:=80) (ps:=wordsOf bs i) (p:=word8 0 ((bs.drop (8*i)).take 8)) (by rw [wordsOf_len];exact hlt)
              rw [wordsOf_len] at hw
              rw [wordsOf,if_pos h16,← hw]
              exact hbw2
            case measure=>simp [RowKit.intOf] <;> omega
      · have c15:=ucell_at hbw (i:=i-15) (by rw [HL.out];omega)
        have c2:=ucell_at hbw (i:=i-2) (by rw [HL.out];omega)
        have c16:=ucell_at hbw (i:=i-16) (by rw [HL.out];omega)
        have c7:=ucell_at hbw (i:=i-7) (by rw [HL.out];omega)
        have c0:=ucell_at hbw (i:=i) (by rw [HL.out];omega)
        have f0:=boxed_frozen hbw i
        rw [padU_get (by rw [wordsOf_len];omega)] at c15 c2 c16 c7
        have hw:=fun p=>padU_set (n:=80) (ps:=wordsOf bs i) (p:=p) (by rw [wordsOf_len];exact hlt)
        rw [wordsOf_len] at hw
        have HW:=Lib.hid hw
        clear hw
        have HN:Hid (wordsOf bs (i+1)=wordsOf bs i++[wa (wa (wa ((wordsOf bs i).getD (i-16) 0) (small0 ((wordsOf bs i).getD (i-15) 0))) ((wordsOf bs i).getD (i-7) 0)) (small1 ((wordsOf bs i).getD (i-2) 0))]):=by
          show _=_
          rw [wordsOf,if_neg h16]
          rfl
        generalize (wordsOf bs i).getD (i-15) 0=x at *
        generalize (wordsOf bs i).getD (i-2) 0=y at *
        generalize (wordsOf bs i).getD (i-16) 0=u at *
        generalize (wordsOf bs i).getD (i-7) 0=v at *
        generalize (padU 80 (wordsOf bs i)).getD i 0=q at *
        have d15:((i:Int)-15).toNat=i-15:=by omega
        have d2:((i:Int)-2).toNat=i-2:=by omega
        have d16:((i:Int)-16).toNat=i-16:=by omega
        have d7:((i:Int)-7).toNat=i-7:=by omega
        have b15:(i:Int)-15<80:=by omega
        have b2:(i:Int)-2<80:=by omega
        have b16:(i:Int)-16<80:=by omega
        have b7:(i:Int)-7<80:=by omega
        have p15:(15:Int)≤(i:Int):=by omega
        have p2:(2:Int)≤(i:Int):=by omega
        have p16:(16:Int)≤(i:Int):=by omega
        have p7:(7:Int)≤(i:Int):=by omega
        have W15:IntKind.i64.wrap ((i:Int)-15)=(i:Int)-15:=IntWalk.i64_in _ (by omega)
        have W2:IntKind.i64.wrap ((i:Int)-2)=(i:Int)-2:=IntWalk.i64_in _ (by omega)
        have W16:IntKind.i64.wrap ((i:Int)-16)=(i:Int)-16:=IntWalk.i64_in _ (by omega)
        have W7:IntKind.i64.wrap ((i:Int)-7)=(i:Int)-7:=IntWalk.i64_in _ (by omega)
        go_wp2
        go_quiet (fail)
        go_wp2
        refine wp_region_still_tail 29 (by kernel_rfl) (by kernel_rfl) ?_
        change wpStill _ _ (World.drew _) _ _ _
        simp only [List.take_succ_cons,List.take_zero,List.drop_succ_cons,List.drop_zero]
        repeat (first|still_step|still_call (turn_any _ _ (by decide) _))
        refine wpStill_nil ?_
        change wpList _ _ _ _ _ (World.drew _)
        go_wp2
        clear d15 d2 d16 d7 b15 b2 b16 b7 W15 W2 W16 W7 c15 c2 c16 c7
        go_roundw
        case rel =>
          refine ⟨i+1,by omega,by go_num,?_,Below.setCell (below_drewN hB _) (by simp only;omega) _,by simp;omega⟩
          rw [HN.out,← HW.out]
          exact ucell_set (w:=wr) hbw i _
        case measure=>simp [RowKit.intOf] <;> omega
    · obtain rfl:i=80:=by omega
      rw [padU_full (wordsOf_len bs 80)] at hbw
      have HW:Hid ((wordsOf bs 80).length=80):=wordsOf_len bs 80
      have HCP:Hid (compress ks st bs=addsW st (roundsW ks (wordsOf bs 80) st 80)):=rfl
      generalize wordsOf bs 80=ws at *
      have hb1:=box_below hb hB hgl
      have hsu:(unat st).length=8:=by rw [unat_len,HST.out]
      have hku:(unat ks).length=80:=by rw [unat_len,HKS.out]
      have HSU:=Lib.hid hsu
      have HKU:=Lib.hid hku
      clear hsu hku
      go_wp2_with (refine halt_load (ty:=134) rfl ?_)
      refine go_onO (wpList_loadM rfl _ _ rfl g 0 rfl (unat st) HSU.out (hash_state hb1) Tryz.underlying134 (by kernel_rfl) ?_)
      go_wp2_with (refine halt_store (ty:=134) rfl ?_)
      refine go_onO (wpList_storeW rfl _ _ _ rfl _ (unat st) rfl rfl HSU.out (box_at2 rfl) (by rw [wcells_size,zeros_len]) (by kernel_rfl) ?_)
      intro w2 hbs2 hg2 hs2
      have hbw2:=box_grown (box_alloc hbw _) hg2 (by simp;omega)
      have hb2:=box_grown (box_alloc hb1 _) hg2 (by simp;omega)
      have hB2:=(hB.alloc hB.size _).grown hg2 (by simp;omega) (fun k e=>by injection e;omega)
      simp only [World.size_alloc] at hs2
      have hsz2:wr.heap.size+1≤w2.heap.size:=by omega
      clear hs2 hg2 hbw hb1 hB z80 z8
      go_wp2_with (refine halt_load (ty:=136) rfl ?_)
      refine go_onO (wpList_loadM rfl _ _ rfl g 8 rfl (unat ks) HKU.out (hash_consts HST.out hb2) Tryz.underlying136 (by kernel_rfl) ?_)
      go_wp2
      obtain ⟨W0,hW0⟩: ∃ W0:Nat,W0=wr.heap.size:=⟨_,rfl⟩
      rw [← hW0] at hbs2 hsz2 ⊢
      have hW0':w.heap.size+1≤W0:=by omega
      clear hW0
      have hixk:=fun (j:Nat) (hj:j<80) (v:World)=>run_index_words (d:= .bool) Tryz.underlying136 (by kernel_rfl) Tryz.underlying59 HKU.out hj v
      have HIX:=Lib.hid hixk
      clear hixk
      go_loopw [91] (fun jx wq=> ∃ (j:Nat),j≤80∧jx= .int .i64 (j:Nat)∧wq.heap[w.heap.size]?=some (.cells (wcells (unat ws)) 136 (0,0))∧wq.heap[W0]?=some (.cells (wcells (unat (roundsW ks ws st j))) 134 (0,0)) ∧
        wq.heap[g]?=some (.cells (hashCells st ks r al) 168 (0,0))∧Below w.heap.size w wq∧W0+1≤wq.heap.size) (fun jx _=>80-(RowKit.intOf jx).toNat)
      case atStart=>exact ⟨0,by omega,rfl,hbw2,hbs2,hb2,hB2,hsz2⟩
      case round =>
        obtain ⟨j,hj,rfl,hbw3,hbs3,hb3,hB3,hsz3⟩:=hrel
        by_cases hj80:j<80
        · have hixj:=HIX.out j hj80
          rw [unat_get] at hixj
          have cw:=ucell_at hbw3 (i:=j) (by rw [HW.out];exact hj80)
          have HRN:Hid (roundsW ks ws st (j+1)=roundW (roundsW ks ws st j) (ks.getD j 0) (ws.getD j 0)):=rfl
          generalize ks.getD j 0=kj at *
          generalize ws.getD j 0=wj at *
          have hl8:=roundsW_len (ks:=ks) (ws:=ws) HST.out j
          generalize roundsW ks ws st j=s at *
          match s,hl8 with
          | [a0,a1,a2,a3,a4,a5,a6,a7],_ =>
            have s0:wr.cell? ⟨W0,0,none⟩=some (.int .u64 (a0.toNat:Int)):=ucell_at hbs3 (i:=0) (by simp)
            have s1:wr.cell? ⟨W0,1,none⟩=some (.int .u64 (a1.toNat:Int)):=ucell_at hbs3 (i:=1) (by simp)
            have s2:wr.cell? ⟨W0,2,none⟩=some (.int .u64 (a2.toNat:Int)):=ucell_at hbs3 (i:=2) (by simp)
            have s3:wr.cell? ⟨W0,3,none⟩=some (.int .u64 (a3.toNat:Int)):=ucell_at hbs3 (i:=3) (by simp)
            have s4:wr.cell? ⟨W0,4,none⟩=some (.int .u64 (a4.toNat:Int)):=ucell_at hbs3 (i:=4) (by simp)
            have s5:wr.cell? ⟨W0,5,none⟩=some (.int .u64 (a5.toNat:Int)):=ucell_at hbs3 (i:=5) (by simp)
            have s6:wr.cell? ⟨W0,6,none⟩=some (.int .u64 (a6.toNat:Int)):=ucell_at hbs3 (i:=6) (by simp)
            have s7:wr.cell? ⟨W0,7,none⟩=some (.int .u64 (a7.toNat:Int)):=ucell_at hbs3 (i:=7) (by simp)
            go_wp2
            go_quiet (fail)
            go_wp2
            go_quiet ((go_at_call 133;exact quiet_later (turn_any _ _ (by decide) _)))
            go_wp2
            go_quiet ((go_at_call 133;exact quiet_later (turn_any _ _ (by decide) _)))
            go_wp2_with (refine halt_store (ty:=134) rfl ?_)
            refine go_onO (wpList_storeR rfl _ _ _ rfl _ _ rfl rfl (w:=wr.drewN _) hbs3 (by kernel_rfl) (by rw [wcells_size];rfl) (by simp [Value.oneCell']) ?_)
            intro w5 hbs5' hg5 hs5
            have hbs5:w5.heap[W0]?=some (.cells (wcells (unat (roundW [a0,a1,a2,a3,a4,a5,a6,a7] kj wj))) 134 (0,0)):=by
              rw [round_cells]
              exact hbs5'
            clear hbs5'
            have hbw5:=box_grown (w:=wr.drewN _) hbw3 hg5 (by intro e;injection e;omega)
            have hb5:=box_grown (w:=wr.drewN _) hb3 hg5 (by intro e;injection e;omega)
            have hB5:=(below_drewN hB3 _).grown hg5 hB3.size (fun k e=>by injection e;omega)
            have hsz5:W0+1≤w5.heap.size:=by rw [hs5];exact hsz3
            clear hs5 hg5 s0 s1 s2 s3 s4 s5 s6 s7 cw hixj
            go_wp2
            go_roundw
            case rel=>exact ⟨j+1,by omega,by go_num,hbw5,by rw [HRN.out];exact hbs5,hb5,hB5,hsz5⟩
            case measure=>simp [RowKit.intOf] <;> omega
        · have hje:j=80:=by omega
          have HS8:Hid ((roundsW ks ws st j).length=8):=roundsW_len HST.out j
          have HC2:Hid (compress ks st bs=addsW st (roundsW ks ws st j)):=by show _=_;rw [HCP.out,hje]
          clear hje
          generalize roundsW ks ws st j=s at *
          have HAL:Hid ((addsW st s).length=st.length):=addsW_len (by rw [HST.out,HS8.out])
          have HAG:Hid (∀ m,m<8→(addsW st s).getD m 0=wa (st.getD m 0) (s.getD m 0)):=fun m hm=>addsW_get (by rw [HST.out];exact hm) (by rw [HS8.out];exact hm)
          have hG3:=grownBy_of_below hB3 (some g)
          go_wp2
          go_loopw [170] (fun mx wq=> ∃ (m:Nat),m≤8∧mx= .int .i64 (m:Nat)∧wq.heap[g]?=some (.cells (hashCells (mixL (addsW st s) st m) ks r al) 168 (0,0))∧wq.heap[W0]?=some (.cells (wcells (unat s)) 134 (0,0))∧w.grownBy wq (some g)) (fun mx _=>8-(RowKit.intOf mx).toNat)
          case atStart=>exact ⟨0,by omega,rfl,by rw [show mixL (addsW st s) st 0=st from rfl];exact hb3,hbs3,hG3⟩
          case round =>
            obtain ⟨m,hm,rfl,hb4,hbs4,hG4⟩:=hrel
            by_cases hm8:m<8
            · have ca:=hash_at hb4 (i:=m) (by rw [mixL_len HAL.out (by rw [HST.out];omega),HST.out];exact hm8)
              rw [mixL_get HAL.out (by rw [HST.out];exact hm8)] at ca
              have cb:=ucell_at hbs4 (i:=m) (by rw [HS8.out];exact hm8)
              have fa:=boxed_frozen hb4 m
              have HX:=HAG.out m hm8
              have HX2:=Lib.hid HX
              clear HX
              generalize st.getD m 0=x at *
              generalize s.getD m 0=y at *
              go_wp2
              refine wp_region_still_tail 13 (by kernel_rfl) (by kernel_rfl) ?_
              change wpStill _ _ (World.drew _) _ _ _
              simp only [List.take_succ_cons,List.take_zero,List.drop_succ_cons,List.drop_zero]
              repeat (first|still_step|fail)
              refine wpStill_nil ?_
              change wpList _ _ _ _ _ (World.drew _)
              go_wp2
              go_roundw
              case rel =>
                refine ⟨m+1,by omega,by go_num,?_,box_far (w:=wr.drew) hbs4 (by simp only;omega) _,grownBy_set (grownBy_drew hG4) _⟩
                rw [← mixL_set HAL.out (by rw [HST.out];exact hm8),HX2.out]
                exact hash_set (w:=wr.drew) hb4 (by rw [mixL_len HAL.out (by rw [HST.out];omega),HST.out];exact hm8) _
              case measure=>simp [RowKit.intOf] <;> omega
            · have hme:m=8:=by omega
              have hmx:mixL (addsW st s) st m=compress ks st bs:=by
                unfold mixL
                rw [HC2.out,hme,List.take_of_length_le (by rw [HAL.out,HST.out];omega),List.drop_eq_nil_of_le (by rw [HST.out];omega),List.append_nil]
              rw [hmx] at hb4
              clear hmx hme
              go_wp2
              go_end0
              exact ⟨rfl,hb4,hG4⟩
end Go.Proofs.YtdakeodebgggfaaGreatDoor
namespace Go.Proofs.YtdakeodebgggfaaGreatDoor
def firstL:List Nat:=[7640891576956012808,13503953896175478587,4354685564936845355,11912009170470909681,5840696475078001361,11170449401992604703,2270897969802886507,6620516959819538809]
def constL:List Nat:=[4794697086780616226,8158064640168781261,13096744586834688815,16840607885511220156,4131703408338449720,6480981068601479193,10538285296894168987,12329834152419229976,15566598209576043074,1334009975649890238,2608012711638119052,6128411473006802146,8268148722764581231,9286055187155687089,11230858885718282805,13951009754708518548,16472876342353939154,17275323862435702243,1135362057144423861,2597628984639134821,3308224258029322869,5365058923640841347,6679025012923562964,8573033837759648693,10970295158949994411,12119686244451234320,12683024718118986047,13788192230050041572,14330467153632333762,15395433587784984357,489312712824947311,1452737877330783856,2861767655752347644,3322285676063803686,5560940570517711597,5996557281743188959,7280758554555802590,8532644243296465576,9350256976987008742,10552545826968843579,11727347734174303076,12113106623233404929,14000437183269869457,14369950271660146224,15101387698204529176,15463397548674623760,17586052441742319658,1182934255886127544,1847814050463011016,2177327727835720531,2830643537854262169,3796741975233480872,4115178125766777443,5681478168544905931,6601373596472566643,7507060721942968483,8399075790359081724,8693463985226723168,9568029438360202098,10144078919501101548,10430055236837252648,11840083180663258601,13761210420658862357,14299343276471374635,14566680578165727644,15097957966210449927,16922976911328602910,17689382322260857208,500013540394364858,748580250866718886,1242879168328830382,1977374033974150939,2944078676154940804,3659926193048069267,4368137639120453308,4836135668995329356,5532061633213252278,6448918945643986474,6902733635092675308,7801388544844847127]
theorem primes_eq:primesL=[2,3,5,7,11,13,17,19,23,29,31,37,41,43,47,53,59,61,67,71,73,79,83,89,97,101,103,107,109,113,127,131,137,139,149,151,157,163,167,173,179,181,191,193,197,199,211,223,227,229,233,239,241,251,257,263,269,271,277,281,283,293,307,311,313,317,331,337,347,349,353,359,367,373,379,383,389,397,401,409]:=by decide +kernel
theorem sq_2:rootN 2 2=7640891576956012808:=by decide +kernel
theorem sq_3:rootN 3 2=13503953896175478587:=by decide +kernel
theorem sq_5:rootN 5 2=4354685564936845355:=by decide +kernel
theorem sq_7:rootN 7 2=11912009170470909681:=by decide +kernel
theorem sq_11:rootN 11 2=5840696475078001361:=by decide +kernel
theorem sq_13:rootN 13 2=11170449401992604703:=by decide +kernel
theorem sq_17:rootN 17 2=2270897969802886507:=by decide +kernel
theorem sq_19:rootN 19 2=6620516959819538809:=by decide +kernel
theorem cu_2:rootN 2 3=4794697086780616226:=by decide +kernel
theorem cu_3:rootN 3 3=8158064640168781261:=by decide +kernel
theorem cu_5:rootN 5 3=13096744586834688815:=by decide +kernel
theorem cu_7:rootN 7 3=16840607885511220156:=by decide +kernel
theorem cu_11:rootN 11 3=4131703408338449720:=by decide +kernel
theorem cu_13:rootN 13 3=6480981068601479193:=by decide +kernel
theorem cu_17:rootN 17 3=10538285296894168987:=by decide +kernel
theorem cu_19:rootN 19 3=12329834152419229976:=by decide +kernel
theorem cu_23:rootN 23 3=15566598209576043074:=by decide +kernel
theorem cu_29:rootN 29 3=1334009975649890238:=by decide +kernel
theorem cu_31:rootN 31 3=2608012711638119052:=by decide +kernel
theorem cu_37:rootN 37 3=6128411473006802146:=by decide +kernel
theorem cu_41:rootN 41 3=8268148722764581231:=by decide +kernel
theorem cu_43:rootN 43 3=9286055187155687089:=by decide +kernel
theorem cu_47:rootN 47 3=11230858885718282805:=by decide +kernel
theorem cu_53:rootN 53 3=13951009754708518548:=by decide +kernel
theorem cu_59:rootN 59 3=16472876342353939154:=by decide +kernel
theorem cu_61:rootN 61 3=17275323862435702243:=by decide +kernel
theorem cu_67:rootN 67 3=1135362057144423861:=by decide +kernel
theorem cu_71:rootN 71 3=2597628984639134821:=by decide +kernel
theorem cu_73:rootN 73 3=3308224258029322869:=by decide +kernel
theorem cu_79:rootN 79 3=5365058923640841347:=by decide +kernel
theorem cu_83:rootN 83 3=6679025012923562964:=by decide +kernel
theorem cu_89:rootN 89 3=8573033837759648693:=by decide +kernel
theorem cu_97:rootN 97 3=10970295158949994411:=by decide +kernel
theorem cu_101:rootN 101 3=12119686244451234320:=by decide +kernel
theorem cu_103:rootN 103 3=12683024718118986047:=by decide +kernel
theorem cu_107:rootN 107 3=13788192230050041572:=by decide +kernel
theorem cu_109:rootN 109 3=14330467153632333762:=by decide +kernel
theorem cu_113:rootN 113 3=15395433587784984357:=by decide +kernel
theorem cu_127:rootN 127 3=489312712824947311:=by decide +kernel
theorem cu_131:rootN 131 3=1452737877330783856:=by decide +kernel
theorem cu_137:rootN 137 3=2861767655752347644:=by decide +kernel
theorem cu_139:rootN 139 3=3322285676063803686:=by decide +kernel
theorem cu_149:rootN 149 3=5560940570517711597:=by decide +kernel
theorem cu_151:rootN 151 3=5996557281743188959:=by decide +kernel
theorem cu_157:rootN 157 3=7280758554555802590:=by decide +kernel
theorem cu_163:rootN 163 3=8532644243296465576:=by decide +kernel
theorem cu_167:rootN 167 3=9350256976987008742:=by decide +kernel
theorem cu_173:rootN 173 3=10552545826968843579:=by decide +kernel
theorem cu_179:rootN 179 3=11727347734174303076:=by decide +kernel
theorem cu_181:rootN 181 3=12113106623233404929:=by decide +kernel
theorem cu_191:rootN 191 3=14000437183269869457:=by decide +kernel
theorem cu_193:rootN 193 3=14369950271660146224:=by decide +kernel
theorem cu_197:rootN 197 3=15101387698204529176:=by decide +kernel
theorem cu_199:rootN 199 3=15463397548674623760:=by decide +kernel
theorem cu_211:rootN 211 3=17586052441742319658:=by decide +kernel
theorem cu_223:rootN 223 3=1182934255886127544:=by decide +kernel
theorem cu_227:rootN 227 3=1847814050463011016:=by decide +kernel
theorem cu_229:rootN 229 3=2177327727835720531:=by decide +kernel
theorem cu_233:rootN 233 3=2830643537854262169:=by decide +kernel
theorem cu_239:rootN 239 3=3796741975233480872:=by decide +kernel
theorem cu_241:rootN 241 3=4115178125766777443:=by decide +kernel
theorem cu_251:rootN 251 3=5681478168544905931:=by decide +kernel
theorem cu_257:rootN 257 3=6601373596472566643:=by decide +kernel
theorem cu_263:rootN 263 3=7507060721942968483:=by decide +kernel
theorem cu_269:rootN 269 3=8399075790359081724:=by decide +kernel
theorem cu_271:rootN 271 3=8693463985226723168:=by decide +kernel
theorem cu_277:rootN 277 3=9568029438360202098:=by decide +kernel
theorem cu_281:rootN 281 3=10144078919501101548:=by decide +kernel
theorem cu_283:rootN 283 3=10430055236837252648:=by decide +kernel
theorem cu_293:rootN 293 3=11840083180663258601:=by decide +kernel
theorem cu_307:rootN 307 3=13761210420658862357:=by decide +kernel
theorem cu_311:rootN 311 3=14299343276471374635:=by decide +kernel
theorem cu_313:rootN 313 3=14566680578165727644:=by decide +kernel
theorem cu_317:rootN 317 3=15097957966210449927:=by decide +kernel
theorem cu_331:rootN 331 3=16922976911328602910:=by decide +kernel
theorem cu_337:rootN 337 3=17689382322260857208:=by decide +kernel
theorem cu_347:rootN 347 3=500013540394364858:=by decide +kernel
theorem cu_349:rootN 349 3=748580250866718886:=by decide +kernel
theorem cu_353:rootN 353 3=1242879168328830382:=by decide +kernel
theorem cu_359:rootN 359 3=1977374033974150939:=by decide +kernel
theorem cu_367:rootN 367 3=2944078676154940804:=by decide +kernel
theorem cu_373:rootN 373 3=3659926193048069267:=by decide +kernel
theorem cu_379:rootN 379 3=4368137639120453308:=by decide +kernel
theorem cu_383:rootN 383 3=4836135668995329356:=by decide +kernel
theorem cu_389:rootN 389 3=5532061633213252278:=by decide +kernel
theorem cu_397:rootN 397 3=6448918945643986474:=by decide +kernel
theorem cu_401:rootN 401 3=6902733635092675308:=by decide +kernel
theorem cu_409:rootN 409 3=7801388544844847127:=by decide +kernel
theorem first_roots:rootsL 2 8=firstL:=by
  unfold rootsL firstL
  rw [primes_eq]
  simp only [List.take_succ_cons,List.take_zero,List.map_cons,List.map_nil,sq_2,sq_3,sq_5,sq_7,sq_11,sq_13,sq_17,sq_19]
theorem const_roots:rootsL 3 80=constL:=by
  unfold rootsL constL
  rw [primes_eq]
  simp only [List.take_succ_cons,List.take_zero,List.map_cons,List.map_nil,cu_2,cu_3,cu_5,cu_7,cu_11,cu_13,cu_17,cu_19,cu_23,cu_29,cu_31,cu_37,cu_41,cu_43,cu_47,cu_53,cu_59,cu_61,cu_67,cu_71,cu_73,cu_79,cu_83,cu_89,cu_97,cu_101,cu_103,cu_107,cu_109,cu_113,cu_127,cu_131,cu_137,cu_139,cu_149,cu_151,cu_157,cu_163,cu_167,cu_173,cu_179,cu_181,cu_191,cu_193,cu_197,cu_199,cu_211,cu_223,cu_227,cu_229,cu_233,cu_239,cu_241,cu_251,cu_257,cu_263,cu_269,cu_271,cu_277,cu_281,cu_283,cu_293,cu_307,cu_311,cu_313,cu_317,cu_331,cu_337,cu_347,cu_349,cu_353,cu_359,cu_367,cu_373,cu_379,cu_383,cu_389,cu_397,cu_401,cu_409]
end Go.Proofs.YtdakeodebgggfaaGreatDoor
namespace Go.Proofs.YtdakeodebgggfaaGreatDoor
open Go.RowKit Go.Lib
theorem TU:ElemT Tryz.prog 22 5 (.int .u8 0) 1 1:=⟨Tryz.underlying22,by kernel_rfl,rfl,by omega⟩
theorem setCells_box {g:Nat} {t:TypeId} {post:List Value}: ∀ (vs pre mid:List Value) (w:World),mid.length=vs.length→w.heap[g]?=some (.cells (pre++(mid++post)).toArray t (0,0)) →
    (w.setCells g pre.length vs).heap[g]?=some (.cells (pre++(vs++post)).toArray t (0,0))∧w.grownBy (w.setCells g pre.length vs) (some g)∧(w.setCells g pre.length vs).heap.size=w.heap.size
  | [],pre,mid,w,hm,h=>by
    have:mid=[]:=List.eq_nil_of_length_eq_zero hm
    subst this
    exact ⟨h,World.grownBy.refl _ _,rfl⟩
  | v::vs,pre,[],w,hm,h=>by cases hm
  | v::vs,pre,m::mid,w,hm,h=>by
    have h1:(w.setCell ⟨g,pre.length,none⟩ v).heap[g]?=some (.cells ((pre++[v])++(mid++post)).toArray t (0,0)):=by
      rw [box_set h]
      congr 2
      apply Array.ext'
      simp
    have:=setCells_box vs (pre++[v]) mid _ (by simpa using hm) h1
    rw [List.length_append,List.length_singleton] at this
    rw [World.setCells]
    obtain ⟨a,b,c⟩:=this
    refine ⟨by rw [a];simp,grownBy_trans (grownBy_set (World.grownBy.refl w _) _) b,by rw [c];simp⟩
section
variable {P:Program} {w:World} {ops:Array Oper} {rest:List Oper} {o:Oper} {a:Act} {Q:Exit→Act→World→Prop}
theorem wpList_storeM (hgd:o.guard=none) (ty:TypeId) (x y:Operand) (ho:o.op= .store ty x y) (b f:Nat) (cells:Array Value) (hx:a.eval x= .pointer (some ⟨b,f,none⟩)) (hy:a.eval y= .agg cells) {t:TypeId} {pre mid post:List Value}
    (hg:w.heap[b]?=some (.cells (pre++(mid++post)).toArray t (0,0))) (hf:pre.length=f) (hm:mid.length=cells.size) (hi:(P.info? ty).map (·.size)=some cells.size) (h1:cells.all (·.oneCell')=true)
    (h: ∀ w':World,w'.heap[b]?=some (.cells (pre++(cells.toList++post)).toArray t (0,0))→w.grownBy w' (some b)→w'.heap.size=w.heap.size→wpList P ops Q rest (a.put o.dst undef) w'):wpList P ops Q (o::rest) a w:=by
  subst hf
  obtain ⟨h2,h3,h4⟩:=setCells_box cells.toList pre mid w (by simpa using hm) hg
  refine wpList_store_mid hgd ty x y ho b pre.length cells hx hy (fun j hj=>⟨?_,boxed_frozen hg _⟩) hi h1 (h _ h2 h3 h4)
  have hj':pre.length+j<(pre++(mid++post)).length:=by simp only [List.length_append];omega
  rw [boxed hg (pre.length+j) _ (List.getElem?_eq_getElem hj')]
  rfl
end
def st0:List UInt64:=firstL.map UInt64.ofNat
def ks0:List UInt64:=constL.map UInt64.ofNat
theorem unat_st0:unat st0=rootsL 2 8:=by
  rw [first_roots]
  decide +kernel
theorem unat_ks0:unat ks0=rootsL 3 80:=by
  rw [const_roots]
  decide +kernel
theorem st0_len:st0.length=8:=rfl
theorem ks0_len:ks0.length=80:=rfl
theorem wcells_list (xs:List UInt64):(wcells (unat xs)).toList=xs.map (fun x=>Value.int .u64 (x.toNat:Int)):=by
  unfold wcells unat
  rw [List.map_map]
  rfl
def HashAt (w:World) (lo g:Nat) (st:List UInt64) (rest:List UInt8) (al:Nat):Prop:=
  ∃ r,w.heap[g]?=some (.cells (hashCells st ks0 r al) 168 (0,0))∧Rep.u8.own 5 w lo (fun _=>False) r rest
def NewPost (w:World) (e:Ending) (w':World):Prop:=e= .returned (.pointer (some ⟨w.heap.size,0,none⟩))∧HashAt w' w.heap.size w.heap.size st0 [] 0∧Below w.heap.size w w'
def zeroHash:Array Value:=(([]:List Value)++(List.replicate 8 (Value.int .u64 0)++(List.replicate 80 (Value.int .u64 0)++[Value.slice none 0 0,Value.int .u64 0]))).toArray
set_option maxHeartbeats 1000000 in
set_option maxRecDepth 100000 in
theorem new_c (w:World):Calls Tryz.prog 118 #[] w (NewPost w):=by
  have z76:=(zero_of_info (P:=Tryz.prog) (t:=168) (v:= .agg zeroHash) (n:=90) (by kernel_rfl)).1
  go_enter Tryz.func118,Tryz.ntmps118
  go_wp2_with fail
  refine Calls.mono (tables_c _) ?_
  rintro e w1 ⟨rfl,hB1⟩
  have hb:=box_below (box_new w _ 168) hB1 (by simp)
  have hb':w1.heap[w.heap.size]?=some (.cells (([]:List Value)++(List.replicate 8 (Value.int .u64 0)++(List.replicate 80 (Value.int .u64 0)++[Value.slice none 0 0,Value.int .u64 0]))).toArray 168 (0,0)):=hb
  have hB:Below w.heap.size w w1:=((Below.refl _ _).alloc (Nat.le_refl _) _).trans (hB1.mono (by simp))
  clear hb hB1
  go_wp2_with (refine halt_store (ty:=134) rfl ?_)
  refine go_onO (wpList_storeM rfl _ _ _ rfl w.heap.size 0 (wcells (rootsL 2 8)) rfl rfl hb' rfl (by rw [wcells_size,rootsL_len (by omega)];rfl) (by rw [wcells_size,rootsL_len (by omega)];kernel_rfl) (wcells_one _) ?_)
  intro w2 hb2 hg2 hs2
  have hB2:=hB.grown hg2 hB.size (fun k e=>by injection e;omega)
  rw [← unat_st0,wcells_list] at hb2
  have hb2':w2.heap[w.heap.size]?=some (.cells (st0.map (fun x=>Value.int .u64 (x.toNat:Int))++(List.replicate 80 (Value.int .u64 0)++[Value.slice none 0 0,Value.int .u64 0])).toArray 168 (0,0)):=hb2
  clear hb2 hg2 hs2 hb' hB
  go_wp2_with (refine halt_store (ty:=136) rfl ?_)
  refine go_onO (wpList_storeM rfl _ _ _ rfl w.heap.size 8 (wcells (rootsL 3 80)) rfl rfl hb2' (by rw [List.length_map,st0_len]) (by rw [wcells_size,rootsL_len (by omega),List.length_replicate]) (by rw [wcells_size,rootsL_len (by omega)];kernel_rfl) (wcells_one _) ?_)
  intro w3 hb3 hg3 hs3
  have hB3:=hB2.grown hg3 hB2.size (fun k e=>by injection e;omega)
  rw [← unat_ks0,wcells_list] at hb3
  go_wp2
  go_ret
  refine ⟨rfl,⟨.slice none 0 0,?_,Rep.own_nil⟩,hB3⟩
  rw [hb3]
  congr 2
def OwnPost (w:World) (xs:List UInt8) (e:Ending) (w':World):Prop:= ∃ v,e= .returned v∧Rep.u8.own 5 w' w.heap.size (fun _=>False) v xs∧Below w.heap.size w w'
set_option maxHeartbeats 1000000 in
theorem clone_c (xs:List UInt8) (A:Option Addr) (n c:Nat) (S:Nat→Prop) (w:World) (hs:Rep.u8.sl w S A n c xs) (hn:n≤1000000000) (hS: ∀ b,S b→b<w.heap.size) :
    Calls Tryz.prog 128 #[.slice A n c] w (OwnPost w xs):=by
  have hl:=hs.1
  have HN:=Lib.hid hl
  clear hl
  have heq:=fun (v:World)=>Lib.run_eql_slice_nil (P:=Tryz.prog) v 22 5 A n c 0 0 Tryz.underlying22
  cases A with
  | none =>
    have hz:n=0:=by
      rcases Nat.eq_zero_or_pos n with h|h
      · exact h
      · obtain ⟨b,o,e,_⟩:=hs.2.2.2 h
        cases e
    have hx:xs=[]:=List.eq_nil_of_length_eq_zero (by rw [HN.out,hz])
    have HX:=Lib.hid hx
    clear hx hz hs
    go_enter Tryz.func128,Tryz.ntmps128
    go_wp2
    go_ret
    exact ⟨_,rfl,by rw [HX.out];exact Rep.own_nil,Below.refl _ _⟩
  | some ad =>
    go_enter Tryz.func128,Tryz.ntmps128
    go_wp2_with (at_builtin;refine halt ?_)
    refine go_on (wpList_appF rfl flat_u8 TU _ _ rfl (by rfl) (own_lit (base:=w.heap.size) (S:=fun _=>False) _ [] rfl rfl (Nat.le_refl _) (by decide) rfl (fun _ h=>h.elim) (fun i x h=>by simp at h)) (by rfl) (Rep.sl_below hs (Below.alloc (Below.refl _ _) (Nat.le_refl _) _) hS) (by first|(with_reducible rfl)|omega|(simp;done)|(simp;omega)|(intro b hb;(try dsimp only at hb);simp;omega)|(intro b hb;(try dsimp only at hb);simp [Value.ownBlock];omega)|(intro b hb;exact hb.elim)|(go_grown;done)) (by first|(with_reducible rfl)|omega|(simp;done)|(simp;omega)|(intro b hb;(try dsimp only at hb);simp;omega)|(intro b hb;(try dsimp only at hb);simp [Value.ownBlock];omega)|(intro b hb;exact hb.elim)|(go_grown;done)) (by first|(with_reducible rfl)|omega|(simp;done)|(simp;omega)|(intro b hb;(try dsimp only at hb);simp;omega)|(intro b hb;(try dsimp only at hb);simp [Value.ownBlock];omega)|(intro b hb;exact hb.elim)|(go_grown;done)) (fun _ h=>h.elim) ?_)
    intro v2 w2 ho2 hg2 _
    rw [List.nil_append] at ho2
    have hB2:=((Below.refl w.heap.size w).alloc (Nat.le_refl _) (.cells #[] 5)).grown hg2 (by simp) (fun k e=>by simp [Value.ownBlock] at e;omega)
    go_wp2
    go_ret
    exact ⟨_,rfl,ho2,hB2⟩
end Go.Proofs.YtdakeodebgggfaaGreatDoor
namespace Go.Proofs.YtdakeodebgggfaaGreatDoor
open Go.RowKit Go.Lib
def eat:Nat→List UInt64→List UInt8→List UInt64 × List UInt8
  | 0,st,b=>(st,b)
  | n+1,st,b=>if 128≤b.length then eat n (compress ks0 st (b.take 128)) (b.drop 128) else (st,b)
theorem hash_size {st:List UInt64} {r:Value} {a:Nat} (h:st.length=8):(hashCells st ks0 r a).toList=(st++ks0).map (fun x=>Value.int .u64 (x.toNat:Int))++[r,.int .u64 (a:Int)]:=rfl
theorem hash_rest {w:World} {g:Nat} {st:List UInt64} {r:Value} {a:Nat} {t:TypeId} (hst:st.length=8) (h:w.heap[g]?=some (.cells (hashCells st ks0 r a) t (0,0))):w.cell? ⟨g,88,none⟩=some r:=by
  refine boxed h 88 r ?_
  rw [hash_size hst,List.getElem?_append_right (by simp [hst,ks0_len])]
  simp [hst,ks0_len]
theorem hash_all {w:World} {g:Nat} {st:List UInt64} {r:Value} {a:Nat} {t:TypeId} (hst:st.length=8) (h:w.heap[g]?=some (.cells (hashCells st ks0 r a) t (0,0))):w.cell? ⟨g,89,none⟩=some (.int .u64 (a:Int)):=by
  refine boxed h 89 _ ?_
  rw [hash_size hst,List.getElem?_append_right (by simp [hst,ks0_len])]
  simp [hst,ks0_len]
theorem hash_setRest {w:World} {g:Nat} {st:List UInt64} {r:Value} {a:Nat} {t:TypeId} (hst:st.length=8) (h:w.heap[g]?=some (.cells (hashCells st ks0 r a) t (0,0))) (r':Value) :
    (w.setCell ⟨g,88,none⟩ r').heap[g]?=some (.cells (hashCells st ks0 r' a) t (0,0)):=by
  rw [box_set h]
  congr 2
  apply Array.ext'
  simp only [Array.toList_setIfInBounds,hash_size hst]
  rw [List.set_append_right _ _ (by simp [hst,ks0_len])]
  simp [hst,ks0_len]
theorem hash_setAll {w:World} {g:Nat} {st:List UInt64} {r:Value} {a:Nat} {t:TypeId} (hst:st.length=8) (h:w.heap[g]?=some (.cells (hashCells st ks0 r a) t (0,0))) (a':Nat) :
    (w.setCell ⟨g,89,none⟩ (.int .u64 (a':Int))).heap[g]?=some (.cells (hashCells st ks0 r a') t (0,0)):=by
  rw [box_set h]
  congr 2
  apply Array.ext'
  simp only [Array.toList_setIfInBounds,hash_size hst]
  rw [List.set_append_right _ _ (by simp [hst,ks0_len])]
  simp [hst,ks0_len]
theorem eat_len: ∀ (n:Nat) (st:List UInt64) (b:List UInt8),st.length=8→(eat n st b).1.length=8
  | 0,st,b,h=>h
  | n+1,st,b,h=>by
    unfold eat
    split
    · exact eat_len n _ _ (by unfold compress;rw [addsW_len (by rw [roundsW_len h];exact h)];exact h)
    · exact h
theorem compress_len {st:List UInt64} {b:List UInt8} (h:st.length=8):(compress ks0 st b).length=8:=by
  unfold compress
  rw [addsW_len (by rw [roundsW_len h];exact h)]
  exact h
def WritePost (w:World) (base g:Nat) (st:List UInt64) (rest bs:List UInt8) (al:Nat) (e:Ending) (w':World):Prop:=
  e= .returned (.tuple #[])∧HashAt w' w.heap.size g (eat (rest++bs).length st (rest++bs)).1 (eat (rest++bs).length st (rest++bs)).2 (al+bs.length)∧Below base w w'
set_option maxHeartbeats 2000000 in
set_option maxRecDepth 100000 in
theorem write_c (st:List UInt64) (rest bs:List UInt8) (al g base:Nat) (A:Option Addr) (n c:Nat) (S:Nat→Prop) (w:World) (hst:st.length=8) (hh:HashAt w base g st rest al) (hbg:base≤g)
    (hs:Rep.u8.sl w S A n c bs) (hS: ∀ b,S b→b≠g) (hS2: ∀ b,S b→b<w.heap.size) (hln:al+n≤1000000000) (hrl:rest.length+n≤1000000000) :
    Calls Tryz.prog 119 #[.pointer (some ⟨g,0,none⟩),.slice A n c] w (WritePost w base g st rest bs al):=by
  obtain ⟨r,hb,ho⟩:=hh
  have hgl:g<w.heap.size:=(Array.getElem?_eq_some_iff.1 hb).1
  have c88:=hash_rest hst hb
  have c89:=hash_all hst hb
  have f88:=boxed_frozen hb 88
  have f89:=boxed_frozen hb 89
  have HN:=Lib.hid hs.1
  have HST:=Lib.hid hst
  clear hst
  go_enter Tryz.func119,Tryz.ntmps119
  go_wp2_with (at_builtin;refine halt ?_)
  have e1:(al:Int)+(n:Int)=((al+n:Nat):Int):=by omega
  rw [e1]
  have hb1:=hash_setAll HST.out hb (al+n)
  have ho1:=Rep.own_setFar (p:=⟨g,89,none⟩) (u:= .int .u64 ((al+n:Nat):Int)) ho (own_blk ho hb (by decide))
  have hs1:=Rep.sl_setFar (g:=g) (j:=89) (u:= .int .u64 ((al+n:Nat):Int)) hs hS
  have hB1:Below base w (w.setCell ⟨g,89,none⟩ (.int .u64 ((al+n:Nat):Int))):=(Below.refl _ _).setCell (by simp only;omega) _
  have hz1:(w.setCell ⟨g,89,none⟩ (.int .u64 ((al+n:Nat):Int))).heap.size=w.heap.size:=by simp
  generalize w.setCell ⟨g,89,none⟩ (.int .u64 ((al+n:Nat):Int))=w1 at *
  clear c88 c89 f88 f89 e1 hb ho hs
  refine go_on (wpList_appF rfl flat_u8 TU _ _ rfl (by rfl) ho1 (by rfl) hs1 (by omega) (by omega) (by omega) (fun _ h=>h.elim) ?_)
  intro v2 w2 ho2 hg2 _
  have hb2:=box_app hb1 ho1 (by decide) hg2
  have hB2:=below_app hB1 ho1 hg2 (by omega)
  have hz2:=hg2.size
  rw [hz1] at hz2
  have hlt2:=Rep.own_lt ho2
  have hne2:=own_blk ho2 hb2 (by decide)
  obtain ⟨A2,c2,hv2,hsl2⟩:=Rep.own_sl ho2
  have hsl2':=Rep.sl_more (S':=fun b=>base≤b∧b<w2.heap.size∧b≠g) hsl2 (fun b hb=>by
    rcases hb with hb|hb
    · exact hb.elim
    · exact ⟨(hlt2 _ hb).1,(hlt2 _ hb).2,fun e=>hne2 (by rw [hb,e])⟩)
  subst hv2
  have c88:=hash_rest HST.out hb2
  have f88:=boxed_frozen hb2 88
  have HE:Hid ((rest++bs).length=rest.length+n):=by show _=_;rw [List.length_append,HN.out]
  generalize hm0:rest++bs=m0 at *
  have HM0:=Lib.hid hm0
  clear hm0
  clear hsl2 hlt2 hne2 hg2 ho2 hb1 ho1 hs1 hB1 hz1
  have hb3:=hash_setRest HST.out hb2 (.slice A2 m0.length c2)
  have hsl3:=Rep.sl_setFar (g:=g) (j:=88) (u:= .slice A2 m0.length c2) hsl2' (fun b hb=>hb.2.2)
  have hB3:=Below.setCell (p:=⟨g,88,none⟩) hB2 (by simp only;omega) (.slice A2 m0.length c2)
  go_wp2
  go_loopg [] m0.length (fun k wr=> ∃ (st1:List UInt64) (buf:List UInt8) (A1:Option Addr) (n1 c1:Nat),st1.length=8∧wr.heap[g]?=some (.cells (hashCells st1 ks0 (.slice A1 n1 c1) (al+n)) 168 (0,0)) ∧
    Rep.u8.sl wr (fun b=>base≤b∧b<wr.heap.size∧b≠g) A1 n1 c1 buf∧Hid (eat m0.length st m0=eat k st1 buf)∧buf.length≤k∧Below base w wr∧w.heap.size≤wr.heap.size∧n1≤1000000000)
  case atStart=>exact ⟨st,m0,A2,_,c2,HST.out,hb3,by simpa using hsl3,rfl,Nat.le_refl _,hB3,by simpa using hz2,by rw [HE.out];omega⟩
  case round =>
    obtain ⟨st1,buf,A1,n1,c1,hl1,hb4,hsl4,HK,hbk,hB4,hz4,hn1⟩:=hrel
    have HL1:=Lib.hid hl1
    have HN1:=Lib.hid hsl4.1
    have d88:=hash_rest HL1.out hb4
    have g88:=boxed_frozen hb4 88
    have hnc1:=hsl4.2.1
    have hcm1:=hsl4.2.2.1
    have hgw:g<wr.heap.size:=(Array.getElem?_eq_some_iff.1 hb4).1
    clear hl1
    by_cases h128:128≤n1
    · obtain ⟨B1,o1,rfl,hB1S,_⟩:=hsl4.2.2.2 (by omega)
      by_cases hcc:c1=128
      · subst hcc
        obtain rfl:n1=128:=by omega
        obtain ⟨k',rfl⟩: ∃ k',gk=k'+1:=⟨gk-1,by have:=HN1.out;omega⟩
        have HK2:Hid (eat m0.length st m0=eat k' (compress ks0 st1 (buf.take 128)) (buf.drop 128)):=by
          show _=_
          rw [HK.out,eat,if_pos (by rw [HN1.out];exact h128)]
        have htk:=Rep.sl_take hsl4 h128
        have hcut:=Rep.sl_cut hsl4 h128
        rw [show Rep.u8.size=1 from rfl,Nat.mul_one] at hcut
        rw [if_pos rfl,Nat.sub_self] at hcut
        have hcl:(compress ks0 st1 (buf.take 128)).length=8:=compress_len HL1.out
        have hdl:(buf.drop 128).length≤k':=by rw [List.length_drop];omega
        have HC:=Lib.hid hcut
        have HCL:=Lib.hid hcl
        clear hcut hcl
        go_wp2_with fail
        refine Calls.mono (block_t st1 ks0 (.slice (some ⟨B1,o1,none⟩) 128 128) (al+n) g (buf.take 128) (some ⟨B1,o1,none⟩) 128 128 _ _ HL1.out ks0_len hb4 htk (Nat.le_refl _) (fun b hb=>hb.2.1)) ?_
        rintro e w5 ⟨rfl,hb5,hg5⟩
        have hz5:=hg5.size
        have hcut5:=Rep.sl_grown HC.out hg5 (fun b hb=>⟨hb.2.1,fun e=>hb.2.2 (by injection e)⟩)
        have hcut6:=Rep.sl_more (S':=fun b=>base≤b∧b<w5.heap.size∧b≠g) hcut5 (fun b hb=>⟨hb.1,by have:=hb.2.1;omega,hb.2.2⟩)
        have HC6:=Lib.hid hcut6
        have hB5:=hB4.grown hg5 (by omega) (fun k e=>by injection e;omega)
        generalize compress ks0 st1 (buf.take 128)=st2 at *
        have e88:=hash_rest HCL.out hb5
        have i88:=boxed_frozen hb5 88
        clear hcut5 hcut6 hsl4 htk hg5 HC d88 g88 hb4
        go_wp2
        go_roundg k'
        case measure=>omega
        case rel=>exact ⟨st2,buf.drop 128,_,_,_,HCL.out,hash_setRest HCL.out hb5 _,by simpa using Rep.sl_setFar (g:=g) (j:=88) HC6.out (fun b hb=>hb.2.2),HK2,hdl,hB5.setCell (by simp only;omega) _,by simp;omega,by omega⟩
      · obtain ⟨k',rfl⟩: ∃ k',gk=k'+1:=⟨gk-1,by have:=HN1.out;omega⟩
        have HK2:Hid (eat m0.length st m0=eat k' (compress ks0 st1 (buf.take 128)) (buf.drop 128)):=by
          show _=_
          rw [HK.out,eat,if_pos (by rw [HN1.out];exact h128)]
        have htk:=Rep.sl_take hsl4 h128
        have hcut:=Rep.sl_cut hsl4 h128
        rw [show Rep.u8.size=1 from rfl,Nat.mul_one] at hcut
        rw [if_neg hcc] at hcut;simp only [Option.map_some,Addr.add_lit] at hcut
        have hcl:(compress ks0 st1 (buf.take 128)).length=8:=compress_len HL1.out
        have hdl:(buf.drop 128).length≤k':=by rw [List.length_drop];omega
        have HC:=Lib.hid hcut
        have HCL:=Lib.hid hcl
        clear hcut hcl
        go_wp2_with fail
        refine Calls.mono (block_t st1 ks0 (.slice (some ⟨B1,o1,none⟩) n1 c1) (al+n) g (buf.take 128) (some ⟨B1,o1,none⟩) 128 c1 _ _ HL1.out ks0_len hb4 htk (Nat.le_refl _) (fun b hb=>hb.2.1)) ?_
        rintro e w5 ⟨rfl,hb5,hg5⟩
        have hz5:=hg5.size
        have hcut5:=Rep.sl_grown HC.out hg5 (fun b hb=>⟨hb.2.1,fun e=>hb.2.2 (by injection e)⟩)
        have hcut6:=Rep.sl_more (S':=fun b=>base≤b∧b<w5.heap.size∧b≠g) hcut5 (fun b hb=>⟨hb.1,by have:=hb.2.1;omega,hb.2.2⟩)
        have HC6:=Lib.hid hcut6
        have hB5:=hB4.grown hg5 (by omega) (fun k e=>by injection e;omega)
        generalize compress ks0 st1 (buf.take 128)=st2 at *
        have e88:=hash_rest HCL.out hb5
        have i88:=boxed_frozen hb5 88
        clear hcut5 hcut6 hsl4 htk hg5 HC d88 g88 hb4
        go_wp2
        go_roundg k'
        case measure=>omega
        case rel=>exact ⟨st2,buf.drop 128,_,_,_,HCL.out,hash_setRest HCL.out hb5 _,by simpa using Rep.sl_setFar (g:=g) (j:=88) HC6.out (fun b hb=>hb.2.2),HK2,hdl,hB5.setCell (by simp only;omega) _,by simp;omega,by omega⟩
    · have HEND:Hid (eat m0.length st m0=(st1,buf)):=by
        show _=_
        rw [HK.out]
        cases gk with
        | zero=>rfl
        | succ k=>rw [eat,if_neg (by rw [HN1.out];exact h128)]
      go_wp2_with fail
      refine Calls.mono (clone_c buf A1 n1 c1 _ _ hsl4 hn1 (fun b hb=>hb.2.1)) ?_
      rintro e w5 ⟨v5,rfl,ho5,hB5⟩
      obtain ⟨A5,c5,hv5,_⟩:=Rep.own_sl ho5
      subst hv5
      have hb5:=box_below hb4 hB5 hgw
      have e88:=hash_rest HL1.out hb5
      have i88:=boxed_frozen hb5 88
      have hz5:=hB5.size
      have hB6:=hB4.trans (hB5.mono (by omega))
      have hb6:=hash_setRest HL1.out hb5 (.slice A5 buf.length c5)
      have ho6:=Rep.own_setFar (p:=⟨g,88,none⟩) (u:= .slice A5 buf.length c5) ho5 (own_blk ho5 hb5 (by decide))
      have hB7:=Below.setCell (p:=⟨g,88,none⟩) hB6 (by simp only;omega) (.slice A5 buf.length c5)
      clear hsl4 d88 g88 hb4
      go_wp2
      go_end0
      refine ⟨rfl,?_,hB7⟩
      rw [HM0.out,HEND.out,HN.out]
      exact ⟨_,hb6,Rep.own_base ho6 (fun k hk=>by have:=(Rep.own_lt ho5 k hk).1;omega)⟩
end Go.Proofs.YtdakeodebgggfaaGreatDoor
namespace Go.Proofs.YtdakeodebgggfaaGreatDoor
open Go.RowKit Go.Lib
def bcells (xs:List UInt8):Array Value:=(xs.map fun x=>Value.int .u8 (x.toNat:Int)).toArray
theorem bcells_size (xs:List UInt8):(bcells xs).size=xs.length:=by simp [bcells]
theorem bcells_one (xs:List UInt8):(bcells xs).all (·.oneCell')=true:=by
  simp only [bcells,Array.all_toList.symm,List.all_eq_true,List.mem_map]
  rintro v ⟨n,_,rfl⟩
  rfl
theorem bcell_at {w:World} {g:Nat} {xs:List UInt8} {t:TypeId} (h:w.heap[g]?=some (.cells (bcells xs) t (0,0))) {i:Nat} (hi:i<xs.length):w.cell? ⟨g,i,none⟩=some (.int .u8 ((xs.getD i 0).toNat:Int)):=by
  refine boxed h i _ ?_
  simp [bcells,hi]
theorem bcell_set {w:World} {g:Nat} {xs:List UInt8} {t:TypeId} (h:w.heap[g]?=some (.cells (bcells xs) t (0,0))) (i:Nat) (n:UInt8):(w.setCell ⟨g,i,none⟩ (.int .u8 (n.toNat:Int))).heap[g]?=some (.cells (bcells (xs.set i n)) t (0,0)):=by
  rw [box_set h]
  congr 2
  apply Array.ext'
  simp [bcells,List.map_set]
def lenB (al:Nat):List UInt8:=List.replicate 8 0++(List.range 8).map fun j=>UInt8.ofNat (8*al/2^(8*(7-j)))
def zfill (n:Nat):Nat:=(240-n%128)%128
def fillB (rest:List UInt8) (al:Nat):List UInt8:=rest++[128]++List.replicate (zfill (rest.length+1)) 0++lenB al
def byteW (x:UInt64):UInt8:=UInt8.ofNat x.toNat
def digest (st:List UInt64):List UInt8:=(List.range 64).map fun i=>byteW (sr (st.getD (i/8) 0) (56-8*(i%8)))
def sumL (st:List UInt64) (rest:List UInt8) (al:Nat):List UInt8:=digest (eat (fillB rest al).length st (fillB rest al)).1
def SumPost (st:List UInt64) (rest:List UInt8) (al:Nat) (w:World) (e:Ending) (w':World):Prop:=e= .returned (.agg (bcells (sumL st rest al)))∧Below w.heap.size w w'
theorem hash_one (st ks:List UInt64) (A:Option Addr) (n c a:Nat):(hashCells st ks (.slice A n c) a).all (·.oneCell')=true:=by
  refine Array.all_eq_true_iff_forall_mem.2 fun v hv=>?_
  have hv':v∈(st++ks).map (fun x=>Value.int .u64 (x.toNat:Int))++[Value.slice A n c,Value.int .u64 (a:Int)]:=by simpa [hashCells] using hv
  rcases List.mem_append.1 hv' with h|h
  · obtain ⟨x,_,rfl⟩:=List.mem_map.1 h
    rfl
  · simp at h
    rcases h with rfl|rfl <;> rfl
theorem lenB_get {al i:Nat} (h:i<16):(lenB al).getD i 0=if i<8 then 0 else UInt8.ofNat (8*al/2^(8*(15-i))):=by
  obtain h|h|h|h|h|h|h|h|h|h|h|h|h|h|h|h:i=0∨i=1∨i=2∨i=3∨i=4∨i=5∨i=6∨i=7∨i=8∨i=9∨i=10∨i=11∨i=12∨i=13∨i=14∨i=15:=by omega
  all_goals
    subst h
    rfl
theorem byte_at {al i:Nat} (hal:al≤1000000000) (hi:i≤15):IntKind.u8.wrap (IntKind.u64.wrap ((al:Int)*8)/2^(8*(15-(i:Int))).toNat)=((UInt8.ofNat (8*al/2^(8*(15-i)))).toNat:Int):=by
  rw [show IntKind.u64.wrap ((al:Int)*8)=(al:Int)*8 from IntWalk.u64_in _ (by omega),show (8*(15-(i:Int))).toNat=8*(15-i) by omega]
  rw [show (al:Int)*8=((8*al:Nat):Int) by omega,show ((8*al:Nat):Int)/2^(8*(15-i))=((8*al/2^(8*(15-i)):Nat):Int) by simp]
  rw [IntKind.wrap_u8,UInt8.toNat_ofNat']
  omega
def padB (n:Nat) (ps:List UInt8):List UInt8:=ps++List.replicate (n-ps.length) 0
theorem padB_len {n:Nat} {ps:List UInt8} (h:ps.length≤n):(padB n ps).length=n:=by
  unfold padB
  rw [List.length_append,List.length_replicate]
  omega
theorem padB_set {n:Nat} {p:UInt8} {ps:List UInt8} (h:ps.length<n):(padB n ps).set ps.length p=padB n (ps++[p]):=by
  unfold padB
  rw [List.set_append_right _ _ (Nat.le_refl _),Nat.sub_self,List.length_append,List.length_singleton,List.append_assoc]
  congr 1
  obtain ⟨k,hk⟩: ∃ k,n-ps.length=k+1:=⟨n-ps.length-1,by omega⟩
  rw [hk,List.replicate_succ,List.set_cons_zero,show n-(ps.length+1)=k by omega]
  rfl
theorem digest_get {st:List UInt64} {i:Nat} (h:i<64):(digest st)[i]?=some (byteW (sr (st.getD (i/8) 0) (56-8*(i%8)))):=by
  unfold digest
  rw [List.getElem?_map,List.getElem?_range h]
  rfl
theorem wrap_byteW (x:UInt64):IntKind.u8.wrap (x.toNat:Int)=((byteW x).toNat:Int):=u64_byte x
theorem zfill_test {n j:Nat} (h:j≤zfill n):(n+j)%128=112↔j=zfill n:=by
  unfold zfill at *
  omega
theorem zfill_lt (n:Nat):zfill n<128:=by unfold zfill;omega
attribute [local go_sem] wrap_byteW
set_option maxHeartbeats 4000000 in
set_option maxRecDepth 100000 in
theorem sum_c (st:List UInt64) (rest:List UInt8) (al lo g:Nat) (w:World) (hst:st.length=8) (hh:HashAt w lo g st rest al) (hal:al≤1000000000) (hrl:rest.length≤1000000000) :
    Calls Tryz.prog 120 #[.pointer (some ⟨g,0,none⟩)] w (SumPost st rest al w):=by
  obtain ⟨r,hb,ho⟩:=hh
  have hgl:g<w.heap.size:=(Array.getElem?_eq_some_iff.1 hb).1
  obtain ⟨Ar,cr,hr,hslr⟩:=Rep.own_sl ho
  subst hr
  have hltr:=Rep.own_lt ho
  have HST:=Lib.hid hst
  clear hst
  have z76:=(zero_of_info (P:=Tryz.prog) (t:=168) (v:= .agg zeroHash) (n:=90) (by kernel_rfl)).1
  go_enter Tryz.func120,Tryz.ntmps120
  go_wp2_with (refine halt_load (ty:=168) rfl ?_)
  refine go_onO (wpList_load_row rfl _ _ rfl g rfl _ (hashCells st ks0 (.slice Ar rest.length cr) al) (0,0) _ (box_alloc hb _) Tryz.underlying168 rfl (by rw [show (hashCells st ks0 (.slice Ar rest.length cr) al).size=90 by simp [hashCells,HST.out,ks0_len]];kernel_rfl) ?_)
  go_wp2_with (refine halt_store (ty:=168) rfl ?_)
  refine go_onO (wpList_storeR rfl _ _ _ rfl _ (hashCells st ks0 (.slice Ar rest.length cr) al) rfl rfl (box_at2 (by simp)) (by rw [show (hashCells st ks0 (.slice Ar rest.length cr) al).size=90 by simp [hashCells,HST.out,ks0_len]];kernel_rfl) (by rw [show (hashCells st ks0 (.slice Ar rest.length cr) al).size=90 by simp [hashCells,HST.out,ks0_len]];rfl) (hash_one _ _ _ _ _ _) ?_)
  intro w1 hx1 hg1 hs1
  have hq1:=box_grown (box_alloc (box_new w _ 53) _) hg1 (by intro e;injection e;omega)
  have hB1:=(((Below.refl w.heap.size w).alloc (Nat.le_refl _) _).alloc (by simp) _).grown hg1 (by simp;omega) (fun k e=>by injection e;omega)
  simp only [World.size_alloc] at hs1
  have hz1:w.heap.size+2≤w1.heap.size:=by omega
  have hb1:=box_below hb hB1 hgl
  have hsl1:=Rep.sl_below hslr hB1 (fun b hb=>by
    rcases hb with hb|hb
    · exact hb.elim
    · exact (hltr _ hb).2)
  have c88:=hash_rest HST.out hb1
  have HSB:Hid (∀ b,(False∨(Value.slice Ar rest.length cr).ownBlock=some b)→b<w1.heap.size):=fun b hb=>by
    rcases hb with hb|hb
    · exact hb.elim
    · have:=(hltr _ hb).2;omega
  clear hs1 hg1 z76 hb ho hslr hltr
  go_wp2_with fail
  refine Calls.mono (clone_c rest Ar rest.length cr _ _ hsl1 hrl HSB.out) ?_
  rintro e w2 ⟨v2,rfl,ho2,hB2⟩
  have hz2:=hB2.size
  have hx2:=box_below hx1 hB2 (by omega)
  have hq2:=box_below hq1 hB2 (by omega)
  have hb2:=box_below hb1 hB2 (by omega)
  have hB2':=hB1.trans (hB2.mono (by omega))
  clear hx1 hq1 hb1 hB1 hB2 hsl1 c88 HSB
  go_wp2_with (at_builtin;refine halt ?_)
  refine go_on (wpList_app1 rfl TU _ _ rfl (by rfl) (Rep.own_later ho2 (by first|(with_reducible rfl)|omega|(simp;done)|(simp;omega)|(intro b hb;(try dsimp only at hb);simp;omega)|(intro b hb;(try dsimp only at hb);simp [Value.ownBlock];omega)|(intro b hb;exact hb.elim)|(go_grown;done))) [_] (128:UInt8) rfl (cell_one_new _ _ _) rfl (by first|(with_reducible rfl)|omega|(simp;done)|(simp;omega)|(intro b hb;(try dsimp only at hb);simp;omega)|(intro b hb;(try dsimp only at hb);simp [Value.ownBlock];omega)|(intro b hb;exact hb.elim)|(go_grown;done)) (by first|(with_reducible rfl)|omega|(simp;done)|(simp;omega)|(intro b hb;(try dsimp only at hb);simp;omega)|(intro b hb;(try dsimp only at hb);simp [Value.ownBlock];omega)|(intro b hb;exact hb.elim)|(go_grown;done)) (by first|(with_reducible rfl)|omega|(simp;done)|(simp;omega)|(intro b hb;(try dsimp only at hb);simp;omega)|(intro b hb;(try dsimp only at hb);simp [Value.ownBlock];omega)|(intro b hb;exact hb.elim)|(go_grown;done)) (by first|(with_reducible rfl)|omega|(simp;done)|(simp;omega)|(intro b hb;(try dsimp only at hb);simp;omega)|(intro b hb;(try dsimp only at hb);simp [Value.ownBlock];omega)|(intro b hb;exact hb.elim)|(go_grown;done)) ?_)
  intro v3 w3 ho3 hg3 _
  have ho2':=Rep.own_later (w':=w2.alloc (.cells #[.int .u8 128] 5)) ho2 ((Below.refl _ _).alloc (Nat.le_refl _) _)
  have hx3:=box_app (box_alloc hx2 _) ho2' (by decide) hg3
  have hq3:=box_app (box_alloc hq2 _) ho2' (by decide) hg3
  have hb3:=box_app (box_alloc hb2 _) ho2' (by decide) hg3
  have hB3:=(hB2'.alloc (by omega) _).grown hg3 (by simp;omega) (fun k e=>by have:=(Rep.own_lt ho2' k e).1;omega)
  have hz3:=hg3.size
  simp only [World.size_alloc] at hz3
  have hne3:=own_blk ho3 hx3 (by decide)
  obtain ⟨A3,c3,hv3,_⟩:=Rep.own_sl ho3
  subst hv3
  have HL:Hid ((rest++[(128:UInt8)]).length=rest.length+1):=by show _=_;simp
  have HFB:Hid (fillB rest al=rest++[128]++List.replicate (zfill (rest.length+1)) 0++lenB al):=rfl
  generalize hbuf:rest++[(128:UInt8)]=buf at *
  have HBUF:=Lib.hid hbuf
  clear hbuf hx2 hq2 hb2 hB2' ho2 ho2' hg3
  have x88:=hash_rest HST.out hx3
  have i88:=boxed_frozen hx3 88
  have hZ:=zfill_lt (rest.length+1)
  go_wp2
  go_loopg [] (zfill (rest.length+1)) (fun k wr=> ∃ (j:Nat),j+k=zfill (rest.length+1)∧HashAt wr w.heap.size (w.heap.size+1) st (buf++List.replicate j 0) al∧wr.heap[w.heap.size]?=some (.cells (bcells (List.replicate 64 0)) 53 (0,0)) ∧
    wr.heap[g]?=some (.cells (hashCells st ks0 (.slice Ar rest.length cr) al) 168 (0,0))∧Below w.heap.size w wr∧w.heap.size+2≤wr.heap.size)
  case atStart=>exact ⟨0,by omega,by simpa using ⟨_,hash_setRest HST.out hx3 _,Rep.own_setFar (Rep.own_base ho3 (fun k hk=>by have:=(Rep.own_lt ho3 k hk).1;omega)) (own_blk ho3 hx3 (by decide))⟩,box_far hq3 (by simp only;omega) _,box_far hb3 (by simp only;omega) _,hB3.setCell (by simp only;omega) _,by simp;omega⟩
  case round =>
    obtain ⟨j,hjk,⟨rr,hX,hO⟩,hQ,hA,hB,hz⟩:=hrel
    obtain ⟨Ax,cx,hrr,_⟩:=Rep.own_sl hO
    subst hrr
    have HLJ:Hid ((buf++List.replicate j (0:UInt8)).length=rest.length+1+j):=by show _=_;rw [List.length_append,HL.out,List.length_replicate]
    have hlb:=Nat.le_of_eq HLJ.out
    have y88:=hash_rest HST.out hX
    by_cases hj:j<zfill (rest.length+1)
    · obtain ⟨k',rfl⟩: ∃ k',gk=k'+1:=⟨gk-1,by omega⟩
      have ht:(((buf++List.replicate j (0:UInt8)).length:Int)%128!=112)=true:=by
        have:=mt (zfill_test (Nat.le_of_lt hj)).1 (by omega)
        rw [bne_iff_ne,HLJ.out]
        omega
      have HS:Hid (buf++List.replicate (j+1) (0:UInt8)=(buf++List.replicate j 0)++[0]):=by show _=_;rw [List.append_assoc,List.replicate_succ']
      generalize buf++List.replicate j (0:UInt8)=L at *
      go_wp2_with (at_builtin;refine halt ?_)
      refine go_on (wpList_app1 rfl TU _ _ rfl (by rfl) (Rep.own_later hO ((Below.refl _ _).alloc (Nat.le_refl _) _)) [_] (0:UInt8) rfl (cell_one_new _ _ _) rfl (by omega) (by omega) (by simp;omega) (fun _ h=>h.elim) ?_)
      intro v3 w3 ho3 hg3 _
      generalize hL3:L++[(0:UInt8)]=L3 at ho3
      have HL3:=Lib.hid hL3
      clear hL3
      have hO':=Rep.own_later hO ((Below.refl wr.heap.size wr).alloc (Nat.le_refl _) (.cells #[.int .u8 0] 5))
      have hx3:=box_app (box_alloc hX _) hO' (by decide) hg3
      have hq3:=box_app (box_alloc hQ _) hO' (by decide) hg3
      have hb3:=box_app (box_alloc hA _) hO' (by decide) hg3
      have hB3:=(hB.alloc (by omega) _).grown hg3 (by simp;omega) (fun k e=>by have:=(Rep.own_lt hO' k e).1;omega)
      have hz3:w.heap.size+2≤w3.heap.size:=by have:=hg3.size;simp at this;omega
      obtain ⟨A3,c3,hv3,_⟩:=Rep.own_sl ho3
      subst hv3
      have x88:=hash_rest HST.out hx3
      have i88:=boxed_frozen hx3 88
      have hne3:=own_blk ho3 hx3 (by decide)
      clear hO' hg3 hX hO hQ hA hB
      go_wp2
      go_roundg k'
      case measure=>omega
      case rel=>exact ⟨j+1,by omega,by rw [HS.out,HL3.out];exact ⟨_,hash_setRest HST.out hx3 _,Rep.own_setFar ho3 (own_blk ho3 hx3 (by decide))⟩,box_far hq3 (by simp only;omega) _,box_far hb3 (by simp only;omega) _,hB3.setCell (by simp only;omega) _,by simp;omega⟩
    · have hje:j=zfill (rest.length+1):=by omega
      have ht:(((buf++List.replicate j (0:UInt8)).length:Int)%128!=112)=false:=by
        have:=(zfill_test (Nat.le_of_eq hje)).2 hje
        rw [bne_eq_false_iff_eq,HLJ.out]
        omega
      have HM:Hid (buf++List.replicate j 0=rest++[128]++List.replicate (zfill (rest.length+1)) 0):=by show _=_;rw [hje,HBUF.out]
      clear hje
      generalize buf++List.replicate j (0:UInt8)=L at *
      go_wp2
      clear ht hlb y88
      go_loopw [32] (fun ix wr=> ∃ (i:Nat),i≤16∧ix= .int .i64 (i:Nat)∧HashAt wr w.heap.size (w.heap.size+1) st (L++(lenB al).take i) al∧wr.heap[w.heap.size]?=some (.cells (bcells (List.replicate 64 0)) 53 (0,0)) ∧
        wr.heap[g]?=some (.cells (hashCells st ks0 (.slice Ar rest.length cr) al) 168 (0,0))∧Below w.heap.size w wr∧w.heap.size+2≤wr.heap.size) (fun ix _=>16-(RowKit.intOf ix).toNat)
      case atStart=>exact ⟨0,by omega,rfl,⟨_,hX,by simpa using hO⟩,hQ,hA,hB,hz⟩
      case round =>
        obtain ⟨i,hi,rfl,⟨rr,hX,hO⟩,hQ,hA,hB,hz⟩:=hrel
        obtain ⟨Ax,cx,hrr,_⟩:=Rep.own_sl hO
        subst hrr
        by_cases h16:i<16
        · have HLI:Hid ((L++(lenB al).take i).length≤rest.length+200):=by
            show _≤_
            have h1:(lenB al).length=16:=rfl
            rw [List.length_append,List.length_take,h1,HM.out]
            simp only [List.length_append,List.length_replicate,List.length_singleton]
            omega
          have hlb:=HLI.out
          have HS:Hid (L++(lenB al).take (i+1)=(L++(lenB al).take i)++[(lenB al).getD i 0]):=by
            show _=_
            have h1:i<(lenB al).length:=h16
            rw [List.take_add_one,show (lenB al)[i]?=some ((lenB al).getD i 0) by simp [List.getD,h1],List.append_assoc]
            rfl
          have HG:Hid ((lenB al).getD i 0=if i<8 then 0 else UInt8.ofNat (8*al/2^(8*(15-i)))):=lenB_get h16
          have y88:=hash_rest HST.out hX
          have y89:=hash_all HST.out hA
          generalize hLL:L++(lenB al).take i=L' at *
          have HLL:=Lib.hid hLL
          clear hLL
          by_cases h7:i<7
          · have h0:(lenB al).getD i 0=0:=by rw [HG.out,if_pos (by omega)]
            have H0:=Lib.hid h0
            clear h0
            go_wp2_with (at_builtin;refine halt ?_)
            refine go_on (wpList_app1 rfl TU _ _ rfl (by rfl) (Rep.own_later hO ((Below.refl _ _).alloc (Nat.le_refl _) _)) [_] (0:UInt8) rfl (cell_one_new _ _ _) rfl (by omega) (by omega) (by simp;omega) (fun _ h=>h.elim) ?_)
            intro v3 w3 ho3 hg3 _
            generalize hL3:L'++[(0:UInt8)]=L3 at ho3
            have HL3:=Lib.hid hL3
            clear hL3
            have hO':=Rep.own_later hO ((Below.refl wr.heap.size wr).alloc (Nat.le_refl _) (.cells #[.int .u8 0] 5))
            have hx3:=box_app (box_alloc hX _) hO' (by decide) hg3
            have hq3:=box_app (box_alloc hQ _) hO' (by decide) hg3
            have hb3:=box_app (box_alloc hA _) hO' (by decide) hg3
            have hB3:=(hB.alloc (by omega) _).grown hg3 (by simp;omega) (fun k e=>by have:=(Rep.own_lt hO' k e).1;omega)
            have hz3:w.heap.size+2≤w3.heap.size:=by have:=hg3.size;simp at this;omega
            obtain ⟨A3,c3,hv3,_⟩:=Rep.own_sl ho3
            subst hv3
            have x88:=hash_rest HST.out hx3
            have i88:=boxed_frozen hx3 88
            have hne3:=own_blk ho3 hx3 (by decide)
            clear hO' hg3 hX hO hQ hA hB
            go_wp2
            go_roundw
            case rel=>exact ⟨i+1,by omega,by go_num,by rw [HS.out,H0.out,HL3.out];exact ⟨_,hash_setRest HST.out hx3 _,Rep.own_setFar ho3 (own_blk ho3 hx3 (by decide))⟩,box_far hq3 (by simp only;omega) _,box_far hb3 (by simp only;omega) _,hB3.setCell (by simp only;omega) _,by simp;omega⟩
            case measure=>simp [RowKit.intOf] <;> omega
          · by_cases h8:i=7
            · subst h8
              have h0:(lenB al).getD 7 0=0:=by rw [HG.out,if_pos (by omega)]
              have H0:=Lib.hid h0
              clear h0
              have hsh:(al:Int)/2305843009213693952=0:=by omega
              have hw0:IntKind.u8.wrap 0=0:=by decide
              have y88o:=fun (o:Obj)=>hash_rest HST.out (box_alloc hX o)
              have y89o:=fun (o:Obj)=>hash_all HST.out (box_alloc hA o)
              go_wp2
              have hX:=(show wr.drew.heap[w.heap.size+1]?=_ from hX)
              have hQ:=(show wr.drew.heap[w.heap.size]?=_ from hQ)
              have hA:=(show wr.drew.heap[g]?=_ from hA)
              have hO:=Rep.own_drew hO
              have hB:=hB.drew
              have hz:w.heap.size+2≤wr.drew.heap.size:=hz
              go_region_law (first|(refine step_app1 (by rfl) TU _ _ (by rfl) (by rfl) (Rep.own_later hO ((Below.refl _ _).alloc (Nat.le_refl _) _)) [_] (0:UInt8) (by rfl) (cell_one_new _ _ _) rfl (by omega) (by omega) (by simp;omega) (fun _ (h:False)=>h.elim) ?_;intro v3 w3 ho3 hg3;generalize hL3:L'++[(0:UInt8)]=L3 at ho3;have HL3:=Lib.hid hL3;clear hL3;have hO':=Rep.own_later hO ((Below.refl wr.drew.heap.size wr.drew).alloc (Nat.le_refl _) (.cells #[.int .u8 0] 5));have hx3:=box_app (box_alloc hX _) hO' (by decide) hg3;have hq3:=box_app (box_alloc hQ _) hO' (by decide) hg3;have hb3:=box_app (box_alloc hA _) hO' (by decide) hg3;have hB3:=(hB.alloc (by omega) _).grown hg3 (by simp;omega) (fun k e=>by have:=(Rep.own_lt hO' k e).1;omega);have hz3:w.heap.size+2≤w3.heap.size:=(by have:=hg3.size;simp at this;omega);obtain ⟨A3,c3,hv3,_⟩:=Rep.own_sl ho3;subst hv3;have x88:=hash_rest HST.out hx3;have i88:=boxed_frozen hx3 88;have hne3:=own_blk ho3 hx3 (by decide);clear hO' hg3 hX hO hQ hA hB))
              all_goals
                go_wp2
                go_roundw
                case rel=>exact ⟨7+1,by omega,by go_num,by rw [HS.out,H0.out,HL3.out];exact ⟨_,hash_setRest HST.out hx3 _,Rep.own_setFar ho3 (own_blk ho3 hx3 (by decide))⟩,box_far hq3 (by simp only;omega) _,box_far hb3 (by simp only;omega) _,hB3.setCell (by simp only;omega) _,by simp;omega⟩
                case measure=>simp [RowKit.intOf] <;> omega
            · have h0:(lenB al).getD i 0=UInt8.ofNat (8*al/2^(8*(15-i))):=by rw [HG.out,if_neg (by omega)]
              have H0:=Lib.hid h0
              clear h0
              have hsh1:(0:Int)≤8*(15-(i:Int)):=by omega
              have hsh2:8*(15-(i:Int))≤64:=by omega
              have y88o:=fun (o:Obj)=>hash_rest HST.out (box_alloc hX o)
              have y89o:=fun (o:Obj)=>hash_all HST.out (box_alloc hA o)
              have hT:=byte_at (i:=i) hal (by omega)
              generalize UInt8.ofNat (8*al/2^(8*(15-i)))=y at *
              go_wp2
              have hX:=(show wr.drew.heap[w.heap.size+1]?=_ from hX)
              have hQ:=(show wr.drew.heap[w.heap.size]?=_ from hQ)
              have hA:=(show wr.drew.heap[g]?=_ from hA)
              have hO:=Rep.own_drew hO
              have hB:=hB.drew
              have hz:w.heap.size+2≤wr.drew.heap.size:=hz
              go_region_law (first|(refine step_app1 (by rfl) TU _ _ (by rfl) (by rfl) (Rep.own_later hO ((Below.refl _ _).alloc (Nat.le_refl _) _)) [_] (y:UInt8) (by rfl) (cell_one_new _ _ _) rfl (by omega) (by omega) (by simp;omega) (fun _ (h:False)=>h.elim) ?_;intro v3 w3 ho3 hg3;generalize hL3:L'++[(y:UInt8)]=L3 at ho3;have HL3:=Lib.hid hL3;clear hL3;have hO':=Rep.own_later hO ((Below.refl wr.drew.heap.size wr.drew).alloc (Nat.le_refl _) (.cells #[.int .u8 (y.toNat:Int)] 5));have hx3:=box_app (box_alloc hX _) hO' (by decide) hg3;have hq3:=box_app (box_alloc hQ _) hO' (by decide) hg3;have hb3:=box_app (box_alloc hA _) hO' (by decide) hg3;have hB3:=(hB.alloc (by omega) _).grown hg3 (by simp;omega) (fun k e=>by have:=(Rep.own_lt hO' k e).1;omega);have hz3:w.heap.size+2≤w3.heap.size:=(by have:=hg3.size;simp at this;omega);obtain ⟨A3,c3,hv3,_⟩:=Rep.own_sl ho3;subst hv3;have x88:=hash_rest HST.out hx3;have i88:=boxed_frozen hx3 88;have hne3:=own_blk ho3 hx3 (by decide);clear hO' hg3 hX hO hQ hA hB))
              all_goals
                go_wp2
                go_roundw
                case rel=>exact ⟨i+1,by omega,by go_num,by rw [HS.out,H0.out,HL3.out];exact ⟨_,hash_setRest HST.out hx3 _,Rep.own_setFar ho3 (own_blk ho3 hx3 (by decide))⟩,box_far hq3 (by simp only;omega) _,box_far hb3 (by simp only;omega) _,hB3.setCell (by simp only;omega) _,by simp;omega⟩
                case measure=>simp [RowKit.intOf] <;> omega
        · have hie:i=16:=by omega
          have hall:L++(lenB al).take i=fillB rest al:=by
            rw [hie,HFB.out,HM.out,← HBUF.out,List.take_of_length_le (Nat.le_refl 16)]
          have HLF:Hid ((L++(lenB al).take i).length≤1000000200):=by
            show _≤_
            have h1:(lenB al).length=16:=rfl
            rw [List.length_append,List.length_take,h1,HM.out]
            simp only [List.length_append,List.length_replicate,List.length_singleton]
            omega
          rw [hall] at hX hO HLF
          clear hall
          have hmod:(fillB rest al).length%128=0:=by
            unfold fillB
            have h1:(lenB al).length=16:=rfl
            have:=(zfill_test (n:=rest.length+1) (Nat.le_refl _)).2 rfl
            simp only [List.length_append,List.length_replicate,List.length_singleton,h1]
            omega
          have HMOD:=Lib.hid hmod
          clear hmod hie
          obtain ⟨_,_,hv9,hsl9⟩:=Rep.own_sl hO
          simp only [Value.slice.injEq] at hv9
          obtain ⟨rfl,_,rfl⟩:=hv9
          have hlt9:=Rep.own_lt hO
          have hne9:=own_blk hO hX (by decide)
          have hsl9':=Rep.sl_more (S':=fun b=>w.heap.size≤b∧b<wr.heap.size∧b≠w.heap.size+1∧b≠w.heap.size) hsl9 (fun b hb=>by
            rcases hb with hb|hb
            · exact hb.elim
            · exact ⟨(hlt9 _ hb).1,(hlt9 _ hb).2,fun e=>hne9 (by rw [hb,e]),fun e=>own_blk hO hQ (by decide) (by rw [hb,e])⟩)
          have HSUM:Hid (sumL st rest al=digest (eat (fillB rest al).length st (fillB rest al)).1):=rfl
          have hFL:=HLF.out
          generalize fillB rest al=fb at *
          clear hsl9 hlt9 hne9 hO
          go_wp2
          go_loopg [] fb.length (fun k wr=> ∃ (st1:List UInt64) (buf:List UInt8) (A1:Option Addr) (n1 c1:Nat),st1.length=8∧wr.heap[w.heap.size+1]?=some (.cells (hashCells st1 ks0 (.slice A1 n1 c1) al) 168 (0,0)) ∧
            Rep.u8.sl wr (fun b=>w.heap.size≤b∧b<wr.heap.size∧b≠w.heap.size+1∧b≠w.heap.size) A1 n1 c1 buf∧Hid (eat fb.length st fb=eat k st1 buf)∧buf.length≤k∧Hid (n1%128=0)∧wr.heap[w.heap.size]?=some (.cells (bcells (List.replicate 64 0)) 53 (0,0)) ∧
            Below w.heap.size w wr∧w.heap.size+2≤wr.heap.size∧n1≤1000000200)
          case atStart=>exact ⟨st,fb,_,_,_,HST.out,hX,hsl9',rfl,Nat.le_refl _,HMOD,hQ,hB,hz,hFL⟩
          case round =>
            obtain ⟨st1,buf,A1,n1,c1,hl1,hX4,hsl4,HK,hbk,hmod,hQ4,hB4,hz4,hn1⟩:=hrel
            have HL1:=Lib.hid hl1
            have HN1:=Lib.hid hsl4.1
            have d88:=hash_rest HL1.out hX4
            have g88:=boxed_frozen hX4 88
            have hnc1:=hsl4.2.1
            have hcm1:=hsl4.2.2.1
            clear hl1
            have HMD:=hmod
            by_cases h0:0<n1
            · have h128:128≤n1:=by have:=HMD.out;omega
              obtain ⟨B1,o1,rfl,hB1S,_⟩:=hsl4.2.2.2 (by omega)
              by_cases hcc:c1=128
              · subst hcc
                obtain rfl:n1=128:=by omega
                obtain ⟨k',rfl⟩: ∃ k',gk=k'+1:=⟨gk-1,by have:=HN1.out;omega⟩
                have HK2:Hid (eat fb.length st fb=eat k' (compress ks0 st1 (buf.take 128)) (buf.drop 128)):=by
                  show _=_
                  rw [HK.out,eat,if_pos (by rw [HN1.out];exact h128)]
                have htk:=Rep.sl_take hsl4 h128
                have hcut:=Rep.sl_cut hsl4 h128
                rw [show Rep.u8.size=1 from rfl,Nat.mul_one] at hcut
                rw [if_pos rfl,Nat.sub_self] at hcut
                have hcl:(compress ks0 st1 (buf.take 128)).length=8:=compress_len HL1.out
                have hdl:(buf.drop 128).length≤k':=by rw [List.length_drop];omega
                have HC:=Lib.hid hcut
                have HCL:=Lib.hid hcl
                clear hcut hcl
                go_wp2_with fail
                refine Calls.mono (block_t st1 ks0 (.slice (some ⟨B1,o1,none⟩) 128 128) al (w.heap.size+1) (buf.take 128) (some ⟨B1,o1,none⟩) 128 128 _ _ HL1.out ks0_len hX4 htk (Nat.le_refl _) (fun b hb=>hb.2.1)) ?_
                rintro e w5 ⟨rfl,hX5,hg5⟩
                have hz5:=hg5.size
                have hcut5:=Rep.sl_grown HC.out hg5 (fun b hb=>⟨hb.2.1,fun e=>hb.2.2.1 (by injection e)⟩)
                have hcut6:=Rep.sl_more (S':=fun b=>w.heap.size≤b∧b<w5.heap.size∧b≠w.heap.size+1∧b≠w.heap.size) hcut5 (fun b hb=>⟨hb.1,by have:=hb.2.1;omega,hb.2.2⟩)
                have HC6:=Lib.hid hcut6
                have hQ5:=box_grown hQ4 hg5 (by intro e;injection e;omega)
                have hB5:=hB4.grown hg5 (by omega) (fun k e=>by injection e;omega)
                generalize compress ks0 st1 (buf.take 128)=st2 at *
                have e88:=hash_rest HCL.out hX5
                have i88:=boxed_frozen hX5 88
                clear hcut5 hcut6 hsl4 htk hg5 HC d88 g88 hX4
                go_wp2
                go_roundg k'
                case measure=>omega
                case rel=>exact ⟨st2,buf.drop 128,_,_,_,HCL.out,hash_setRest HCL.out hX5 _,by simpa using Rep.sl_setFar (g:=w.heap.size+1) (j:=88) HC6.out (fun b hb=>hb.2.2.1),HK2,hdl,(by show _=_;have:=HMD.out;omega),box_far hQ5 (by simp only;omega) _,hB5.setCell (by simp only;omega) _,by simp;omega,by omega⟩
              · obtain ⟨k',rfl⟩: ∃ k',gk=k'+1:=⟨gk-1,by have:=HN1.out;omega⟩
                have HK2:Hid (eat fb.length st fb=eat k' (compress ks0 st1 (buf.take 128)) (buf.drop 128)):=by
                  show _=_
                  rw [HK.out,eat,if_pos (by rw [HN1.out];exact h128)]
                have htk:=Rep.sl_take hsl4 h128
                have hcut:=Rep.sl_cut hsl4 h128
                rw [show Rep.u8.size=1 from rfl,Nat.mul_one] at hcut
                rw [if_neg hcc] at hcut;simp only [Option.map_some,Addr.add_lit] at hcut
                have hcl:(compress ks0 st1 (buf.take 128)).length=8:=compress_len HL1.out
                have hdl:(buf.drop 128).length≤k':=by rw [List.length_drop];omega
                have HC:=Lib.hid hcut
                have HCL:=Lib.hid hcl
                clear hcut hcl
                go_wp2_with fail
                refine Calls.mono (block_t st1 ks0 (.slice (some ⟨B1,o1,none⟩) n1 c1) al (w.heap.size+1) (buf.take 128) (some ⟨B1,o1,none⟩) 128 c1 _ _ HL1.out ks0_len hX4 htk (Nat.le_refl _) (fun b hb=>hb.2.1)) ?_
                rintro e w5 ⟨rfl,hX5,hg5⟩
                have hz5:=hg5.size
                have hcut5:=Rep.sl_grown HC.out hg5 (fun b hb=>⟨hb.2.1,fun e=>hb.2.2.1 (by injection e)⟩)
                have hcut6:=Rep.sl_more (S':=fun b=>w.heap.size≤b∧b<w5.heap.size∧b≠w.heap.size+1∧b≠w.heap.size) hcut5 (fun b hb=>⟨hb.1,by have:=hb.2.1;omega,hb.2.2⟩)
                have HC6:=Lib.hid hcut6
                have hQ5:=box_grown hQ4 hg5 (by intro e;injection e;omega)
                have hB5:=hB4.grown hg5 (by omega) (fun k e=>by injection e;omega)
                generalize compress ks0 st1 (buf.take 128)=st2 at *
                have e88:=hash_rest HCL.out hX5
                have i88:=boxed_frozen hX5 88
                clear hcut5 hcut6 hsl4 htk hg5 HC d88 g88 hX4
                go_wp2
                go_roundg k'
                case measure=>omega
                case rel=>exact ⟨st2,buf.drop 128,_,_,_,HCL.out,hash_setRest HCL.out hX5 _,by simpa using Rep.sl_setFar (g:=w.heap.size+1) (j:=88) HC6.out (fun b hb=>hb.2.2.1),HK2,hdl,(by show _=_;have:=HMD.out;omega),box_far hQ5 (by simp only;omega) _,hB5.setCell (by simp only;omega) _,by simp;omega,by omega⟩
            · have hbz:buf=[]:=List.eq_nil_of_length_eq_zero (by rw [HN1.out];omega)
              have HEND:Hid (sumL st rest al=digest st1):=by
                show _=_
                rw [HSUM.out,HK.out,hbz]
                cases gk <;> rfl
              clear hbz hsl4
              have hdl:(digest st1).length=64:=rfl
              have HDL:=Lib.hid hdl
              clear hdl
              go_wp2
              obtain ⟨O,hO⟩: ∃ O:Nat,O=wr.heap.size:=⟨_,rfl⟩
              have hOz:w.heap.size+2≤O:=by omega
              have hX5:=box_alloc hX4 (.cells (bcells (List.replicate 64 0)) 53)
              have hQ5:=box_alloc hQ4 (.cells (bcells (List.replicate 64 0)) 53)
              have hO5:(wr.alloc (.cells (bcells (List.replicate 64 0)) 53)).heap[O]?=_:=box_at2 hO
              have hB5:=hB4.alloc (by omega) (.cells (bcells (List.replicate 64 0)) 53)
              rw [← hO]
              clear hX4 hQ4 hB4 hO
              go_loopw [86] (fun ix wq=> ∃ (i:Nat),i≤64∧ix= .int .i64 (i:Nat)∧wq.heap[w.heap.size+1]?=some (.cells (hashCells st1 ks0 (.slice A1 n1 c1) al) 168 (0,0))∧wq.heap[w.heap.size]?=some (.cells (bcells (List.replicate 64 0)) 53 (0,0)) ∧
                wq.heap[O]?=some (.cells (bcells (padB 64 ((digest st1).take i))) 53 (0,0))∧Below w.heap.size w wq) (fun ix _=>64-(RowKit.intOf ix).toNat)
              case atStart=>exact ⟨0,by omega,rfl,hX5,hQ5,hO5,hB5⟩
              case round =>
                obtain ⟨i,hi,rfl,hX6,hQ6,hO6,hB6⟩:=hrel
                by_cases h64:i<64
                · have HPL:Hid ((padB 64 ((digest st1).take i)).length=64):=padB_len (by rw [List.length_take,HDL.out];omega)
                  have cO:=bcell_at hO6 (i:=i) (by rw [HPL.out];exact h64)
                  have fO:=boxed_frozen hO6 i
                  have cX:=hash_at hX6 (i:=i/8) (by rw [HL1.out];omega)
                  have HD:Hid (padB 64 ((digest st1).take (i+1))=(padB 64 ((digest st1).take i)).set i (byteW (sr (st1.getD (i/8) 0) (56-8*(i%8))))):=by
                    show _=_
                    have hl:((digest st1).take i).length=i:=by rw [List.length_take,HDL.out];omega
                    have:=padB_set (n:=64) (ps:=(digest st1).take i) (p:=byteW (sr (st1.getD (i/8) 0) (56-8*(i%8)))) (by rw [hl];exact h64)
                    rw [hl] at this
                    rw [this,List.take_add_one,digest_get h64]
                    rfl
                  generalize st1.getD (i/8) 0=x at *
                  generalize (padB 64 ((digest st1).take i)).getD i 0=q at *
                  have hd1:((i:Int)/8).toNat=i/8:=by omega
                  have hd2:(i:Int)/8<8:=by omega
                  have hd3:(0:Int)≤(i:Int)/8:=by omega
                  have hs1:(0:Int)≤56-8*((i:Int)%8):=by omega
                  have hs2:56-8*((i:Int)%8)≤63:=by omega
                  have hs3:8*((i:Int)%8)≤56:=by omega
                  have hs4:(56-8*((i:Int)%8)).toNat=56-8*(i%8):=by omega
                  go_wp2
                  go_roundw
                  case rel=>exact ⟨i+1,by omega,by go_num,box_far hX6 (by simp only;omega) _,box_far hQ6 (by simp only;omega) _,by rw [HD.out];exact bcell_set hO6 i _,hB6.setCell (by simp only;omega) _⟩
                  case measure=>simp [RowKit.intOf] <;> omega
                · have hie:i=64:=by omega
                  have hpe:padB 64 ((digest st1).take i)=digest st1:=by
                    rw [hie,List.take_of_length_le (by rw [HDL.out];exact Nat.le_refl _)]
                    unfold padB
                    rw [HDL.out]
                    simp
                  rw [hpe] at hO6
                  clear hpe hie
                  go_wp2_with (refine halt_load (ty:=53) rfl ?_)
                  refine go_onO (wpList_load_row rfl _ _ rfl O rfl _ (bcells (digest st1)) (0,0) _ hO6 Tryz.underlying53 rfl (by rw [bcells_size,HDL.out];kernel_rfl) ?_)
                  go_wp2_with (refine halt_store (ty:=53) rfl ?_)
                  refine go_onO (wpList_storeR rfl _ _ _ rfl w.heap.size (bcells (digest st1)) rfl rfl hQ6 (by rw [bcells_size,HDL.out];kernel_rfl) (by rw [bcells_size,bcells_size,HDL.out];rfl) (bcells_one _) ?_)
                  intro w9 hQ9 hg9 hs9
                  go_wp2
                  refine bodyPost_ret (results_cell_row rfl _ _ w.heap.size 53 (bcells (digest st1)) (0,0) _ rfl hQ9 Tryz.underlying53 rfl (by rw [bcells_size,HDL.out];kernel_rfl)) rfl ?_
                  exact ⟨by rw [HEND.out],hB6.grown hg9 (by have:=hB6.size;omega) (fun k e=>by injection e;omega)⟩
end Go.Proofs.YtdakeodebgggfaaGreatDoor
namespace Go.Proofs.YtdakeodebgggfaaGreatDoor
open Go.RowKit Go.Lib
theorem eat_fuel: ∀ (n m:Nat) (st:List UInt64) (b:List UInt8),b.length≤n→b.length≤m→eat n st b=eat m st b
  | 0,m,st,b,hn,hm=>by
    have:b=[]:=List.eq_nil_of_length_eq_zero (by omega)
    subst this
    cases m <;> rfl
  | n+1,0,st,b,hn,hm=>by
    have:b=[]:=List.eq_nil_of_length_eq_zero (by omega)
    subst this
    rfl
  | n+1,m+1,st,b,hn,hm=>by
    unfold eat
    split
    · exact eat_fuel n m _ _ (by rw [List.length_drop];omega) (by rw [List.length_drop];omega)
    · rfl
def eatF (st:List UInt64) (b:List UInt8):List UInt64 × List UInt8:=eat b.length st b
theorem eatF_go {st:List UInt64} {b:List UInt8} (h:128≤b.length):eatF st b=eatF (compress ks0 st (b.take 128)) (b.drop 128):=by
  unfold eatF
  obtain ⟨k,hk⟩: ∃ k,b.length=k+1:=⟨b.length-1,by omega⟩
  rw [hk,eat,if_pos h]
  exact eat_fuel _ _ _ _ (by rw [List.length_drop];omega) (Nat.le_refl _)
theorem eatF_stop {st:List UInt64} {b:List UInt8} (h: ¬ 128≤b.length):eatF st b=(st,b):=by
  unfold eatF
  cases hb:b.length with
  | zero=>rfl
  | succ k=>rw [eat,if_neg h]
theorem eatF_app (a b:List UInt8): ∀ (n:Nat) (st:List UInt64),a.length≤n→eatF st (a++b)=eatF (eatF st a).1 ((eatF st a).2++b):=by
  intro n
  induction n generalizing a with
  | zero =>
    intro st h
    have:a=[]:=List.eq_nil_of_length_eq_zero (by omega)
    subst this
    rfl
  | succ n ih =>
    intro st h
    by_cases h1:128≤a.length
    · rw [eatF_go (b:=a++b) (by rw [List.length_append];omega),eatF_go h1,List.take_append_of_le_length h1,List.drop_append_of_le_length h1]
      exact ih (a.drop 128) _ (by rw [List.length_drop];omega)
    · rw [eatF_stop h1]
theorem eatF_len (st:List UInt64) (b:List UInt8) (h:st.length=8):(eatF st b).1.length=8:=eat_len _ _ _ h
theorem eatF_rest (b:List UInt8): ∀ (n:Nat) (st:List UInt64),b.length≤n→(eatF st b).2.length=b.length%128:=by
  intro n
  induction n generalizing b with
  | zero =>
    intro st h
    have:b=[]:=List.eq_nil_of_length_eq_zero (by omega)
    subst this
    rfl
  | succ n ih =>
    intro st h
    by_cases h1:128≤b.length
    · rw [eatF_go h1,ih _ _ (by rw [List.length_drop];omega),List.length_drop]
      omega
    · rw [eatF_stop h1]
      show b.length=_
      omega
def shaL (m:List UInt8):List UInt8:=sumL (eatF st0 m).1 (eatF st0 m).2 m.length
def HashOf (w:World) (lo g:Nat) (m:List UInt8):Prop:=HashAt w lo g (eatF st0 m).1 (eatF st0 m).2 m.length
theorem hash_base {w:World} {lo lo' g:Nat} {st:List UInt64} {rest:List UInt8} {al:Nat} (h:HashAt w lo g st rest al) (hl:lo'≤lo):HashAt w lo' g st rest al:=by
  obtain ⟨r,h1,h2⟩:=h
  exact ⟨r,h1,Rep.own_base h2 (fun k hk=>Nat.le_trans hl (Rep.own_lt h2 k hk).1)⟩
def WritesPost (w:World) (base g:Nat) (m bs:List UInt8) (e:Ending) (w':World):Prop:=e= .returned (.tuple #[])∧HashOf w' w.heap.size g (m++bs)∧Below base w w'
theorem writes_m (m bs:List UInt8) (g base:Nat) (A:Option Addr) (n c:Nat) (S:Nat→Prop) (w:World) (hh:HashOf w base g m) (hbg:base≤g)
    (hs:Rep.u8.sl w S A n c bs) (hS: ∀ b,S b→b≠g) (hS2: ∀ b,S b→b<w.heap.size) (hln:m.length+n≤1000000000) :
    Calls Tryz.prog 119 #[.pointer (some ⟨g,0,none⟩),.slice A n c] w (WritesPost w base g m bs):=by
  have hr:=eatF_rest m _ st0 (Nat.le_refl _)
  refine (write_c _ _ bs _ g base A n c S w (eatF_len _ _ st0_len) hh hbg hs hS hS2 hln (by omega)).mono ?_
  rintro e w' ⟨rfl,h1,h2⟩
  refine ⟨rfl,?_,h2⟩
  unfold HashOf
  rw [eatF_app m bs _ st0 (Nat.le_refl _),List.length_append]
  exact h1
def SumsPost (m:List UInt8) (w:World) (e:Ending) (w':World):Prop:=e= .returned (.agg (bcells (shaL m)))∧Below w.heap.size w w'
theorem sums_m (m:List UInt8) (lo g:Nat) (w:World) (hh:HashOf w lo g m) (hm:m.length≤1000000000) :
    Calls Tryz.prog 120 #[.pointer (some ⟨g,0,none⟩)] w (SumsPost m w):=
  (sum_c _ _ _ lo g w (eatF_len _ _ st0_len) hh hm (by rw [eatF_rest m _ st0 (Nat.le_refl _)];omega)).mono fun e w' h=>h
theorem shaL_len (m:List UInt8):(shaL m).length=64:=rfl
set_option maxHeartbeats 1000000 in
set_option maxRecDepth 100000 in
theorem of_c (l:List (List UInt8)) (A:Option Addr) (n c:Nat) (w:World) (hs:Rep.u8.slice.sl w (fun b=>b<w.heap.size) A n c l) (hl:l.flatten.length≤1000000000) :
    Calls Tryz.prog 88 #[.slice A n c] w (SumsPost l.flatten w):=by
  have HN:=Lib.hid hs.1
  have hnc:=hs.2.1
  have hcm:=hs.2.2.1
  go_enter Tryz.func88,Tryz.ntmps88
  go_wp2_with fail
  refine Calls.mono (new_c _) ?_
  rintro e w1 ⟨rfl,hh1,hB1⟩
  have hq1:=box_below (box_new w _ 53) hB1 (by simp)
  have hB1':Below w.heap.size w w1:=((Below.refl _ _).alloc (Nat.le_refl _) _).trans (hB1.mono (by simp))
  have hz1:=hB1.size
  simp only [World.size_alloc] at hh1 hz1
  have hh1':HashOf w1 (w.heap.size+1) (w.heap.size+1) []:=hh1
  clear hB1 hh1
  go_wp2
  go_loopw [9] (fun ix wr=> ∃ (k:Nat),k≤n∧ix= .int .i64 (k:Nat)∧HashOf wr (w.heap.size+1) (w.heap.size+1) (l.take k).flatten∧wr.heap[w.heap.size]?=some (.cells (bcells (List.replicate 64 0)) 53 (0,0))∧Below w.heap.size w wr∧w.heap.size+1≤wr.heap.size) (fun ix _=>n-(RowKit.intOf ix).toNat)
  case atStart=>exact ⟨0,by omega,rfl,hh1',hq1,hB1',hz1⟩
  case round =>
    obtain ⟨k,hk,rfl,hh,hq,hB,hz⟩:=hrel
    by_cases hlt:k<n
    · obtain ⟨b',o',x,es,rfl,hb',hx,⟨A2,n2,c2,rfl,hsx⟩,hcx⟩:=Rep.sl_at (Rep.sl_below hs hB (fun _ h=>h)) hlt
      have hcx0:=hcx 0 _ rfl
      rw [show (Rep.u8.slice).size=1 from rfl,Nat.mul_one,Nat.add_zero] at hcx0
      have HF:Hid ((l.take (k+1)).flatten=(l.take k).flatten++x):=by
        show _=_
        rw [List.take_add_one,hx,List.flatten_append]
        simp
      have hle:(l.take k).flatten.length+n2≤1000000000:=by
        have h1:(l.take (k+1)).flatten.length≤l.flatten.length:=by
          conv=>rhs;rw [← List.take_append_drop (k+1) l,List.flatten_append,List.length_append]
          omega
        rw [HF.out,List.length_append,hsx.1] at h1
        omega
      clear hcx hx
      generalize (l.take k).flatten=m at *
      go_wp2_with fail
      refine Calls.mono (writes_m m x (w.heap.size+1) (w.heap.size+1) A2 n2 c2 _ _ hh (by omega) hsx (fun b hb=>by have:=hB.size;omega) (fun b hb=>by have:=hB.size;omega) hle) ?_
      rintro e w5 ⟨rfl,hh5,hB5⟩
      have hz5:=hB5.size
      have hq5:=box_below hq hB5 (by omega)
      have hB6:=hB.trans (hB5.mono (by omega))
      have hh6:HashOf w5 (w.heap.size+1) (w.heap.size+1) (m++x):=hash_base hh5 hz
      clear hh hh5 hq hB hB5 hsx hcx0
      go_wp2
      go_roundw
      case rel=>exact ⟨k+1,by omega,by go_num,by rw [HF.out];exact hh6,hq5,hB6,by omega⟩
      case measure=>simp [RowKit.intOf] <;> omega
    · have hke:k=n:=by omega
      have hfl:(l.take k).flatten=l.flatten:=by rw [hke,← HN.out,List.take_length]
      rw [hfl] at hh
      clear hfl hke
      go_wp2_with fail
      refine Calls.mono (sums_m l.flatten _ _ _ hh hl) ?_
      rintro e w5 ⟨rfl,hB5⟩
      have hq5:=box_below hq hB5 (by omega)
      have hB6:=hB.trans (hB5.mono hB.size)
      go_wp2_with (refine halt_store (ty:=53) rfl ?_)
      refine go_onO (wpList_storeR rfl _ _ _ rfl w.heap.size (bcells (shaL l.flatten)) rfl rfl hq5 (by rw [bcells_size,shaL_len];kernel_rfl) (by rw [bcells_size,bcells_size,shaL_len];rfl) (bcells_one _) ?_)
      intro w9 hQ9 hg9 hs9
      go_wp2
      refine bodyPost_ret (results_cell_row rfl _ _ w.heap.size 53 (bcells (shaL l.flatten)) (0,0) _ rfl hQ9 Tryz.underlying53 rfl (by rw [bcells_size,shaL_len];kernel_rfl)) rfl ?_
      exact ⟨rfl,hB6.grown hg9 hB6.size (fun k e=>by injection e;omega)⟩
end Go.Proofs.YtdakeodebgggfaaGreatDoor
namespace Go.Proofs.YtdakeodebgggfaaGreatDoor
open Go.RowKit Go.Lib
section
variable {P:Program} {w:World} {ops:Array Oper} {rest:List Oper} {o:Oper} {a:Act} {Q:Exit→Act→World→Prop}
theorem halt_build {ty:TypeId} {parts:Array (Nat × Operand)} (ho:o.op= .build ty parts) (h:HaltedO (wpList P ops Q (o::rest) a w)):wpList P ops Q (o::rest) a w:=haltO h
theorem wpList_buildE (hg:o.guard=none) (t:TypeId) (parts:Array (Nat × Operand)) (ho:o.op= .build t parts) (cells:Array Value) (hb:P.built t (parts.map fun (i,x)=>(i,a.eval x)).toList=some cells)
    (h:wpList P ops Q rest (a.put o.dst (.agg cells)) w):wpList P ops Q (o::rest) a w:=by
  refine wpList_build hg t parts ho (by rw [hb];rfl) ?_
  rw [hb]
  exact h
end
def TablePost (xs:List Nat) (w:World) (e:Ending) (w':World):Prop:=e= .returned (.agg (wcells xs))∧Below w.heap.size w w'
set_option maxHeartbeats 1000000 in
set_option maxRecDepth 100000 in
theorem reffirst_c (w:World):Calls Tryz.prog 96 #[] w (TablePost firstL w):=by
  have z8:=(zero_of_info (P:=Tryz.prog) (t:=134) (v:= .agg (wcells (zeros 8))) (n:=8) (by kernel_rfl)).1
  go_enter Tryz.func96,Tryz.ntmps96
  go_wp2_with (refine halt_store (ty:=134) rfl ?_)
  refine go_onO (wpList_storeR rfl _ _ _ rfl w.heap.size (wcells firstL) rfl rfl (box_new w _ _) (by kernel_rfl) (by rw [wcells_size,zeros_len];rfl) (wcells_one _) ?_)
  intro w9 hQ9 hg9 hs9
  go_wp2
  refine bodyPost_ret (results_cell_row rfl _ _ w.heap.size 134 (wcells firstL) (0,0) _ rfl hQ9 Tryz.underlying134 rfl (by kernel_rfl)) rfl ?_
  exact ⟨rfl,((Below.refl _ _).alloc (Nat.le_refl _) _).grown hg9 (by simp) (fun k e=>by injection e;omega)⟩
set_option maxHeartbeats 1000000 in
set_option maxRecDepth 100000 in
theorem refconst_c (w:World):Calls Tryz.prog 97 #[] w (TablePost constL w):=by
  have z80:=(zero_of_info (P:=Tryz.prog) (t:=136) (v:= .agg (wcells (zeros 80))) (n:=80) (by kernel_rfl)).1
  go_enter Tryz.func97,Tryz.ntmps97
  go_wp2_with (refine halt_build (ty:=136) rfl ?_)
  refine go_onO (wpList_buildE rfl _ _ rfl (wcells constL) (by kernel_rfl) ?_)
  go_wp2_with (refine halt_store (ty:=136) rfl ?_)
  refine go_onO (wpList_storeR rfl _ _ _ rfl w.heap.size (wcells constL) rfl rfl (box_new w _ _) (by kernel_rfl) (by rw [wcells_size,zeros_len];rfl) (wcells_one _) ?_)
  intro w9 hQ9 hg9 hs9
  go_wp2
  refine bodyPost_ret (results_cell_row rfl _ _ w.heap.size 136 (wcells constL) (0,0) _ rfl hQ9 Tryz.underlying136 rfl (by kernel_rfl)) rfl ?_
  exact ⟨rfl,((Below.refl _ _).alloc (Nat.le_refl _) _).grown hg9 (by simp) (fun k e=>by injection e;omega)⟩
end Go.Proofs.YtdakeodebgggfaaGreatDoor
namespace Go.Proofs.YtdakeodebgggfaaGreatDoor
open Go.RowKit Go.Lib
theorem sl_bcells {w:World} {g:Nat} {xs:List UInt8} {t:TypeId} (h:w.heap[g]?=some (.cells (bcells xs) t (0,0))) (hm:xs.length≤9223372036854775807):Rep.u8.sl w (fun b=>b=g) (some ⟨g,0,none⟩) xs.length xs.length xs:=by
  refine ⟨rfl,Nat.le_refl _,hm,fun hn=>⟨g,0,rfl,rfl,fun i x hx=>⟨[.int .u8 (x.toNat:Int)],rfl,fun j u hu=>?_⟩⟩⟩
  have hi:i<xs.length:=(List.getElem?_eq_some_iff.1 hx).1
  cases j with
  | zero =>
    simp at hu
    subst hu
    rw [show Rep.u8.size=1 from rfl,Nat.mul_one,Nat.add_zero,Nat.zero_add]
    refine boxed h i _ ?_
    simp [bcells,hx]
  | succ j=>simp at hu
def endL (al j:Nat):List UInt8:=(List.range 16).map fun p=>if 15-p<j then UInt8.ofNat (8*al/2^(8*(15-p))) else 0
theorem endL_set {al j:Nat} (h:j<8):(endL al j).set (15-j) (UInt8.ofNat (8*al/2^(8*j)))=endL al (j+1):=by
  obtain h|h|h|h|h|h|h|h:j=0∨j=1∨j=2∨j=3∨j=4∨j=5∨j=6∨j=7:=by omega
  all_goals
    subst h
    rfl
theorem endL_full (al:Nat):endL al 8=lenB al:=rfl
theorem endL_len (al j:Nat):(endL al j).length=16:=by simp [endL]
def zend:Array Value:=bcells (List.replicate 16 0)
set_option maxHeartbeats 2000000 in
set_option maxRecDepth 100000 in
theorem filled_c (b:List UInt8) (A:Option Addr) (n c:Nat) (S:Nat→Prop) (w:World) (hs:Rep.u8.sl w S A n c b) (hS: ∀ x,S x→x<w.heap.size) (hn:n≤1000000000) :
    Calls Tryz.prog 98 #[.slice A n c] w (OwnPost w (fillB b b.length)):=by
  have HN:=Lib.hid hs.1
  have hmk: ∀ w,(Instr.makeSlice 22 (.int .i64 16) (.int .i64 16)).run Tryz.prog w= .ok (.slice (some ⟨w.heap.size,0,none⟩) 16 16) (w.alloc (.cells zend 5)):=fun w=>by kernel_rfl
  go_enter Tryz.func98,Tryz.ntmps98
  go_wp2_with (at_builtin;refine halt ?_)
  refine go_on (wpList_appF rfl flat_u8 TU _ _ rfl (by rfl) (own_lit (base:=w.heap.size) (S:=fun _=>False) _ [] rfl rfl (Nat.le_refl _) (by decide) rfl (fun _ h=>h.elim) (fun i x h=>by simp at h)) (by rfl) (Rep.sl_below hs (Below.alloc (Below.refl _ _) (Nat.le_refl _) _) hS) (by first|(with_reducible rfl)|omega|(simp;done)|(simp;omega)|(intro b hb;(try dsimp only at hb);simp;omega)|(intro b hb;(try dsimp only at hb);simp [Value.ownBlock];omega)|(intro b hb;exact hb.elim)|(go_grown;done)) (by first|(with_reducible rfl)|omega|(simp;done)|(simp;omega)|(intro b hb;(try dsimp only at hb);simp;omega)|(intro b hb;(try dsimp only at hb);simp [Value.ownBlock];omega)|(intro b hb;exact hb.elim)|(go_grown;done)) (by first|(with_reducible rfl)|omega|(simp;done)|(simp;omega)|(intro b hb;(try dsimp only at hb);simp;omega)|(intro b hb;(try dsimp only at hb);simp [Value.ownBlock];omega)|(intro b hb;exact hb.elim)|(go_grown;done)) (fun _ h=>h.elim) ?_)
  intro v2 w2 ho2 hg2 _
  rw [List.nil_append] at ho2
  have hB2:=((Below.refl w.heap.size w).alloc (Nat.le_refl _) (.cells #[] 5)).grown hg2 (by simp) (fun k e=>by simp [Value.ownBlock] at e;omega)
  have hz2:=hB2.size
  have hbn:=HN.out
  have hbl:b.length≤1000000000:=by omega
  clear hg2 hs hbn
  go_wp2_with (at_builtin;refine halt ?_)
  refine go_on (wpList_app1 rfl TU _ _ rfl (by rfl) (Rep.own_later ho2 (by first|(with_reducible rfl)|omega|(simp;done)|(simp;omega)|(intro b hb;(try dsimp only at hb);simp;omega)|(intro b hb;(try dsimp only at hb);simp [Value.ownBlock];omega)|(intro b hb;exact hb.elim)|(go_grown;done))) [_] (128:UInt8) rfl (cell_one_new _ _ _) rfl (by first|(with_reducible rfl)|omega|(simp;done)|(simp;omega)|(intro b hb;(try dsimp only at hb);simp;omega)|(intro b hb;(try dsimp only at hb);simp [Value.ownBlock];omega)|(intro b hb;exact hb.elim)|(go_grown;done)) (by first|(with_reducible rfl)|omega|(simp;done)|(simp;omega)|(intro b hb;(try dsimp only at hb);simp;omega)|(intro b hb;(try dsimp only at hb);simp [Value.ownBlock];omega)|(intro b hb;exact hb.elim)|(go_grown;done)) (by first|(with_reducible rfl)|omega|(simp;done)|(simp;omega)|(intro b hb;(try dsimp only at hb);simp;omega)|(intro b hb;(try dsimp only at hb);simp [Value.ownBlock];omega)|(intro b hb;exact hb.elim)|(go_grown;done)) (by first|(with_reducible rfl)|omega|(simp;done)|(simp;omega)|(intro b hb;(try dsimp only at hb);simp;omega)|(intro b hb;(try dsimp only at hb);simp [Value.ownBlock];omega)|(intro b hb;exact hb.elim)|(go_grown;done)) ?_)
  intro v3 w3 ho3 hg3 _
  have ho2':=Rep.own_later (w':=w2.alloc (.cells #[.int .u8 128] 5)) ho2 ((Below.refl _ _).alloc (Nat.le_refl _) _)
  have hB3:=below_app (hB2.alloc hz2 _) ho2' hg3 (Nat.le_refl _)
  have hz3:=hB3.size
  clear hg3 ho2 ho2' hB2
  have HL:Hid ((b++[(128:UInt8)]).length=b.length+1):=by show _=_;simp
  have HFB:Hid (fillB b b.length=(b++[128])++List.replicate (zfill (b.length+1)) 0++lenB b.length):=rfl
  have hZ:=zfill_lt (b.length+1)
  generalize b++[(128:UInt8)]=buf at *
  go_wp2
  go_loopg [3] (zfill (b.length+1)) (fun k v wr=> ∃ (j:Nat),j+k=zfill (b.length+1)∧Rep.u8.own 5 wr w.heap.size (fun _=>False) v (buf++List.replicate j 0)∧Below w.heap.size w wr)
  case atStart=>exact ⟨0,by omega,by simpa using ho3,hB3⟩
  case round =>
    obtain ⟨j,hjk,hO,hB⟩:=hrel
    obtain ⟨Ax,cx,hrr,_⟩:=Rep.own_sl hO
    subst hrr
    have hz:=hB.size
    have HLJ:Hid ((buf++List.replicate j (0:UInt8)).length=b.length+1+j):=by show _=_;rw [List.length_append,HL.out,List.length_replicate]
    have hlb:=Nat.le_of_eq HLJ.out
    by_cases hj:j<zfill (b.length+1)
    · obtain ⟨k',rfl⟩: ∃ k',gk=k'+1:=⟨gk-1,by omega⟩
      have ht:(((buf++List.replicate j (0:UInt8)).length:Int)%128!=112)=true:=by
        have:=mt (zfill_test (Nat.le_of_lt hj)).1 (by omega)
        rw [bne_iff_ne,HLJ.out]
        omega
      have HS:Hid (buf++List.replicate (j+1) (0:UInt8)=(buf++List.replicate j 0)++[0]):=by show _=_;rw [List.append_assoc,List.replicate_succ']
      generalize buf++List.replicate j (0:UInt8)=L at *
      go_wp2_with (at_builtin;refine halt ?_)
      refine go_on (wpList_app1 rfl TU _ _ rfl (by rfl) (Rep.own_later hO (by first|(with_reducible rfl)|omega|(simp;done)|(simp;omega)|(intro b hb;(try dsimp only at hb);simp;omega)|(intro b hb;(try dsimp only at hb);simp [Value.ownBlock];omega)|(intro b hb;exact hb.elim)|(go_grown;done))) [_] (0:UInt8) rfl (cell_one_new _ _ _) rfl (by omega) (by omega) (by simp;omega) (fun _ h=>h.elim) ?_)
      intro v5 w5 ho5 hg5 _
      have hO':=Rep.own_later (w':=wr.alloc (.cells #[.int .u8 0] 5)) hO ((Below.refl _ _).alloc (Nat.le_refl _) _)
      have hB5:=below_app (hB.alloc hz _) hO' hg5 (Nat.le_refl _)
      rw [← HS.out] at ho5
      clear hO hO' hg5 hB
      go_wp2
      go_roundg k'
      case measure=>omega
      case rel=>exact ⟨j+1,by omega,ho5,hB5⟩
    · have hje:j=zfill (b.length+1):=by omega
      have ht:(((buf++List.replicate j (0:UInt8)).length:Int)%128!=112)=false:=by
        have:=(zfill_test (Nat.le_of_eq hje)).2 hje
        rw [bne_eq_false_iff_eq,HLJ.out]
        omega
      have HM:Hid (fillB b b.length=(buf++List.replicate j 0)++lenB b.length):=by show _=_;rw [hje,HFB.out]
      clear hje
      generalize buf++List.replicate j (0:UInt8)=L at *
      go_wp2
      clear ht hmk
      obtain ⟨E,hE⟩: ∃ E:Nat,E=wr.heap.size:=⟨_,rfl⟩
      have hE4:(wr.alloc (.cells zend 5)).heap[E]?=some (.cells (bcells (endL n 0)) 5 (0,0)):=box_at2 hE
      have hO4:=Rep.own_later (w':=wr.alloc (.cells zend 5)) hO ((Below.refl _ _).alloc (Nat.le_refl _) _)
      have hB4:=hB.alloc hz (.cells zend 5)
      have hne:some E≠(Value.slice Ax L.length cx).ownBlock:=fun e=>by have:=(Rep.own_lt hO _ e.symm).2;omega
      have hEz:w.heap.size≤E:=by omega
      have hEs:E+1≤wr.heap.size+1:=by omega
      rw [← hE]
      clear hO hB
      clear hE
      go_loopw [4,6] (fun nv ix wq=> ∃ (j:Nat),j≤8∧ix= .int .i64 (15-(j:Int))∧nv= .int .i64 ((8*n/2^(8*j):Nat):Int)∧wq.heap[E]?=some (.cells (bcells (endL n j)) 5 (0,0))∧Rep.u8.own 5 wq w.heap.size (fun _=>False) (.slice Ax L.length cx) L∧Below w.heap.size w wq∧E+1≤wq.heap.size) (fun _ ix _=>(RowKit.intOf ix).toNat)
      case atStart=>exact ⟨0,by omega,rfl,by simp,hE4,hO4,hB4,by simp;omega⟩
      case round =>
        obtain ⟨j,hj8,rfl,rfl,hE5,hO5,hB5,hz5⟩:=hrel
        have hNb:8*n/2^(8*j)≤8000000000:=Nat.le_trans (Nat.div_le_self _ _) (by omega)
        by_cases hlt:j<8
        · have cE:=bcell_at hE5 (i:=15-j) (by rw [endL_len];omega)
          have fE:=boxed_frozen hE5 (15-j)
          have HST:Hid ((endL n j).set (15-j) (UInt8.ofNat (8*n/2^(8*j)))=endL n (j+1)):=endL_set hlt
          have HDV:Hid (8*n/2^(8*j)/256=8*n/2^(8*(j+1))):=by
            show _=_
            rw [Nat.div_div_eq_div_mul,show 8*(j+1)=8*j+8 by omega,Nat.pow_add]
          have hT:((8*n/2^(8*j):Nat):Int)%256=((UInt8.ofNat (8*n/2^(8*j))).toNat:Int):=by
            rw [UInt8.toNat_ofNat']
            omega
          generalize 8*n/2^(8*j)=N at *
          generalize UInt8.ofNat N=y at *
          generalize (endL n j).getD (15-j) 0=q at *
          have hi1:(15-(j:Int)).toNat=15-j:=by omega
          have hi2:(15:Int)-(j:Int)<16:=by omega
          have hi3:(j:Int)≤15:=by omega
          go_wp2
          go_roundw
          case rel=>exact ⟨j+1,by omega,by go_num,by rw [← HDV.out];go_num,by rw [← HST.out];exact bcell_set hE5 (15-j) y,Rep.own_setFar (p:=⟨E,15-j,none⟩) hO5 hne,hB5.setCell (by simp only;omega) _,by simp;omega⟩
          case measure=>simp [RowKit.intOf];omega
        · obtain rfl:j=8:=by omega
          have hsl:=sl_bcells hE5 (by rw [endL_len];omega)
          rw [endL_full] at hsl
          have hl16:(lenB n).length=16:=rfl
          rw [hl16] at hsl
          go_wp2_with (at_builtin;refine halt ?_)
          refine go_on (wpList_appF rfl flat_u8 TU _ _ rfl (by rfl) hO5 (by rfl) hsl (by omega) (by omega) (by omega) (fun _ h=>h.elim) ?_)
          intro v7 w7 ho7 hg7 _
          have hB7:=below_app hB5 hO5 hg7 (Nat.le_refl _)
          rw [← HN.out,← HM.out] at ho7
          clear hO5 hB5 hg7 hsl hE5
          go_wp2
          go_ret
          exact ⟨_,rfl,ho7,hB7⟩
end Go.Proofs.YtdakeodebgggfaaGreatDoor
namespace Go.Proofs.YtdakeodebgggfaaGreatDoor
open Go.RowKit Go.Lib
theorem mul256 (x:UInt64):Op.intArith .mul .u64 256 (x.toNat:Int)=pure (.int .u64 ((sl x 8).toNat:Int)):=by
  show pure (Value.int .u64 (IntKind.u64.wrap (256*(x.toNat:Int))))=pure (.int .u64 ((UInt64.ofNat (x.toNat*2^8)).toNat:Int))
  rw [show 256*(x.toNat:Int)=((x.toNat*2^8:Nat):Int) by omega,wrap_word]
theorem ob_bv (c:UInt8) (i:Nat) (hi:8≤i):(ob c).toBitVec.getLsbD i=false:=by
  have h:(ob c).toBitVec.toNat<2^8:=by
    show (UInt64.ofNat c.toNat).toNat<2^8
    rw [UInt64.toNat_ofNat']
    have:=c.toNat_lt
    omega
  rw [BitVec.getLsbD,Nat.testBit_lt_two_pow]
  exact Nat.lt_of_lt_of_le h (Nat.pow_le_pow_right (by decide) hi)
theorem wa_ob (x:UInt64) (c:UInt8):wa (sl x 8) (ob c)=wo (sl x 8) (ob c):=by
  show sl x 8+ob c=sl x 8 ||| ob c
  apply UInt64.toBitVec_inj.1
  rw [UInt64.toBitVec_add,UInt64.toBitVec_or]
  refine BitVec.add_eq_or_of_and_eq_zero _ _ ?_
  apply BitVec.eq_of_getLsbD_eq
  intro i hi
  rw [BitVec.getLsbD_and,sl_bv x 8 (by decide),BitVec.getLsbD_shiftLeft,BitVec.getLsbD_zero]
  by_cases h:i<8
  · simp [h]
  · rw [ob_bv c i (by omega)]
    simp
theorem choose_xor (e f g:UInt64):wx (wn e f) (wn (wc e) g)=chooseW e f g:=by
  show (e &&& f) ^^^ (~~~e &&& g)=(e &&& f) ||| (~~~e &&& g)
  apply UInt64.toBitVec_inj.1
  apply BitVec.eq_of_getLsbD_eq
  intro i hi
  simp only [UInt64.toBitVec_xor,UInt64.toBitVec_or,UInt64.toBitVec_and,UInt64.toBitVec_not,BitVec.getLsbD_xor,BitVec.getLsbD_or,BitVec.getLsbD_and,BitVec.getLsbD_not,hi,decide_true,Bool.true_and]
  cases e.toBitVec.getLsbD i <;> cases f.toBitVec.getLsbD i <;> cases g.toBitVec.getLsbD i <;> rfl
theorem major_xor (a b c:UInt64):wx (wx (wn a b) (wn a c)) (wn b c)=majorW a b c:=by
  show ((a &&& b) ^^^ (a &&& c)) ^^^ (b &&& c)=((a &&& b) ||| (a &&& c)) ||| (b &&& c)
  apply UInt64.toBitVec_inj.1
  apply BitVec.eq_of_getLsbD_eq
  intro i hi
  simp only [UInt64.toBitVec_xor,UInt64.toBitVec_or,UInt64.toBitVec_and,BitVec.getLsbD_xor,BitVec.getLsbD_or,BitVec.getLsbD_and]
  cases a.toBitVec.getLsbD i <;> cases b.toBitVec.getLsbD i <;> cases c.toBitVec.getLsbD i <;> rfl
theorem ref_round_cells (a b c d e f g h k w:UInt64):wcells (unat (roundW [a,b,c,d,e,f,g,h] k w)) =
    #[.int .u64 ((wa (wa (wa (wa (wa h (wx (wx (rotr e 14) (rotr e 18)) (rotr e 41))) (wx (wn e f) (wn (wc e) g))) k) w) (wa (wx (wx (rotr a 28) (rotr a 34)) (rotr a 39)) (wx (wx (wn a b) (wn a c)) (wn b c)))).toNat:Int),
      .int .u64 (a.toNat:Int),.int .u64 (b.toNat:Int),.int .u64 (c.toNat:Int),
      .int .u64 ((wa d (wa (wa (wa (wa h (wx (wx (rotr e 14) (rotr e 18)) (rotr e 41))) (wx (wn e f) (wn (wc e) g))) k) w)).toNat:Int),.int .u64 (e.toNat:Int),.int .u64 (f.toNat:Int),.int .u64 (g.toNat:Int)]:=by
  rw [choose_xor,major_xor]
  rfl
theorem next_comm (u v x y:UInt64):wa (wa (wa (small1 y) v) (small0 x)) u=wa (wa (wa u (small0 x)) v) (small1 y):=by
  show small1 y+v+small0 x+u=u+small0 x+v+small1 y
  ac_rfl
def runB (all:List UInt8):Nat→List UInt64
  | 0=>st0
  | k+1=>compress ks0 (runB all k) ((all.drop (128*k)).take 128)
theorem runB_len (all:List UInt8): ∀ k,(runB all k).length=8
  | 0=>st0_len
  | k+1=>compress_len (runB_len all k)
def refS (b:List UInt8):List UInt8:=digest (runB (fillB b b.length) ((fillB b b.length).length/128))
theorem fill_mod (b:List UInt8) (al:Nat):(fillB b al).length%128=0∧(fillB b al).length≤b.length+200:=by
  unfold fillB
  have h1:(lenB al).length=16:=rfl
  have h2:=(zfill_test (n:=b.length+1) (Nat.le_refl _)).2 rfl
  have h3:=zfill_lt (b.length+1)
  simp only [List.length_append,List.length_replicate,List.length_singleton,h1]
  omega
theorem unat_first:unat st0=firstL:=by rw [unat_st0,first_roots]
theorem unat_const:unat ks0=constL:=by rw [unat_ks0,const_roots]
theorem refturn_any (x:UInt64) (n:Int) (hn:n∈[(1:Int),8,14,18,19,28,34,39,41,61]) (w:World) :
    Calls Tryz.prog 99 #[.int .u64 (x.toNat:Int),.int .u64 n] w fun e w'=>e= .returned (.int .u64 ((rotr x n.toNat).toNat:Int))∧w'=w:=by
  simp only [List.mem_cons,List.not_mem_nil,or_false] at hn
  rcases hn with rfl|rfl|rfl|rfl|rfl|rfl|rfl|rfl|rfl|rfl
  · exact (refturn_1 x w).mono fun _ _ ⟨a,b⟩=>⟨a,b.symm⟩
  · exact (refturn_8 x w).mono fun _ _ ⟨a,b⟩=>⟨a,b.symm⟩
  · exact (refturn_14 x w).mono fun _ _ ⟨a,b⟩=>⟨a,b.symm⟩
  · exact (refturn_18 x w).mono fun _ _ ⟨a,b⟩=>⟨a,b.symm⟩
  · exact (refturn_19 x w).mono fun _ _ ⟨a,b⟩=>⟨a,b.symm⟩
  · exact (refturn_28 x w).mono fun _ _ ⟨a,b⟩=>⟨a,b.symm⟩
  · exact (refturn_34 x w).mono fun _ _ ⟨a,b⟩=>⟨a,b.symm⟩
  · exact (refturn_39 x w).mono fun _ _ ⟨a,b⟩=>⟨a,b.symm⟩
  · exact (refturn_41 x w).mono fun _ _ ⟨a,b⟩=>⟨a,b.symm⟩
  · exact (refturn_61 x w).mono fun _ _ ⟨a,b⟩=>⟨a,b.symm⟩
attribute [local go_sem] wrap_ob bits_not bits_and' bits_or' wrap_add' wrap_byteW
attribute [local go_sem ↓] mul256
set_option maxHeartbeats 4000000 in
set_option maxRecDepth 100000 in
theorem refsum_c (b:List UInt8) (A:Option Addr) (n c:Nat) (S:Nat→Prop) (w:World) (hs:Rep.u8.sl w S A n c b) (hS: ∀ x,S x→x<w.heap.size) (hn:n≤1000000000) :
    Calls Tryz.prog 57 #[.slice A n c] w (OwnPost w (refS b)):=by
  have z8:=(zero_of_info (P:=Tryz.prog) (t:=134) (v:= .agg (wcells (zeros 8))) (n:=8) (by kernel_rfl)).1
  have z80:=(zero_of_info (P:=Tryz.prog) (t:=136) (v:= .agg (wcells (zeros 80))) (n:=80) (by kernel_rfl)).1
  have HMK:Hid (∀ w,(Instr.makeSlice 106 (.int .i64 80) (.int .i64 80)).run Tryz.prog w= .ok (.slice (some ⟨w.heap.size,0,none⟩) 80 80) (w.alloc (.cells (wcells (zeros 80)) 59))):=fun w=>by kernel_rfl
  have HF:=Lib.hid (fill_mod b b.length)
  have hbl:=hs.1
  have hFl:(fillB b b.length).length≤1000000200:=by have:=HF.out.2;omega
  have HRS:Hid (refS b=digest (runB (fillB b b.length) ((fillB b b.length).length/128))):=rfl
  clear hbl
  go_enter Tryz.func57,Tryz.ntmps57
  go_wp2_with fail
  refine Calls.mono (reffirst_c _) ?_
  rintro e w1 ⟨rfl,hB1⟩
  go_wp2_with (refine halt_store (ty:=134) rfl ?_)
  refine go_onO (wpList_storeW rfl _ _ _ rfl _ firstL rfl rfl rfl (box_at2 rfl) (by rw [wcells_size,zeros_len];rfl) (by kernel_rfl) ?_)
  intro w2 hs2 hg2 hz2
  have hB2:=(hB1.alloc hB1.size _).grown hg2 (by simp;have:=hB1.size;omega) (fun k e=>by have:=hB1.size;injection e;omega)
  simp only [World.size_alloc] at hz2
  have hzb1:=hB1.size
  go_wp2_with fail
  refine Calls.mono (refconst_c _) ?_
  rintro e w3 ⟨rfl,hB3⟩
  have hs3:=box_below hs2 hB3 (by omega)
  have hzb3:=hB3.size
  have hB3':=hB2.trans (hB3.mono (by omega))
  go_wp2_with (refine halt_store (ty:=136) rfl ?_)
  refine go_onO (wpList_storeW rfl _ _ _ rfl _ constL rfl rfl rfl (box_at2 rfl) (by rw [wcells_size,zeros_len];rfl) (by kernel_rfl) ?_)
  intro w4 hk4 hg4 hz4
  have hs4:=box_grown (box_alloc hs3 _) hg4 (by intro e;injection e;omega)
  have hB4:=(hB3'.alloc (by omega) _).grown hg4 (by simp;omega) (fun k e=>by injection e;omega)
  simp only [World.size_alloc] at hz4
  rw [← unat_first] at hs4
  rw [← unat_const] at hk4
  obtain ⟨SB,hSB⟩: ∃ SB:Nat,SB=w1.heap.size:=⟨_,rfl⟩
  obtain ⟨KB,hKB⟩: ∃ KB:Nat,KB=w3.heap.size:=⟨_,rfl⟩
  rw [← hSB] at hs4 ⊢
  rw [← hKB] at hk4 ⊢
  have hSBz:w.heap.size≤SB:=by omega
  have hSK:SB<KB:=by omega
  have hKz:KB+1≤w4.heap.size:=by omega
  have HZ8:=Lib.hid z8
  clear hSB hKB hz4 hz2 hg4 hg2 hB3' hB3 hs3 hB2 hB1 hs2 z8 z80 hzb1 hzb3
  go_wp2_with fail
  refine Calls.mono (filled_c b A n c S _ (Rep.sl_below hs hB4 hS) (fun x hx=>by have:=hS x hx;omega) hn) ?_
  rintro e w5 ⟨v5,rfl,ho5,hB5⟩
  have hz5:=hB5.size
  have hs5:=box_below hs4 hB5 (by omega)
  have hk5:=box_below hk4 hB5 (by omega)
  have hB5':=hB4.trans (hB5.mono (by omega))
  obtain ⟨A5,c5,hv5,hsl5⟩:=Rep.own_sl ho5
  subst hv5
  have hlt5:=Rep.own_lt ho5
  have hsl6:=Rep.sl_more (S':=fun b=>w4.heap.size≤b∧b<w5.heap.size) hsl5 (fun b hb=>by
    rcases hb with hb|hb
    · exact hb.elim
    · exact hlt5 _ hb)
  generalize fillB b b.length=all at *
  clear hsl5 hlt5 ho5 hB4 hB5 hs4 hk4 hs
  have HN128:Hid (all.length%128=0):=HF.out.1
  have hlc:=hsl6.2.1
  have hcm:=hsl6.2.2.1
  clear HF
  go_wp2
  go_loopw [6] (fun ax wr=> ∃ (k:Nat),128*k≤all.length∧ax= .int .i64 (128*(k:Int))∧wr.heap[SB]?=some (.cells (wcells (unat (runB all k))) 134 (0,0))∧wr.heap[KB]?=some (.cells (wcells (unat ks0)) 136 (0,0)) ∧
    Rep.u8.sl wr (fun b=>w4.heap.size≤b∧b<w5.heap.size) A5 all.length c5 all∧Below w.heap.size w wr∧w5.heap.size≤wr.heap.size) (fun ax _=>all.length-(RowKit.intOf ax).toNat)
  case atStart=>exact ⟨0,by omega,rfl,hs5,hk5,hsl6,hB5',Nat.le_refl _⟩
  case round =>
    obtain ⟨k,hk,rfl,hS6,hK6,hA6,hB6,hz6⟩:=hrel
    by_cases hlt:128*k<all.length
    · have hlt2:128*k+128≤all.length:=by have:=HN128.out;omega
      obtain ⟨AB,ao,rfl,hABs,hbyte⟩:=byte_cells hA6 (by omega)
      have HBY:=Lib.hid hbyte
      have hABl:AB<wr.heap.size:=by omega
      have hABk:KB<AB:=by omega
      clear hbyte
      have HBS:Hid (∀ i,i<128→((all.drop (128*k)).take 128).getD i 0=all.getD (128*k+i) 0):=fun i hi=>by
        simp only [List.getD_eq_getElem?_getD]
        rw [List.getElem?_take,if_pos hi,List.getElem?_drop]
      have HBL:Hid (((all.drop (128*k)).take 128).length=128):=by show _=_;rw [List.length_take,List.length_drop];omega
      have HRB:Hid (runB all (k+1)=compress ks0 (runB all k) ((all.drop (128*k)).take 128)):=rfl
      have HR8:Hid ((runB all k).length=8):=runB_len all k
      generalize (all.drop (128*k)).take 128=bs at *
      generalize runB all k=st at *
      obtain ⟨wo,rfl⟩: ∃ wo:World,wo=wr:=⟨_,rfl⟩
      have hmk:=HMK.out wo
      have hltI:128*(k:Int)<(all.length:Int):=by omega
      go_wp2
      clear hmk
      obtain ⟨WB,hWB⟩: ∃ WB:Nat,WB=wo.heap.size:=⟨_,rfl⟩
      have hw7:(wo.alloc (.cells (wcells (zeros 80)) 59)).heap[WB]?=some (.cells (wcells (unat (padU 80 (wordsOf bs 0)))) 59 (0,0)):=by rw [wordsOf,padU_nil,zerosU_nat];exact box_at2 hWB
      have hB7:Below WB wo (wo.alloc (.cells (wcells (zeros 80)) 59)):=by rw [hWB];exact (Below.refl _ _).alloc (Nat.le_refl _) _
      have hWz:wo.heap.size≤WB:=by omega
      have hWz2:WB≤wo.heap.size:=by omega
      rw [← hWB]
      clear hWB
      go_loopw [8] (fun tx wq=> ∃ (t:Nat),t≤16∧tx= .int .i64 (t:Nat)∧wq.heap[WB]?=some (.cells (wcells (unat (padU 80 (wordsOf bs t)))) 59 (0,0))∧Below WB wo wq∧WB+1≤wq.heap.size) (fun tx _=>16-(RowKit.intOf tx).toNat)
      case atStart=>exact ⟨0,by omega,rfl,hw7,hB7,by simp;omega⟩
      case round =>
        obtain ⟨t,ht,rfl,hw8,hB8,hz8⟩:=hrel
        have HL:Hid ((padU 80 (wordsOf bs t)).length=80):=padU_len (by rw [wordsOf_len];omega)
        by_cases h16:t<16
        · have ht16:(t:Int)<16:=by omega
          go_wp2
          obtain ⟨wp,rfl⟩: ∃ wp:World,wp=wr:=⟨_,rfl⟩
          go_loopw [9] (fun ix wq=> ∃ (i:Nat),i≤8∧ix= .int .i64 (i:Nat)∧wq.heap[WB]?=some (.cells (wcells (unat ((padU 80 (wordsOf bs t)).set t (word8 0 ((bs.drop (8*t)).take i))))) 59 (0,0))∧Below WB wo wq∧WB+1≤wq.heap.size) (fun ix _=>8-(RowKit.intOf ix).toNat)
          case atStart=>exact ⟨0,by omega,rfl,by rw [show word8 0 ((bs.drop (8*t)).take 0)=0 from rfl,padU_set0 (wordsOf_len bs t) (by omega)];exact hw8,hB8,hz8⟩
          case round =>
            obtain ⟨i,hi,rfl,hw9,hB9,hz9⟩:=hrel
            by_cases hi8:i<8
            · have cb:=hB9.cell (p:=⟨AB,ao+(128*k+8*t+i),none⟩) (by simp only;omega)
              rw [HBY.out (128*k+8*t+i) (by omega)] at cb
              have cw:=ucell_at hw9 (i:=t) (by rw [List.length_set,HL.out];omega)
              rw [set_getD (by rw [HL.out];omega)] at cw
              have fw:=boxed_frozen hw9 t
              have HX:Hid (wa (sl (word8 0 ((bs.drop (8*t)).take i)) 8) (ob (all.getD (128*k+8*t+i) 0))=word8 0 ((bs.drop (8*t)).take (i+1))):=by
                show _=_
                rw [wa_ob,List.take_add_one,show (bs.drop (8*t))[i]?=some (bs.getD (8*t+i) 0) by rw [List.getElem?_drop];simp [List.getD,show 8*t+i<bs.length by rw [HBL.out];omega],HBS.out (8*t+i) (by omega),← Nat.add_assoc]
                exact (word8_snoc _ _ _).symm
              generalize word8 0 ((bs.drop (8*t)).take i)=x at *
              generalize all.getD (128*k+8*t+i) 0=y at *
              have W1:IntKind.i64.wrap (8*(t:Int))=8*(t:Int):=IntWalk.i64_in _ (by omega)
              have W2:IntKind.i64.wrap (128*(k:Int)+8*(t:Int))=128*(k:Int)+8*(t:Int):=IntWalk.i64_in _ (by omega)
              have W3:IntKind.i64.wrap (128*(k:Int)+8*(t:Int)+(i:Int))=128*(k:Int)+8*(t:Int)+(i:Int):=IntWalk.i64_in _ (by omega)
              have d1:(128*(k:Int)+8*(t:Int)+(i:Int)).toNat=128*k+8*t+i:=by omega
              have d2:128*(k:Int)+8*(t:Int)+(i:Int)<(all.length:Int):=by omega
              have d3:(0:Int)≤128*(k:Int)+8*(t:Int)+(i:Int):=by omega
              have d4:(t:Int)<80:=by omega
              go_wp2
              refine wp_region_still_tail 19 (by kernel_rfl) (by kernel_rfl) ?_
              change wpStill _ _ (World.drew _) _ _ _
              simp only [List.take_succ_cons,List.take_zero,List.drop_succ_cons,List.drop_zero]
              repeat (first|still_step|fail)
              refine wpStill_nil ?_
              change wpList _ _ _ _ _ (World.drew _)
              go_wp2
              clear W1 W2 W3 d1 d2 d3 d4 cb cw
              go_roundw
              case rel =>
                refine ⟨i+1,by omega,by go_num,?_,Below.setCell hB9.drew (by simp only;omega) _,by simp;omega⟩
                have:=ucell_set (w:=wr.drew) hw9 t (wa (sl x 8) (ob y))
                rw [List.set_set] at this
                rw [← HX.out]
                exact this
              case measure=>simp [RowKit.intOf] <;> omega
            · obtain rfl:i=8:=by omega
              go_wp2
              go_roundw
              case rel =>
                refine ⟨t+1,by omega,by go_num,?_,hB9,hz9⟩
                have hw:=padU_set (n:=80) (ps:=wordsOf bs t) (p:=word8 0 ((bs.drop (8*t)).take 8)) (by rw [wordsOf_len];omega)
                rw [wordsOf_len] at hw
                rw [wordsOf,if_pos h16,← hw]
                exact hw9
              case measure=>simp [RowKit.intOf] <;> omega
        · have et:t=16:=by omega
          rw [et] at hw8
          clear et HL
          have hn16: ¬ (t:Int)<16:=by omega
          go_wp2
          obtain ⟨wp,rfl⟩: ∃ wp:World,wp=wr:=⟨_,rfl⟩
          go_loopw [10] (fun tx wq=> ∃ (t:Nat),16≤t∧t≤80∧tx= .int .i64 (t:Nat)∧wq.heap[WB]?=some (.cells (wcells (unat (padU 80 (wordsOf bs t)))) 59 (0,0))∧Below WB wo wq∧WB+1≤wq.heap.size) (fun tx _=>80-(RowKit.intOf tx).toNat)
          case atStart=>exact ⟨16,by omega,by omega,rfl,hw8,hB8,hz8⟩
          case round =>
            obtain ⟨t,ht1,ht,rfl,hw9,hB9,hz9⟩:=hrel
            have HL:Hid ((padU 80 (wordsOf bs t)).length=80):=padU_len (by rw [wordsOf_len];exact ht)
            by_cases h80:t<80
            · have c15:=ucell_at hw9 (i:=t-15) (by rw [HL.out];omega)
              have c2:=ucell_at hw9 (i:=t-2) (by rw [HL.out];omega)
              have c16:=ucell_at hw9 (i:=t-16) (by rw [HL.out];omega)
              have c7:=ucell_at hw9 (i:=t-7) (by rw [HL.out];omega)
              have c0:=ucell_at hw9 (i:=t) (by rw [HL.out];omega)
              have f0:=boxed_frozen hw9 t
              rw [padU_get (by rw [wordsOf_len];omega)] at c15 c2 c16 c7
              have hw:=fun p=>padU_set (n:=80) (ps:=wordsOf bs t) (p:=p) (by rw [wordsOf_len];exact h80)
              rw [wordsOf_len] at hw
              have HW:=Lib.hid hw
              clear hw
              have HN:Hid (wordsOf bs (t+1)=wordsOf bs t++[wa (wa (wa (wx (wx (rotr ((wordsOf bs t).getD (t-2) 0) 19) (rotr ((wordsOf bs t).getD (t-2) 0) 61)) (sr ((wordsOf bs t).getD (t-2) 0) 6)) ((wordsOf bs t).getD (t-7) 0)) (wx (wx (rotr ((wordsOf bs t).getD (t-15) 0) 1) (rotr ((wordsOf bs t).getD (t-15) 0) 8)) (sr ((wordsOf bs t).getD (t-15) 0) 7))) ((wordsOf bs t).getD (t-16) 0)]):=by
                show _=_
                rw [wordsOf,if_neg (by omega),nextW,← next_comm]
                rfl
              generalize (wordsOf bs t).getD (t-15) 0=x at *
              generalize (wordsOf bs t).getD (t-2) 0=y at *
              generalize (wordsOf bs t).getD (t-16) 0=u at *
              generalize (wordsOf bs t).getD (t-7) 0=v at *
              generalize (padU 80 (wordsOf bs t)).getD t 0=q at *
              have d15:((t:Int)-15).toNat=t-15:=by omega
              have d2:((t:Int)-2).toNat=t-2:=by omega
              have d16:((t:Int)-16).toNat=t-16:=by omega
              have d7:((t:Int)-7).toNat=t-7:=by omega
              have b15:(t:Int)-15<80:=by omega
              have b2:(t:Int)-2<80:=by omega
              have b16:(t:Int)-16<80:=by omega
              have b7:(t:Int)-7<80:=by omega
              have p15:(15:Int)≤(t:Int):=by omega
              have p2:(2:Int)≤(t:Int):=by omega
              have p16:(16:Int)≤(t:Int):=by omega
              have p7:(7:Int)≤(t:Int):=by omega
              have W15:IntKind.i64.wrap ((t:Int)-15)=(t:Int)-15:=IntWalk.i64_in _ (by omega)
              have W2:IntKind.i64.wrap ((t:Int)-2)=(t:Int)-2:=IntWalk.i64_in _ (by omega)
              have W16:IntKind.i64.wrap ((t:Int)-16)=(t:Int)-16:=IntWalk.i64_in _ (by omega)
              have W7:IntKind.i64.wrap ((t:Int)-7)=(t:Int)-7:=IntWalk.i64_in _ (by omega)
              go_wp2
              refine wp_region_still_tail 32 (by kernel_rfl) (by kernel_rfl) ?_
              change wpStill _ _ (World.drew _) _ _ _
              simp only [List.take_succ_cons,List.take_zero,List.drop_succ_cons,List.drop_zero]
              repeat (first|still_step|still_call (refturn_any _ _ (by decide) _))
              refine wpStill_nil ?_
              change wpList _ _ _ _ _ (World.drew _)
              go_wp2
              clear d15 d2 d16 d7 b15 b2 b16 b7 W15 W2 W16 W7 c15 c2 c16 c7
              go_roundw
              case rel =>
                refine ⟨t+1,by omega,by omega,by go_num,?_,Below.setCell hB9.drew (by simp only;omega) _,by simp;omega⟩
                rw [HN.out,← HW.out]
                exact ucell_set (w:=wr.drew) hw9 t _
              case measure=>simp [RowKit.intOf] <;> omega
            · have et:t=80:=by omega
              rw [et,padU_full (wordsOf_len bs 80)] at hw9
              clear et HL
              have hn80: ¬ (t:Int)<80:=by omega
              have HWL:Hid ((wordsOf bs 80).length=80):=wordsOf_len bs 80
              have HCP:Hid (compress ks0 st bs=addsW st (roundsW ks0 (wordsOf bs 80) st 80)):=rfl
              generalize wordsOf bs 80=ws at *
              have hS9:=box_below hS6 hB9 (by omega)
              have hK9:=box_below hK6 hB9 (by omega)
              have hA9:=Rep.sl_below hA6 hB9 (fun b hb=>by omega)
              have hB9':=hB6.trans (hB9.mono (by omega))
              have z8:=HZ8.out
              go_wp2_with (refine halt_load (ty:=134) rfl ?_)
              refine go_onO (wpList_loadW rfl _ _ rfl SB rfl (unat st) (by rw [unat_len,HR8.out]) hS9 Tryz.underlying134 (by kernel_rfl) ?_)
              go_wp2_with (refine halt_store (ty:=134) rfl ?_)
              obtain ⟨VB,hVB⟩: ∃ VB:Nat,VB=wr.heap.size:=⟨_,rfl⟩
              rw [← hVB]
              refine go_onO (wpList_storeW rfl _ _ _ rfl VB (unat st) rfl rfl (by rw [unat_len,HR8.out]) (box_at2 hVB) (by rw [wcells_size,zeros_len]) (by kernel_rfl) ?_)
              intro wv hv1 hgv hzv
              have hVW:WB<VB:=by omega
              have hSv:=box_grown (box_alloc hS9 _) hgv (by intro e;injection e;omega)
              have hKv:=box_grown (box_alloc hK9 _) hgv (by intro e;injection e;omega)
              have hWv:=box_grown (box_alloc hw9 _) hgv (by intro e;injection e;omega)
              have hAv:=Rep.sl_grown (Rep.sl_below hA9 (Below.alloc (Below.refl wr.heap.size wr) (Nat.le_refl _) (.cells (wcells (zeros 8)) 134)) (fun b hb=>by omega)) hgv (fun b hb=>⟨by simp;omega,by intro e;injection e;omega⟩)
              have hBv:=(hB9'.alloc (by omega) (.cells (wcells (zeros 8)) 134)).grown hgv (by simp;omega) (fun k e=>by injection e;omega)
              simp only [World.size_alloc] at hzv
              have hzv':VB+1≤wv.heap.size:=by omega
              clear hVB hzv hgv hS9 hK9 hA9 hB9' z8 hw9 hB9 hS6 hK6 hA6 hB6
              go_wp2
              go_loopw [14] (fun tx wq=> ∃ (j:Nat),j≤80∧tx= .int .i64 (j:Nat)∧wq.heap[SB]?=some (.cells (wcells (unat st)) 134 (0,0))∧wq.heap[KB]?=some (.cells (wcells (unat ks0)) 136 (0,0))∧wq.heap[WB]?=some (.cells (wcells (unat ws)) 59 (0,0)) ∧
                wq.heap[VB]?=some (.cells (wcells (unat (roundsW ks0 ws st j))) 134 (0,0))∧Rep.u8.sl wq (fun b=>w4.heap.size≤b∧b<w5.heap.size) (some ⟨AB,ao,none⟩) all.length c5 all∧Below w.heap.size w wq∧VB+1≤wq.heap.size) (fun tx _=>80-(RowKit.intOf tx).toNat)
              case atStart=>exact ⟨0,by omega,rfl,hSv,hKv,hWv,hv1,hAv,hBv,hzv'⟩
              case round =>
                obtain ⟨j,hj,rfl,hSw,hKw,hWw,hVw,hAw,hBw,hzw⟩:=hrel
                by_cases hj80:j<80
                · have cw:=ucell_at hWw (i:=j) (by rw [HWL.out];exact hj80)
                  have ck:=ucell_at hKw (i:=j) (by rw [ks0_len];exact hj80)
                  have HRN:Hid (roundsW ks0 ws st (j+1)=roundW (roundsW ks0 ws st j) (ks0.getD j 0) (ws.getD j 0)):=rfl
                  generalize ks0.getD j 0=kj at *
                  generalize ws.getD j 0=wj at *
                  have hl8:=roundsW_len (ks:=ks0) (ws:=ws) HR8.out j
                  generalize roundsW ks0 ws st j=s at *
                  match s,hl8 with
                  | [a0,a1,a2,a3,a4,a5,a6,a7],_ =>
                    have s0:wr.cell? ⟨VB,0,none⟩=some (.int .u64 (a0.toNat:Int)):=ucell_at hVw (i:=0) (by simp)
                    have s1:wr.cell? ⟨VB,1,none⟩=some (.int .u64 (a1.toNat:Int)):=ucell_at hVw (i:=1) (by simp)
                    have s2:wr.cell? ⟨VB,2,none⟩=some (.int .u64 (a2.toNat:Int)):=ucell_at hVw (i:=2) (by simp)
                    have s3:wr.cell? ⟨VB,3,none⟩=some (.int .u64 (a3.toNat:Int)):=ucell_at hVw (i:=3) (by simp)
                    have s4:wr.cell? ⟨VB,4,none⟩=some (.int .u64 (a4.toNat:Int)):=ucell_at hVw (i:=4) (by simp)
                    have s5:wr.cell? ⟨VB,5,none⟩=some (.int .u64 (a5.toNat:Int)):=ucell_at hVw (i:=5) (by simp)
                    have s6:wr.cell? ⟨VB,6,none⟩=some (.int .u64 (a6.toNat:Int)):=ucell_at hVw (i:=6) (by simp)
                    have s7:wr.cell? ⟨VB,7,none⟩=some (.int .u64 (a7.toNat:Int)):=ucell_at hVw (i:=7) (by simp)
                    go_wp2
                    go_quiet ((go_at_call 99;exact Calls.quiet_of_same (refturn_any _ _ (by decide) _)))
                    go_wp2
                    go_quiet ((go_at_call 99;exact quiet_later (refturn_any _ _ (by decide) _)))
                    go_wp2_with (refine halt_store (ty:=134) rfl ?_)
                    refine go_onO (wpList_storeR rfl _ _ _ rfl _ _ rfl rfl (w:=wr.drewN _) hVw (by kernel_rfl) (by rw [wcells_size];rfl) (by simp [Value.oneCell']) ?_)
                    intro w9 hV9' hg9 hs9
                    have hV9:w9.heap[VB]?=some (.cells (wcells (unat (roundW [a0,a1,a2,a3,a4,a5,a6,a7] kj wj))) 134 (0,0)):=by
                      rw [ref_round_cells]
                      exact hV9'
                    clear hV9'
                    have hS9:=box_grown (w:=wr.drewN _) hSw hg9 (by intro e;injection e;omega)
                    have hK9:=box_grown (w:=wr.drewN _) hKw hg9 (by intro e;injection e;omega)
                    have hW9:=box_grown (w:=wr.drewN _) hWw hg9 (by intro e;injection e;omega)
                    have hA9:=Rep.sl_grown (Rep.sl_below hAw (below_drewN (Below.refl wr.heap.size wr) _) (fun b hb=>by omega)) hg9 (fun b hb=>⟨by show b<wr.heap.size;omega,by intro e;injection e;omega⟩)
                    have hB9:=(below_drewN hBw _).grown hg9 hBw.size (fun k e=>by injection e;omega)
                    have hz9:VB+1≤w9.heap.size:=by rw [hs9];exact hzw
                    clear hs9 hg9 s0 s1 s2 s3 s4 s5 s6 s7 cw ck
                    go_wp2
                    go_roundw
                    case rel=>exact ⟨j+1,by omega,by go_num,hS9,hK9,hW9,by rw [HRN.out];exact hV9,hA9,hB9,hz9⟩
                    case measure=>simp [RowKit.intOf] <;> omega
                · have hje:j=80:=by omega
                  have HS8:Hid ((roundsW ks0 ws st j).length=8):=roundsW_len HR8.out j
                  have HC2:Hid (runB all (k+1)=addsW st (roundsW ks0 ws st j)):=by show _=_;rw [HRB.out,HCP.out,hje]
                  have hj80': ¬ (j:Int)<80:=by omega
                  clear hje
                  generalize roundsW ks0 ws st j=s at *
                  have HAL:Hid ((addsW st s).length=st.length):=addsW_len (by rw [HR8.out,HS8.out])
                  have HAG:Hid (∀ m,m<8→(addsW st s).getD m 0=wa (st.getD m 0) (s.getD m 0)):=fun m hm=>addsW_get (by rw [HR8.out];exact hm) (by rw [HS8.out];exact hm)
                  go_wp2
                  go_loopw [17] (fun mx wq=> ∃ (m:Nat),m≤8∧mx= .int .i64 (m:Nat)∧wq.heap[SB]?=some (.cells (wcells (unat (mixL (addsW st s) st m))) 134 (0,0))∧wq.heap[KB]?=some (.cells (wcells (unat ks0)) 136 (0,0))∧wq.heap[VB]?=some (.cells (wcells (unat s)) 134 (0,0)) ∧
                    Rep.u8.sl wq (fun b=>w4.heap.size≤b∧b<w5.heap.size) (some ⟨AB,ao,none⟩) all.length c5 all∧Below w.heap.size w wq∧VB+1≤wq.heap.size) (fun mx _=>8-(RowKit.intOf mx).toNat)
                  case atStart=>exact ⟨0,by omega,rfl,by rw [show mixL (addsW st s) st 0=st from rfl];exact hSw,hKw,hVw,hAw,hBw,hzw⟩
                  case round =>
                    obtain ⟨m,hm,rfl,hS7,hK7,hV7,hA7,hB7',hz7⟩:=hrel
                    by_cases hm8:m<8
                    · have ca:=ucell_at hS7 (i:=m) (by rw [mixL_len HAL.out (by rw [HR8.out];omega),HR8.out];exact hm8)
                      rw [mixL_get HAL.out (by rw [HR8.out];exact hm8)] at ca
                      have cb:=ucell_at hV7 (i:=m) (by rw [HS8.out];exact hm8)
                      have fa:=boxed_frozen hS7 m
                      have HX2:=Lib.hid (HAG.out m hm8)
                      generalize st.getD m 0=x at *
                      generalize s.getD m 0=y at *
                      go_wp2
                      refine wp_region_still_tail 9 (by kernel_rfl) (by kernel_rfl) ?_
                      change wpStill _ _ (World.drew _) _ _ _
                      simp only [List.take_succ_cons,List.take_zero,List.drop_succ_cons,List.drop_zero]
                      repeat (first|still_step|fail)
                      refine wpStill_nil ?_
                      change wpList _ _ _ _ _ (World.drew _)
                      go_wp2
                      go_roundw
                      case rel =>
                        refine ⟨m+1,by omega,by go_num,?_,box_far (w:=wr.drew) hK7 (by simp only;omega) _,box_far (w:=wr.drew) hV7 (by simp only;omega) _,Rep.sl_grown hA7 (grownBy_set (g:=SB) (grownBy_drew (grownBy_of_below (Below.refl _ _) (some SB))) _) (fun b hb=>⟨by omega,by intro e;injection e;omega⟩),Below.setCell hB7'.drew (by simp only;omega) _,by simp;omega⟩
                        rw [← mixL_set HAL.out (by rw [HR8.out];exact hm8),HX2.out]
                        exact ucell_set (w:=wr.drew) hS7 m _
                      case measure=>simp [RowKit.intOf] <;> omega
                    · have hme:m=8:=by omega
                      have hmx:mixL (addsW st s) st m=runB all (k+1):=by
                        unfold mixL
                        rw [HC2.out,hme,List.take_of_length_le (by rw [HAL.out,HR8.out];omega),List.drop_eq_nil_of_le (by rw [HR8.out];omega),List.append_nil]
                      rw [hmx] at hS7
                      have hm8': ¬ (m:Int)<8:=by omega
                      clear hmx hme
                      have W128:IntKind.i64.wrap (128*(k:Int)+128)=128*(k:Int)+128:=IntWalk.i64_in _ (by omega)
                      go_wp2
                      go_roundw
                      case rel=>exact ⟨k+1,by omega,by first|go_num|(congr 1;omega),hS7,hK7,hA7,hB7',by omega⟩
                      case measure=>simp [RowKit.intOf] <;> omega
    · have hke:128*k=all.length:=by omega
      have HRS2:Hid (refS b=digest (runB all k)):=by show _=_;rw [HRS.out,← hke,Nat.mul_div_cancel_left k (by decide)]
      have HR8:Hid ((runB all k).length=8):=runB_len all k
      generalize runB all k=st at *
      have hnI: ¬ 128*(k:Int)<(all.length:Int):=by omega
      have hzw:=hB6.size
      clear hke
      go_wp2
      go_loopw [18,19] (fun v ix wq=> ∃ (i:Nat),i≤8∧ix= .int .i64 (i:Nat)∧Rep.u8.own 5 wq w.heap.size (fun _=>False) v ((digest st).take (8*i))∧wq.heap[SB]?=some (.cells (wcells (unat st)) 134 (0,0))∧Below w.heap.size w wq) (fun _ ix _=>8-(RowKit.intOf ix).toNat)
      case atStart=>exact ⟨0,by omega,rfl,own_lit (S:=fun _=>False) #[] [] rfl rfl (by omega) (by decide) rfl (fun _ h=>h.elim) (fun i x h=>by simp at h),box_alloc hS6 _,hB6.alloc (by omega) _⟩
      case round =>
        obtain ⟨i,hi,rfl,hO,hS7,hB7⟩:=hrel
        obtain ⟨Ax,cx,hrr,_⟩:=Rep.own_sl hO
        subst hrr
        by_cases hi8:i<8
        · have hiI:(i:Int)<8:=by omega
          go_wp2
          go_loopw [18,20] (fun v sx wq=> ∃ (j:Nat),j≤8∧sx= .int .i64 (56-8*(j:Int))∧Rep.u8.own 5 wq w.heap.size (fun _=>False) v ((digest st).take (8*i+j))∧wq.heap[SB]?=some (.cells (wcells (unat st)) 134 (0,0))∧Below w.heap.size w wq) (fun _ sx _=>(8+RowKit.intOf sx).toNat)
          case atStart=>exact ⟨0,by omega,rfl,hO,hS7,hB7⟩
          case round =>
            obtain ⟨j,hj,rfl,hO2,hS8,hB8⟩:=hrel
            obtain ⟨Ay,cy,hrr,_⟩:=Rep.own_sl hO2
            subst hrr
            have hz8:=hB8.size
            by_cases hj8:j<8
            · have hs1:(0:Int)≤56-8*(j:Int):=by omega
              have hs2:56-8*(j:Int)≤63:=by omega
              have hs3:8*(j:Int)≤56:=by omega
              have hs4:(56-8*(j:Int)).toNat=56-8*j:=by omega
              have cS:=ucell_at hS8 (i:=i) (by rw [HR8.out];exact hi8)
              have HD:Hid ((digest st).take (8*i+(j+1))=(digest st).take (8*i+j)++[byteW (sr (st.getD i 0) (56-8*j))]):=by
                show _=_
                rw [← Nat.add_assoc,List.take_add_one,digest_get (by omega),show (8*i+j)/8=i by omega,show (8*i+j)%8=j by omega]
                rfl
              have hlen:((digest st).take (8*i+j)).length≤64:=by
                rw [List.length_take]
                have:(digest st).length=64:=rfl
                omega
              generalize st.getD i 0=x at *
              generalize (digest st).take (8*i+j)=L at *
              go_wp2_with (at_builtin;refine halt ?_)
              refine go_on (wpList_app1 rfl TU _ _ rfl (by rfl) (Rep.own_later hO2 (by first|(with_reducible rfl)|omega|(simp;done)|(simp;omega)|(intro b hb;(try dsimp only at hb);simp;omega)|(intro b hb;(try dsimp only at hb);simp [Value.ownBlock];omega)|(intro b hb;exact hb.elim)|(go_grown;done))) [_] (byteW (sr x (56-8*j))) rfl (cell_one_new _ _ _) rfl (by omega) (by omega) (by simp;omega) (fun _ h=>h.elim) ?_)
              intro v5 w5 ho5 hg5 _
              have hO':=Rep.own_later (w':=wr.alloc (.cells #[.int .u8 ((byteW (sr x (56-8*j))).toNat:Int)] 5)) hO2 ((Below.refl _ _).alloc (Nat.le_refl _) _)
              have hS9:=box_app (box_alloc hS8 _) hO' (by decide) hg5
              have hB9:=below_app (hB8.alloc hz8 _) hO' hg5 (Nat.le_refl _)
              rw [← HD.out] at ho5
              clear hO2 hO' hg5 hB8 hS8 cS
              go_wp2
              go_roundw
              case rel=>exact ⟨j+1,by omega,by first|go_num|(congr 1;omega),ho5,hS9,hB9⟩
              case measure=>simp [RowKit.intOf] <;> omega
            · have HJ:Hid ((digest st).take (8*(i+1))=(digest st).take (8*i+j)):=by show _=_;rw [show 8*(i+1)=8*i+j by omega]
              have hlt0:56-8*(j:Int)<0:=by omega
              have hlt1:(56:Int)<8*(j:Int):=by omega
              go_wp2
              go_roundw
              case rel=>exact ⟨i+1,by omega,by go_num,by rw [HJ.out];exact hO2,hS8,hB8⟩
              case measure=>simp [RowKit.intOf] <;> omega
        · have hT:(digest st).take (8*i)=refS b:=by
            rw [HRS2.out,show i=8 by omega]
            exact List.take_of_length_le (Nat.le_refl _)
          have hi8': ¬ (i:Int)<8:=by omega
          go_wp2
          go_ret
          rw [hT] at hO
          exact ⟨.slice Ax (refS b).length cx,rfl,hO,hB7⟩
end Go.Proofs.YtdakeodebgggfaaGreatDoor
namespace Go.Proofs.YtdakeodebgggfaaGreatDoor
theorem run_eat (all:List UInt8): ∀ k,128*k≤all.length→eatF st0 all=eatF (runB all k) (all.drop (128*k))
  | 0,_=>rfl
  | k+1,h=>by
    rw [run_eat all k (by omega),eatF_go (by rw [List.length_drop];omega),List.drop_drop]
    rfl
theorem run_end (all:List UInt8):(eatF st0 all).1=runB all (all.length/128):=by
  rw [run_eat all (all.length/128) (by omega),eatF_stop (by rw [List.length_drop];omega)]
theorem ref_sum (m:List UInt8):refS m=shaL m:=by
  unfold refS
  rw [← run_end]
  show _=digest (eatF (eatF st0 m).1 (fillB (eatF st0 m).2 m.length)).1
  have hr:=eatF_rest m m.length st0 (Nat.le_refl _)
  have hz:zfill ((eatF st0 m).2.length+1)=zfill (m.length+1):=by
    rw [hr]
    unfold zfill
    omega
  unfold fillB
  rw [hz]
  simp only [List.append_assoc]
  rw [eatF_app m _ m.length st0 (Nat.le_refl _)]
end Go.Proofs.YtdakeodebgggfaaGreatDoor
namespace Go.Proofs.YtdakeodebgggfaaGreatDoor
open Go.RowKit Go.Lib
set_option maxHeartbeats 1000000 in
theorem join_c (l:List (List UInt8)) (A:Option Addr) (n c:Nat) (w:World) (hs:Rep.u8.slice.sl w (fun b=>b<w.heap.size) A n c l) (hl:l.flatten.length≤1000000000) :
    Calls Tryz.prog 70 #[.slice A n c] w (OwnPost w l.flatten):=by
  have HN:=Lib.hid hs.1
  have hnc:=hs.2.1
  have hcm:=hs.2.2.1
  go_enter Tryz.func70,Tryz.ntmps70
  go_wp2
  go_loopw [3,8] (fun v ix wr=> ∃ (k:Nat),k≤n∧ix= .int .i64 (k:Nat)∧Rep.u8.own 5 wr w.heap.size (fun _=>False) v (l.take k).flatten∧Below w.heap.size w wr) (fun _ ix _=>n-(RowKit.intOf ix).toNat)
  case atStart=>exact ⟨0,by omega,rfl,own_lit (S:=fun _=>False) #[] [] rfl rfl (Nat.le_refl _) (by decide) rfl (fun _ h=>h.elim) (fun i x h=>by simp at h),(Below.refl _ _).alloc (Nat.le_refl _) _⟩
  case round =>
    obtain ⟨k,hk,rfl,ho,hB⟩:=hrel
    obtain ⟨Ao,co,hov,_⟩:=Rep.own_sl ho
    subst hov
    by_cases hlt:k<n
    · obtain ⟨b',o',x,es,rfl,hb',hx,⟨A2,n2,c2,rfl,hsx⟩,hcx⟩:=Rep.sl_at (Rep.sl_below hs hB (fun _ h=>h)) hlt
      have hcx0:=hcx 0 _ rfl
      rw [show (Rep.u8.slice).size=1 from rfl,Nat.mul_one,Nat.add_zero] at hcx0
      have HF:Hid ((l.take (k+1)).flatten=(l.take k).flatten++x):=by
        show _=_
        rw [List.take_add_one,hx,List.flatten_append]
        simp
      have hle:(l.take k).flatten.length+n2≤1000000000:=by
        have h1:(l.take (k+1)).flatten.length≤l.flatten.length:=by
          conv=>rhs;rw [← List.take_append_drop (k+1) l,List.flatten_append,List.length_append]
          omega
        rw [HF.out,List.length_append,hsx.1] at h1
        omega
      have hbz:=hB.size
      clear hcx hx
      generalize (l.take k).flatten=m at *
      go_wp2_with (at_builtin;refine halt ?_)
      refine go_on (wpList_appF rfl flat_u8 TU _ _ rfl (by rfl) ho (by rfl) hsx (by omega) (by omega) hbz (fun _ h=>h.elim) ?_)
      intro v5 w5 ho5 hg5 _
      have hB5:=below_app hB ho hg5 (Nat.le_refl _)
      rw [← HF.out] at ho5
      clear ho hB hg5 hsx hcx0
      go_wp2
      go_roundw
      case rel=>exact ⟨k+1,by omega,by go_num,ho5,hB5⟩
      case measure=>simp [RowKit.intOf] <;> omega
    · have hke:k=n:=by omega
      have hfl:(l.take k).flatten=l.flatten:=by rw [hke,← HN.out,List.take_length]
      have HFL:=Lib.hid hfl
      clear hfl hke
      go_wp2
      go_ret
      refine ⟨.slice Ao (l.take k).flatten.length co,rfl,?_,hB⟩
      rw [HFL.out] at ho ⊢
      exact ho
end Go.Proofs.YtdakeodebgggfaaGreatDoor
