/- Parts of the proof, laid together. -/
import Derived.WalkKit
import Derived.WalkSpells
import Derived.WalkLawsBesides
import Derived.Lib.Hide
import Derived.Maps.AppendAt
import Derived.Lib.AppendStr
import Derived.Laws.BytesArg
import Derived.Lib.ConvBytes
import Derived.Orders
import Derived.Lib.LazyBuf
import Derived.DeepKeys
import Derived.Laws.Pointers
set_option linter.unusedVariables false
set_option linter.unusedSimpArgs false
set_option maxRecDepth 100000
set_option maxHeartbeats 8000000
namespace Go.Proofs.YtfammdfpgccnfaaGreatDoor
open Go.RowKit
structure Rep (α:Type) where
 size:Nat
 pos:0<size
 rd:World→(Nat→Prop)→List Value→α→Prop
 len: ∀ {w S cs x},rd w S cs x→cs.length=size
 keep: ∀ {w w' S cs x},rd w S cs x→(∀ p:Addr,S p.block→w'.cell? p=w.cell? p)→rd w' S cs x
 more: ∀ {w S S' cs x},rd w S cs x→(∀ b,S b→S' b)→rd w S' cs x
 one: ∀ {w S cs x},rd w S cs x→ ∀ u∈cs,u.oneCell'=true
section
variable {α:Type} {w w':World} {S S':Nat→Prop}
def Rep.u8:Rep UInt8 where
 size:=1
 pos:=by omega
 rd:=fun _ _ cs x=>cs=[.int .u8 (x.toNat:Int)]
 len:=fun h=>by rw [h];rfl
 keep:=fun h _=>h
 more:=fun h _=>h
 one:=fun h u hu=>by rw [h] at hu;simp at hu;subst hu;rfl
def Rep.row (r:Rep α) (w:World) (S:Nat→Prop) (b o:Nat) (xs:List α):Prop:=
 ∀ i x,xs[i]?=some x→ ∃ es,r.rd w S es x∧ ∀ j u,es[j]?=some u→w.cell? ⟨b,o+i*r.size+j,none⟩=some u
theorem Rep.row_keep {r:Rep α} {b o:Nat} {xs:List α} (h:r.row w S b o xs) (hb:S b) (hk: ∀ p:Addr,S p.block→w'.cell? p=w.cell? p):r.row w' S b o xs:=by
 intro i x hx
 obtain ⟨es,he,hc⟩:=h i x hx
 exact ⟨es,r.keep he hk,fun j u hu=>by rw [hk _ hb];exact hc j u hu⟩
theorem Rep.row_more {r:Rep α} {b o:Nat} {xs:List α} (h:r.row w S b o xs) (hS: ∀ b,S b→S' b):r.row w S' b o xs:=by
 intro i x hx
 obtain ⟨es,he,hc⟩:=h i x hx
 exact ⟨es,r.more he hS,hc⟩
def Rep.sl (r:Rep α) (w:World) (S:Nat→Prop) (A:Option Addr) (n c:Nat) (xs:List α):Prop:=
 xs.length=n∧n≤c∧c≤9223372036854775807∧(0<n→ ∃ b o,A=some ⟨b,o,none⟩∧S b∧r.row w S b o xs)
theorem Rep.sl_keep {r:Rep α} {A:Option Addr} {n c:Nat} {xs:List α} (h:r.sl w S A n c xs) (hk: ∀ p:Addr,S p.block→w'.cell? p=w.cell? p):r.sl w' S A n c xs:=
 ⟨h.1,h.2.1,h.2.2.1,fun hn=>by
  obtain ⟨b,o,rfl,hb,hr⟩:=h.2.2.2 hn
  exact ⟨b,o,rfl,hb,r.row_keep hr hb hk⟩⟩
theorem Rep.sl_more {r:Rep α} {A:Option Addr} {n c:Nat} {xs:List α} (h:r.sl w S A n c xs) (hS: ∀ b,S b→S' b):r.sl w S' A n c xs:=
 ⟨h.1,h.2.1,h.2.2.1,fun hn=>by
  obtain ⟨b,o,rfl,hb,hr⟩:=h.2.2.2 hn
  exact ⟨b,o,rfl,hS _ hb,r.row_more hr hS⟩⟩
theorem Rep.sl_below {r:Rep α} {A:Option Addr} {n c B:Nat} {xs:List α} (h:r.sl w S A n c xs) (hb:Below B w w') (hS: ∀ b,S b→b<B):r.sl w' S A n c xs:=
 r.sl_keep h fun _ hp=>hb.cell (hS _ hp)
theorem Rep.sl_at {r:Rep α} {A:Option Addr} {n c k:Nat} {xs:List α} (h:r.sl w S A n c xs) (hk:k<n) :
  ∃ b o x es,A=some ⟨b,o,none⟩∧S b∧xs[k]?=some x∧r.rd w S es x∧ ∀ j u,es[j]?=some u→w.cell? ⟨b,o+k*r.size+j,none⟩=some u:=by
 obtain ⟨b,o,hA,hb,hr⟩:=h.2.2.2 (by omega)
 have hl:k<xs.length:=by have:=h.1;omega
 obtain ⟨es,he,hc⟩:=hr k xs[k] (List.getElem?_eq_getElem hl)
 exact ⟨b,o,xs[k],es,hA,hb,List.getElem?_eq_getElem hl,he,hc⟩
def Rep.slice (r:Rep α):Rep (List α) where
 size:=1
 pos:=by omega
 rd:=fun w S cs xs=> ∃ A n c,cs=[.slice A n c]∧r.sl w S A n c xs
 len:=fun h=>by obtain ⟨_,_,_,rfl,_⟩:=h;rfl
 keep:=fun h hk=>by
  obtain ⟨A,n,c,rfl,h⟩:=h
  exact ⟨A,n,c,rfl,r.sl_keep h hk⟩
 more:=fun h hS=>by
  obtain ⟨A,n,c,rfl,h⟩:=h
  exact ⟨A,n,c,rfl,r.sl_more h hS⟩
 one:=fun h u hu=>by
  obtain ⟨A,n,c,rfl,h⟩:=h
  simp at hu
  subst hu
  rfl
theorem Rep.sl_nil {r:Rep α}:r.sl w S none 0 0 []:=⟨rfl,by omega,by omega,fun h=>absurd h (by omega)⟩
end
theorem boxed {w:World} {g:Nat} {cs:Array Value} {t:TypeId} (h:w.heap[g]?=some (.cells cs t (0,0))): ∀ j v,cs.toList[j]?=some v→w.cell? ⟨g,j,none⟩=some v:=by
 intro j v hv
 rw [cell_of_row w g j cs t (0,0) h]
 simpa using hv
theorem boxed_frozen {w:World} {g:Nat} {cs:Array Value} {t:TypeId} (h:w.heap[g]?=some (.cells cs t (0,0))) (j:Nat):w.frozen? ⟨g,j,none⟩=false:=by
 simp [World.frozen?,h]
theorem box_new (w:World) (cs:Array Value) (t:TypeId):(w.alloc (.cells cs t)).heap[w.heap.size]?=some (.cells cs t (0,0)):=heap_alloc_new w _
theorem box_alloc {w:World} {g:Nat} {x:Obj} (h:w.heap[g]?=some x) (o:Obj):(w.alloc o).heap[g]?=some x:=(Below.heap_alloc w o g (Array.getElem?_eq_some_iff.1 h).1).trans h
theorem rd_u8 {w:World} {S:Nat→Prop} {y:UInt8} {k:Int} (h:(y.toNat:Int)=k):Rep.u8.rd w S [.int .u8 k] y:=by
 subst h
 rfl
def ub (k:Int):UInt8:=UInt8.ofNat k.toNat
theorem ub_val {k:Int} (h0:0≤k) (h1:k≤255):((ub k).toNat:Int)=k:=by
 unfold ub
 rw [UInt8.toNat_ofNat']
 omega
def Halted (p:Prop):Prop:=p
theorem halt {p:Prop} (h:Halted p):p:=h
section
variable {α:Type} {P:Program} {w w':World} {S:Nat→Prop} {ops:Array Oper} {rest:List Oper} {o:Oper} {a:Act} {Q:Exit→Act→World→Prop}
theorem run_app_nil (base:Nat) (t ty e:TypeId) (i:TypeInfo) (size:Nat) (ht:P.underlying t=some (.slice e)) (hi:P.info? e=some i)
  (v:Value) (n:Nat) (xs:List Value) (hown:w.ownsRow base e size v n xs) (c:Nat):(Builtin.append_ #[t,t] ty #[v,.slice none 0 c]).run P w= .ok v w:=by
 rcases hown.2 with ⟨rfl,rfl⟩|⟨g,cap,cur,rfl,_,_,hnc,_⟩
 ·simp [Builtin.append_,run_underlying ht,sizeOf,typeInfo,hi,Builtin.lenOf,Builtin.firstCells]
 ·simp [Builtin.append_,run_underlying ht,sizeOf,typeInfo,hi,Builtin.lenOf,Builtin.firstCells,hnc,storeCells]
theorem conv_bs {src e dst:TypeId} (hs:P.underlying src=some (.slice e)) (he:P.underlying e=some (.int .u8)) (hd:P.underlying dst=some .string) {A:Option Addr} {n c:Nat} {bs:List UInt8} (h:Rep.u8.sl w S A n c bs) :
  (convert src dst (.slice A n c)).run P w= .ok (.string ⟨bs.toArray⟩) w:=by
 rcases Nat.eq_zero_or_pos n with hn|hn
 ·have:bs=[]:=List.eq_nil_of_length_eq_zero (by rw [h.1,hn])
  subst this
  subst hn
  cases A with
  | none=>exact run_convert_bytes_nil w src e hs he 0 c dst hd
  | some ad =>
   rw [run_convert_bytes_string w src dst e _ 0 c hs he hd,run_bytesToString w _ 0 c [] (by simp [loadCells,loadCellsFrom])]
   rfl
 ·obtain ⟨b,o,rfl,hb,hr⟩:=h.2.2.2 hn
  have hl:=h.1
  rw [run_convert_bytes_arg w src e hs he b o n c (bs.map fun x=>(x.toNat:Int)) (by simpa using hl) (fun i hi=>by
   obtain ⟨es,he,hc⟩:=hr i bs[i] (List.getElem?_eq_getElem (by omega))
   obtain rfl:es=[.int .u8 (bs[i].toNat:Int)]:=he
   have:=hc 0 _ rfl
   simp only [Rep.u8,Nat.mul_one,Nat.add_zero] at this
   rw [this]
   simp [List.getD,show i<bs.length by omega]) dst hd]
  congr 2
  simp only [strOfNums,List.map_map]
  congr 2
  refine (List.map_congr_left fun x _=>?_).trans (List.map_id bs)
  simp
end
section
variable {α:Type} {w w':World} {S:Nat→Prop}
theorem box_set {g j:Nat} {cs:Array Value} {t:TypeId} (h:w.heap[g]?=some (.cells cs t (0,0))) (u:Value):(w.setCell ⟨g,j,none⟩ u).heap[g]?=some (.cells (cs.setIfInBounds j u) t (0,0)):=by
 simp [World.setCell,Array.getElem?_modify,h]
theorem box_far {g:Nat} {x:Obj} {p:Addr} (h:w.heap[g]?=some x) (hp:g≠p.block) (u:Value):(w.setCell p u).heap[g]?=some x:=(Below.heap_setCell w p u g hp).trans h
end
section
variable {α:Type} {P:Program} {w:World} {ops:Array Oper} {rest:List Oper} {o:Oper} {a:Act} {Q:Exit→Act→World→Prop}
theorem conv_sb {src dst e:TypeId} (hs:P.underlying src=some .string) (hd:P.underlying dst=some (.slice e)) (he:P.underlying e=some (.int .u8)) (w:World) (xs:List UInt8) (hx:xs.length≤9223372036854775807) :
  ∃ A c w',(convert src dst (.string ⟨xs.toArray⟩)).run P w= .ok (.slice A xs.length c) w'∧Rep.u8.sl w' (fun b=>b=w.heap.size) A xs.length c xs∧Below w.heap.size w w':=by
 have hl:ByteArray.size ⟨xs.toArray⟩=xs.length:=by simp [ByteArray.size]
 have hr:=Lib.run_convert_string_bytes (P:=P) w src dst e ⟨xs.toArray⟩ hs hd he
 rw [hl] at hr
 refine ⟨_,_,_,hr,⟨rfl,grownCap_ge _ _ _ _,by have:=grownCap_le_maxLen w xs.length 0 e (by simpa [maxLen] using hx);simpa [maxLen] using this,fun hn=>⟨_,0,rfl,rfl,fun i x hi=>⟨[.int .u8 (x.toNat:Int)],rfl,fun j u hu=>?_⟩⟩⟩,?_⟩
 ·have hil:i<xs.length:=(List.getElem?_eq_some_iff.1 hi).1
  cases j with
  | zero =>
   simp at hu
   subst hu
   have:=Lib.bytesWorld_cell w e ⟨xs.toArray⟩ i (by rw [hl];exact hil)
   rw [show Rep.u8.size=1 from rfl,Nat.mul_one,Nat.zero_add,Nat.add_zero,this]
   simp [List.getD,hi]
  | succ j=>simp at hu
 ·refine ⟨?_,?_,?_,by rw [Lib.bytesWorld_size];omega,fun k hk=>Lib.bytesWorld_at_old w e _ k hk⟩
  all_goals
   unfold Lib.bytesWorld World.freeze
   split<;>rfl
end
inductive D where
 | v (x:Value)
 | sl (n:Nat) (cs:List D)
 | ptr (cs:List D) (off:Nat)
 | fn (f:FuncId) (caps:List D)
inductive RD (w:World) (S:Nat→Prop):D→Value→Prop where
 | v (x:Value) (h:x.oneCell'=true):RD w S (.v x) x
 | nil (A:Option Addr) (c:Nat) (h:c≤9223372036854775807):RD w S (.sl 0 []) (.slice A 0 c)
 | sl (n c b o:Nat) (cs:List D) (us:Nat→Value) (hn:n≤c) (hc:c≤9223372036854775807) (hb:S b)
   (hw: ∀ i x,cs[i]?=some x→w.cell? ⟨b,o+i,none⟩=some (us i)) (h: ∀ i x,cs[i]?=some x→RD w S x (us i)):RD w S (.sl n cs) (.slice (some ⟨b,o,none⟩) n c)
 | ptr (off b o:Nat) (cs:List D) (us:Nat→Value) (hb:S b)
   (hw: ∀ i x,cs[i]?=some x→w.cell? ⟨b,o+i,none⟩=some (us i)) (h: ∀ i x,cs[i]?=some x→RD w S x (us i)):RD w S (.ptr cs off) (.pointer (some ⟨b,o+off,none⟩))
 | fn (f:FuncId) (caps:List D) (us:List Value) (hl:us.length=caps.length) (h: ∀ (i:Nat) x u,caps[i]?=some x→us[i]?=some u→RD w S x u):RD w S (.fn f caps) (.func (.func f) #[] us.toArray)
theorem RD.one {w:World} {S:Nat→Prop} {x:D} {u:Value} (h:RD w S x u):u.oneCell'=true:=by
 cases h<;>first|assumption|rfl
theorem RD.mono {w w':World} {S S':Nat→Prop} (hS: ∀ b,S b→S' b) (hc: ∀ p:Addr,S p.block→w'.cell? p=w.cell? p) {x:D} {u:Value} (h:RD w S x u):RD w' S' x u:=by
 induction h with
 | v x h=>exact .v x h
 | nil A c h=>exact .nil A c h
 | sl n c b o cs us hn hc' hb hw _ ih=>exact .sl n c b o cs us hn hc' (hS _ hb) (fun i x hx=>by rw [hc _ hb];exact hw i x hx) ih
 | ptr off b o cs us hb hw _ ih=>exact .ptr off b o cs us (hS _ hb) (fun i x hx=>by rw [hc _ hb];exact hw i x hx) ih
 | fn f caps us hl _ ih=>exact .fn f caps us hl ih
inductive Cap where
 | grow|ex (k:Nat)|any
inductive C where
 | d (x:D)
 | nil
 | ptr (r off:Nat)
 | row (r sz off n:Nat) (cap:Cap)
 | fn (f:FuncId) (caps:List (Nat × Nat))
inductive AV where
 | c (x:C)
 | agg (cs:List C)
inductive SV where
 | bot|undef
 | a (x:AV)
 | tup (l:List AV)
structure AObj where
 ty:TypeId
 cs:List C
 ex:Bool
 fr:Bool
structure NM where
 g:Nat→Nat
 N:Nat→Nat
 vd:Nat→Bool
abbrev Hp:=Nat→Option (Option AObj)
def Hp.dom (H:Hp) (r:Nat):Prop:=H r≠none
def Hp.own (H:Hp) (r:Nat):Prop:= ∃ o,H r=some (some o)∧o.fr=false
theorem Hp.own.dom {H:Hp} {r:Nat} (h:H.own r):H.dom r:=by
 obtain ⟨o,h,_⟩:=h
 simp [Hp.dom,h]
def Cap.ok (cap:Cap) (A:Option Addr) (g N:Nat) (vd:Bool) (sz off n c:Nat):Prop:=
 match cap with
 | .grow=>off=0∧((vd=true∧A=none∧n=0∧c=0)∨(vd=false∧A=some ⟨g,0,none⟩∧c*sz=N))
 | .ex k=>c=k∧(0<k∨off=0→vd=false∧A=some ⟨g,off,none⟩)
 | .any=>0<n→vd=false∧A=some ⟨g,off,none⟩
def RC (w:World) (S:Nat→Prop) (m:NM) (dom:Nat→Prop):C→Value→Prop
 | .d x,u=>RD w S x u
 | .nil,u=>u= .slice none 0 0
 | .ptr r off,u=>dom r∧m.vd r=false∧u= .pointer (some ⟨m.g r,off,none⟩)
 | .row r sz off n cap,u=>dom r∧ ∃ A c,u= .slice A n c∧n≤c∧c≤9223372036854775807∧cap.ok A (m.g r) (m.N r) (m.vd r) sz off n c
 | .fn f caps,u=>u= .func (.func f) #[] ((caps.map fun p=>Value.pointer (some ⟨m.g p.1,p.2,none⟩)).toArray)∧ ∀ p∈caps,dom p.1∧m.vd p.1=false
def RA (w:World) (S:Nat→Prop) (m:NM) (dom:Nat→Prop):AV→Value→Prop
 | .c x,u=>RC w S m dom x u
 | .agg cs,u=> ∃ us:List Value,u= .agg us.toArray∧us.length=cs.length∧ ∀ (i:Nat) x v,cs[i]?=some x→us[i]?=some v→RC w S m dom x v
def RS (w:World) (S:Nat→Prop) (m:NM) (dom:Nat→Prop):SV→Value→Prop
 | .bot,_=>True
 | .undef,u=>u=Go.undef
 | .a x,u=>RA w S m dom x u
 | .tup l,u=> ∃ us:List Value,u= .tuple us.toArray∧us.length=l.length∧ ∀ (i:Nat) x v,l[i]?=some x→us[i]?=some v→RA w S m dom x v
section
variable {w w':World} {S S':Nat→Prop} {m m':NM} {dom dom':Nat→Prop}
theorem RC.one {x:C} {u:Value} (h:RC w S m dom x u):u.oneCell'=true:=by
 cases x with
 | d x=>exact RD.one h
 | nil=>rw [show u=_ from h];rfl
 | ptr r off=>rw [h.2.2];rfl
 | row r sz off n cap=>obtain ⟨_,A,c,rfl,_⟩:=h;rfl
 | fn f caps=>rw [h.1];rfl
structure Keep (w w':World) (S S':Nat→Prop) (m m':NM) (dom dom':Nat→Prop):Prop where
 vis: ∀ b,S b→S' b
 cell: ∀ p:Addr,S p.block→w'.cell? p=w.cell? p
 dm: ∀ r,dom r→dom' r
 g: ∀ r,dom r→m'.g r=m.g r
 N: ∀ r,dom r→m'.N r=m.N r
 vd: ∀ r,dom r→m'.vd r=m.vd r
theorem Keep.rc (k:Keep w w' S S' m m' dom dom') {x:C} {u:Value} (h:RC w S m dom x u):RC w' S' m' dom' x u:=by
 cases x with
 | d x=>exact RD.mono k.vis k.cell h
 | nil=>exact h
 | ptr r off=>exact ⟨k.dm _ h.1,by rw [k.vd _ h.1];exact h.2.1,by rw [k.g _ h.1];exact h.2.2⟩
 | row r sz off n cap =>
  obtain ⟨hd,A,c,rfl,h1,h2,h3⟩:=h
  exact ⟨k.dm _ hd,A,c,rfl,h1,h2,by rw [k.g _ hd,k.N _ hd,k.vd _ hd];exact h3⟩
 | fn f caps =>
  refine ⟨?_,fun p hp=>⟨k.dm _ (h.2 p hp).1,by rw [k.vd _ (h.2 p hp).1];exact (h.2 p hp).2⟩⟩
  rw [h.1]
  congr 2
  exact List.map_congr_left fun p hp=>by rw [k.g _ (h.2 p hp).1]
theorem Keep.ra (k:Keep w w' S S' m m' dom dom') {x:AV} {u:Value} (h:RA w S m dom x u):RA w' S' m' dom' x u:=by
 cases x with
 | c x=>exact k.rc h
 | agg cs =>
  obtain ⟨us,rfl,hl,h⟩:=h
  exact ⟨us,rfl,hl,fun i x v hx hv=>k.rc (h i x v hx hv)⟩
theorem Keep.rs (k:Keep w w' S S' m m' dom dom') {x:SV} {u:Value} (h:RS w S m dom x u):RS w' S' m' dom' x u:=by
 cases x with
 | bot=>trivial
 | undef=>exact h
 | a x=>exact k.ra h
 | tup l =>
  obtain ⟨us,rfl,hl,h⟩:=h
  exact ⟨us,rfl,hl,fun i x v hx hv=>k.ra (h i x v hx hv)⟩
end
structure Ctx (G:Nat→Option (List D)) where
 w0:World
 S:Nat→Prop
 B:Nat→Prop
def Vis {G:Nat→Option (List D)} (C:Ctx G) (m:NM) (H:Hp) (w:World) (b:Nat):Prop:=(C.S b∨C.B b∨C.w0.heap.size≤b)∧b<w.heap.size∧ ∀ r,H.own r→m.vd r=false→m.g r≠b
structure OR (w:World) (S:Nat→Prop) (m:NM) (dom:Nat→Prop) (r:Nat) (o:AObj):Prop where
 row:(m.vd r=true∧o.cs=[]∧o.ex=false)∨m.vd r=false∧ ∃ arr:Array Value,w.heap[m.g r]?=some (.cells arr o.ty (0,0))∧arr.size=m.N r∧(o.ex=true→arr.size=o.cs.length)∧o.cs.length≤arr.size∧ ∀ (i:Nat) x,o.cs[i]?=some x→ ∃ u,arr[i]?=some u∧RC w S m dom x u
structure Ev (B:Nat→Prop) (w w':World):Prop where
 os:w'.os=w.os
 tape:w'.tape=w.tape
 output:w'.output=w.output
 size:w.heap.size≤w'.heap.size
 block: ∀ k,k<w.heap.size→ ¬ B k→w'.heap[k]?=w.heap[k]?
theorem Ev.refl (B:Nat→Prop) (w:World):Ev B w w:=⟨rfl,rfl,rfl,Nat.le_refl _,fun _ _ _=>rfl⟩
theorem Ev.trans {B B':Nat→Prop} {a b c:World} (h:Ev B a b) (k:Ev B' b c) (hB: ∀ i,i<a.heap.size→B' i→B i):Ev B a c:=
 ⟨k.os.trans h.os,k.tape.trans h.tape,k.output.trans h.output,Nat.le_trans h.size k.size,fun i hi hn =>
  (k.block i (Nat.lt_of_lt_of_le hi h.size) fun hb=>hn (hB i hi hb)).trans (h.block i hi hn)⟩
def Tab (w:World) (S:Nat→Prop) (g:Nat) (cs:List D):Prop:=
 RD w S (.ptr cs 0) (.pointer (some ⟨g,0,none⟩))∧S g∧ ∃ arr ty fz,w.heap[g]?=some (.cells arr ty fz)∧arr.size=cs.length
theorem Tab.mono {w w':World} {S S':Nat→Prop} {g:Nat} {cs:List D} (h:Tab w S g cs) (hS: ∀ b,S b→S' b) (hb: ∀ b,S b→w'.heap[b]?=w.heap[b]?):Tab w' S' g cs:=
 ⟨RD.mono hS (fun p hp=>World.cell?_of_block (hb _ hp)) h.1,hS g h.2.1,by rw [hb g h.2.1];exact h.2.2⟩
structure HRel {G:Nat→Option (List D)} (C:Ctx G) (m:NM) (H:Hp) (w:World):Prop where
 obj: ∀ r o,H r=some (some o)→OR w (Vis C m H w) m H.dom r o
 dist: ∀ r r',H.own r→H.own r'→m.vd r=false→m.vd r'=false→m.g r=m.g r'→r=r'
 loc: ∀ r,H.own r→m.vd r=false→C.B (m.g r)∨C.w0.heap.size≤m.g r
 fz: ∀ r o,H r=some (some o)→o.fr=true→m.vd r=false→Vis C m H w (m.g r)
 ev:Ev C.B C.w0 w
 glob: ∀ g cs,G g=some cs→Tab w (Vis C m H w) g cs
theorem OR.lt {w:World} {S:Nat→Prop} {m:NM} {dom:Nat→Prop} {r:Nat} {o:AObj} (h:OR w S m dom r o) (hv:m.vd r=false):m.g r<w.heap.size:=by
 rcases h.row with ⟨h,_⟩|⟨_,arr,hh,_⟩
 ·rw [hv] at h
  cases h
 ·exact (Array.getElem?_eq_some_iff.1 hh).1
section
variable {G:Nat→Option (List D)} {C:Ctx G} {m m':NM} {H H':Hp} {w w':World}
theorem HRel.lt (h:HRel C m H w) {r:Nat} (hr:H.own r) (hv:m.vd r=false):m.g r<w.heap.size:=by
 obtain ⟨o,ho,_⟩:=hr
 exact (h.obj r o ho).lt hv
structure Turn {G:Nat→Option (List D)} (C:Ctx G) (m m':NM) (H H':Hp) (w w':World) (U:Nat→Prop):Prop where
 same: ∀ r,¬ U r→H' r=H r
 dm: ∀ r,H.dom r→H'.dom r
 g: ∀ r,H.dom r→m'.g r=m.g r
 N: ∀ r,H.dom r→m'.N r=m.N r
 vd: ∀ r,H.dom r→m'.vd r=m.vd r
 ev:Ev (fun k=> ∃ r,U r∧H.own r∧m.vd r=false∧m.g r=k) w w'
 loc: ∀ r,U r→H'.own r→m'.vd r=false→(∃ r2,U r2∧H.own r2∧m.vd r2=false∧m.g r2=m'.g r)∨w.heap.size≤m'.g r
 dist: ∀ r r',U r→U r'→H'.own r→H'.own r'→m'.vd r=false→m'.vd r'=false→m'.g r=m'.g r'→r=r'
theorem Turn.back {U:Nat→Prop} (t:Turn C m m' H H' w w' U) {r:Nat} (hU: ¬ U r) (h:H'.own r):H.own r:=by
 obtain ⟨o,h1,h2⟩:=h
 exact ⟨o,by rw [← t.same r hU];exact h1,h2⟩
theorem Turn.vis {U:Nat→Prop} (t:Turn C m m' H H' w w' U) (h:HRel C m H w) {b:Nat} (hb:Vis C m H w b):Vis C m' H' w' b:=by
 refine ⟨hb.1,Nat.lt_of_lt_of_le hb.2.1 t.ev.size,fun r hr hv e=>?_⟩
 by_cases hU:U r
 ·rcases t.loc r hU hr hv with ⟨r2,_,ho,hv2,he⟩|hlt
  ·exact hb.2.2 r2 ho hv2 (he.trans e)
  ·have:=hb.2.1
   omega
 ·have ho:=t.back hU hr
  exact hb.2.2 r ho (by rw [← t.vd r ho.dom];exact hv) (by rw [← t.g r ho.dom];exact e)
theorem Turn.block {U:Nat→Prop} (t:Turn C m m' H H' w w' U) {b:Nat} (hb:Vis C m H w b):w'.heap[b]?=w.heap[b]?:=
 t.ev.block b hb.2.1 fun ⟨r,_,ho,hv,e⟩=>hb.2.2 r ho hv e
theorem Turn.keep {U:Nat→Prop} (t:Turn C m m' H H' w w' U) (h:HRel C m H w):Keep w w' (Vis C m H w) (Vis C m' H' w') m m' H.dom H'.dom:=
 ⟨fun b hb=>t.vis h hb,fun p hp=>World.cell?_of_block (t.block hp),t.dm,t.g,t.N,t.vd⟩
theorem Turn.rel {U:Nat→Prop} (t:Turn C m m' H H' w w' U) (h:HRel C m H w)
  (hobj: ∀ r o,U r→H' r=some (some o)→OR w' (Vis C m' H' w') m' H'.dom r o) (hfz: ∀ r o,U r→H' r=some (some o)→o.fr=true→m'.vd r=false→Vis C m' H' w' (m'.g r)):HRel C m' H' w':=by
 have k:=t.keep h
 refine ⟨fun r o ho=>?_,fun r r' hr hr' hv hv' e=>?_,fun r hr hv=>?_,fun r o ho hf hv=>?_,?_,fun g cs hg=>(h.glob g cs hg).mono k.vis (fun b hb=>t.block hb)⟩
 ·by_cases hU:U r
  ·exact hobj r o hU ho
  ·rw [t.same r hU] at ho
   have hd:H.dom r:=by simp [Hp.dom,ho]
   refine ⟨?_⟩
   rcases (h.obj r o ho).row with ⟨h1,h2⟩|⟨hv,arr,h1,h2,h3,h4,h5⟩
   ·exact .inl ⟨by rw [t.vd r hd];exact h1,h2⟩
   ·refine .inr ⟨by rw [t.vd r hd];exact hv,?_⟩
    have hb:w'.heap[m.g r]?=w.heap[m.g r]?:=by
     cases hf:o.fr with
     | true=>exact t.block (h.fz r o ho hf hv)
     | false =>
      refine t.ev.block _ ((h.obj r o ho).lt hv) fun ⟨r2,hU2,ho2,hv2,e⟩=>hU ?_
      rw [← h.dist r2 r ho2 ⟨o,ho,hf⟩ hv2 hv e]
      exact hU2
    exact ⟨arr,by rw [t.g r hd,hb];exact h1,by rw [t.N r hd];exact h2,h3,h4,fun i x hx=>by
     obtain ⟨u,hu,hr⟩:=h5 i x hx
     exact ⟨u,hu,k.rc hr⟩⟩
 ·by_cases hU:U r
  ·by_cases hU':U r'
   ·exact t.dist r r' hU hU' hr hr' hv hv' e
   ·exfalso
    have ho':=t.back hU' hr'
    rw [t.g r' ho'.dom] at e
    rw [t.vd r' ho'.dom] at hv'
    rcases t.loc r hU hr hv with ⟨r2,hU2,ho2,hv2,e2⟩|hlt
    ·exact hU' (by rw [← h.dist r2 r' ho2 ho' hv2 hv' (e2.trans e)];exact hU2)
    ·have:=h.lt ho' hv'
     omega
  ·have ho:=t.back hU hr
   rw [t.g r ho.dom] at e
   rw [t.vd r ho.dom] at hv
   by_cases hU':U r'
   ·exfalso
    rcases t.loc r' hU' hr' hv' with ⟨r2,hU2,ho2,hv2,e2⟩|hlt
    ·exact hU (by rw [← h.dist r2 r ho2 ho hv2 hv (e2.trans e.symm)];exact hU2)
    ·have:=h.lt ho hv
     omega
   ·have ho':=t.back hU' hr'
    rw [t.g r' ho'.dom] at e
    rw [t.vd r' ho'.dom] at hv'
    exact h.dist r r' ho ho' hv hv' e
 ·by_cases hU:U r
  ·rcases t.loc r hU hr hv with ⟨r2,_,ho2,hv2,e⟩|hlt
   ·rw [← e]
    exact h.loc r2 ho2 hv2
   ·exact .inr (Nat.le_trans h.ev.size hlt)
  ·have ho:=t.back hU hr
   rw [t.g r ho.dom]
   exact h.loc r ho (by rw [← t.vd r ho.dom];exact hv)
 ·by_cases hU:U r
  ·exact hfz r o hU ho hf hv
  ·rw [t.same r hU] at ho
   have hd:H.dom r:=by simp [Hp.dom,ho]
   rw [t.g r hd]
   rw [t.vd r hd] at hv
   exact k.vis _ (h.fz r o ho hf hv)
 ·refine h.ev.trans t.ev fun i hi ⟨r,_,ho,hv,e⟩=>?_
  rcases h.loc r ho hv with hB|hlt
  ·rw [← e]
   exact hB
  ·omega
end
def upd {α:Type} (f:Nat→α) (k:Nat) (x:α):Nat→α:=fun j=>if j=k then x else f j
theorem upd_same {α:Type} {f:Nat→α} {k:Nat} {x:α}:upd f k x k=x:=by simp [upd]
theorem upd_ne {α:Type} {f:Nat→α} {k j:Nat} {x:α} (h:j≠k):upd f k x j=f j:=by simp [upd,h]
theorem upd_comm {α:Type} {f:Nat→α} {k j:Nat} {x y:α} (h:j≠k):upd (upd f k x) j y=upd (upd f j y) k x:=by
 funext i
 simp only [upd]
 split<;>split<;>first|rfl|(exfalso;omega)
structure FSt where
 sl:Nat→SV
 ob:Hp
def updO (H:Hp):List (Nat × Option AObj)→Hp
 | []=>H
 | (r,o)::l=>updO (upd H r (some o)) l
def putS (f:Nat→SV) (dst:Option Nat) (v:SV):Nat→SV:=
 match dst with
 | some d=>upd f d v
 | none=>f
def FSt.app (s:FSt) (dst:Option Nat) (v:SV) (U:List (Nat × Option AObj)):FSt:=⟨putS s.sl dst v,updO s.ob U⟩
structure Fr where
 n:Nat
 m0:NM
 d0:Nat→Prop
structure Rel {G:Nat→Option (List D)} (K:Ctx G) (F:Fr) (m:NM) (s:FSt) (a:Act) (w:World):Prop where
 size:a.tmps.size=F.n
 defers:a.defers=[]
 slot: ∀ t,RS w (Vis K m s.ob w) m s.ob.dom (s.sl t) (a.tmps.getD t undef)
 heap:HRel K m s.ob w
 names: ∀ r,F.d0 r→s.ob r≠none∧m.g r=F.m0.g r∧m.N r=F.m0.N r∧m.vd r=F.m0.vd r
def Lift {G:Nat→Option (List D)} (K:Ctx G) (F:Fr) (Q:Exit→FSt→Prop):Exit→Act→World→Prop:=fun e a w=> ∃ m s,Rel K F m s a w∧Q e s
def Sound {G:Nat→Option (List D)} (P:Program) (K:Ctx G) (F:Fr) (c:Code) (Q:Exit→FSt→Prop) (s:FSt):Prop:= ∀ m a w,Rel K F m s a w→c.wp P (Lift K F Q) a w
def Then (next:FSt→Prop) (Q:Exit→FSt→Prop):Exit→FSt→Prop
 | .normal,s=>next s
 | e,s=>Q e s
def InBlock (id:Nat) (Q:Exit→FSt→Prop):Exit→FSt→Prop
 | .exit id',s=>if id'=id then Q .normal s else Q (.exit id') s
 | e,s=>Q e s
section
variable {G:Nat→Option (List D)} {P:Program} {K:Ctx G} {F:Fr} {Q Q':Exit→FSt→Prop} {s:FSt}
theorem zG (h:Q .normal s):Sound P K F .skip Q s:=fun m a w hr=>wp_skip ⟨m,s,hr,h⟩
theorem zF (h:Q .ret s):Sound P K F .ret Q s:=fun m a w hr=>wp_ret ⟨m,s,hr,h⟩
theorem zH {id:Nat} (h:Q (.exit id) s):Sound P K F (.exit id) Q s:=fun m a w hr=>wp_exit ⟨m,s,hr,h⟩
theorem sound_seq {x y:Code} (h:Sound P K F x (Then (Sound P K F y Q) Q) s):Sound P K F (.seq x y) Q s:=fun m a w hr =>
 wp_seq (wp_mono (h m a w hr) fun e a' w' ⟨m',s',h1,h2⟩=>by
  cases e with
  | normal=>exact h2 m' a' w' h1
  | _=>exact ⟨m',s',h1,h2⟩)
theorem zD {id:Nat} {c:Code} (h:Sound P K F c (InBlock id Q) s):Sound P K F (.block id c) Q s:=fun m a w hr =>
 wp_block (wp_mono (h m a w hr) fun e a' w' ⟨m',s',h1,h2⟩=>by
  cases e with
  | exit id' =>
   simp only [InBlock] at h2
   simp only [Exit.inBlock]
   split
   ·rename_i he
    rw [if_pos he] at h2
    exact ⟨m',s',h1,h2⟩
   ·rename_i he
    rw [if_neg he] at h2
    exact ⟨m',s',h1,h2⟩
  | _=>exact ⟨m',s',h1,h2⟩)
def cvC:Value→C
 | .slice none 0 0=> .nil
 | v=> .d (.v v)
def cvS:Value→SV
 | .agg us=> .a (.agg (us.toList.map cvC))
 | .tuple _=> .bot
 | v=> .a (.c (cvC v))
def evl (G:Nat→Option (List D)) (f:Nat→SV):Operand→SV
 | .tmp t=>f t
 | .const v=>cvS v
 | .global g=>match G g with
  | some cs=> .a (.c (.d (.ptr cs 0)))
  | none=> .bot
 | .func f=> .a (.c (.d (.v (.func (.func f) #[] #[]))))
def constOk:Operand→Bool
 | .const (.agg us)=>us.all (·.oneCell')
 | _=>true
theorem cvC_ok {w:World} {S:Nat→Prop} {m:NM} {dom:Nat→Prop} {v:Value} (h:v.oneCell'=true):RC w S m dom (cvC v) v:=by
 unfold cvC
 split
 ·rfl
 ·exact .v _ h
theorem evl_ok {m:NM} {a:Act} {w:World} (h:Rel K F m s a w) (x:Operand) (hc:constOk x=true):RS w (Vis K m s.ob w) m s.ob.dom (evl G s.sl x) (a.eval x):=by
 cases x with
 | tmp t=>exact h.slot t
 | const v =>
  show RS w _ m _ (cvS v) v
  unfold cvS
  split
  ·rename_i us
   refine ⟨us.toList,by simp,by simp,fun i x v hx hv=>?_⟩
   simp only [List.getElem?_map] at hx
   rw [hv] at hx
   simp at hx
   subst hx
   refine cvC_ok ?_
   simp only [constOk,Array.all_eq_true'] at hc
   exact hc _ (by rw [← Array.mem_toList_iff];exact List.mem_of_getElem? hv)
  ·trivial
  ·rename_i h1 h2
   exact cvC_ok (by cases v<;>first|rfl|exact absurd rfl (h1 _)|exact absurd rfl (h2 _))
 | global g =>
  show RS w _ m _ (match G g with|some cs=>_|none=>_) _
  cases hg:G g with
  | none=>trivial
  | some cs=>exact (h.heap.glob g cs hg).1
 | func f=>exact .v _ rfl
theorem sound_cond {c:Operand} {x y:Code} {t:Bool} (hc:evl G s.sl c= .a (.c (.d (.v (.bool t))))) (h:Sound P K F (if t then x else y) Q s):Sound P K F (.cond c x y) Q s:=fun m a w hr=>by
 have hcc:constOk c=true:=by
  cases c with
  | const v =>
   cases v<;>first|rfl|skip
   rename_i us
   simp only [evl,cvS] at hc
   cases hc
  | _=>rfl
 have h1:=evl_ok hr c hcc
 rw [hc] at h1
 have:a.eval c= .bool t:=by
  generalize a.eval c=u at h1
  have h2:RD _ _ (.v (.bool t)) u:=h1
  cases h2
  rfl
 exact wp_cond this (h m a w hr)
def C.names:C→List Nat
 | .ptr r _| .row r _ _ _ _=>[r]
 | .fn _ caps=>caps.map (·.1)
 | _=>[]
def AV.names:AV→List Nat
 | .c x=>x.names
 | .agg cs=>cs.flatMap C.names
def SV.names:SV→List Nat
 | .a x=>x.names
 | .tup l=>l.flatMap AV.names
 | _=>[]
structure LSt where
 sl:List (Nat × SV)
 ob:List (Nat × Option AObj)
def lkS:List (Nat × SV)→Nat→SV
 | [],_=> .bot
 | (k,v)::l,t=>if t=k then v else lkS l t
def lkO:List (Nat × Option AObj)→Hp
 | [],_=>none
 | (k,v)::l,t=>if t=k then some v else lkO l t
def LSt.st (S:LSt):FSt:=⟨lkS S.sl,lkO S.ob⟩
def objNames:Option AObj→List Nat
 | some o=>o.cs.flatMap C.names
 | none=>[]
theorem lkS_mem {l:List (Nat × SV)} {t:Nat}:lkS l t= .bot∨(t,lkS l t)∈l:=by
 induction l with
 | nil=>exact .inl rfl
 | cons p l ih =>
  obtain ⟨k,v⟩:=p
  simp only [lkS]
  split
  ·rename_i h
   subst h
   exact .inr (List.mem_cons_self ..)
  ·exact ih.imp id (List.mem_cons_of_mem _)
theorem lkO_mem {l:List (Nat × Option AObj)} {t:Nat} {o:Option AObj} (h:lkO l t=some o):(t,o)∈l:=by
 induction l with
 | nil=>cases h
 | cons p l ih =>
  obtain ⟨k,v⟩:=p
  simp only [lkO] at h
  split at h
  ·rename_i e
   subst e
   injection h with h
   subst h
   exact List.mem_cons_self ..
  ·exact List.mem_cons_of_mem _ (ih h)
theorem RC.fewer {w:World} {S:Nat→Prop} {m:NM} {dom dom':Nat→Prop} {x:C} {u:Value} (h:RC w S m dom x u) (hn: ∀ r∈x.names,dom' r):RC w S m dom' x u:=by
 cases x with
 | d x=>exact h
 | nil=>exact h
 | ptr r off=>exact ⟨hn r (by simp [C.names]),h.2⟩
 | row r sz off n cap=>exact ⟨hn r (by simp [C.names]),h.2⟩
 | fn f caps=>exact ⟨h.1,fun p hp=>⟨hn _ (by simp only [C.names];exact List.mem_map_of_mem hp),(h.2 p hp).2⟩⟩
theorem RA.fewer {w:World} {S:Nat→Prop} {m:NM} {dom dom':Nat→Prop} {x:AV} {u:Value} (h:RA w S m dom x u) (hn: ∀ r∈x.names,dom' r):RA w S m dom' x u:=by
 cases x with
 | c x=>exact RC.fewer h hn
 | agg cs =>
  obtain ⟨us,e,hl,h⟩:=h
  exact ⟨us,e,hl,fun i x v hx hv=>RC.fewer (h i x v hx hv) fun r hr=>hn r (by simp only [AV.names];exact List.mem_flatMap.2 ⟨x,List.mem_of_getElem? hx,hr⟩)⟩
theorem RS.fewer {w:World} {S:Nat→Prop} {m:NM} {dom dom':Nat→Prop} {x:SV} {u:Value} (h:RS w S m dom x u) (hn: ∀ r∈x.names,dom' r):RS w S m dom' x u:=by
 cases x with
 | bot=>trivial
 | undef=>exact h
 | a x=>exact RA.fewer h hn
 | tup l =>
  obtain ⟨us,e,hl,h⟩:=h
  exact ⟨us,e,hl,fun i x v hx hv=>RA.fewer (h i x v hx hv) fun r hr=>hn r (by simp only [SV.names];exact List.mem_flatMap.2 ⟨x,List.mem_of_getElem? hx,hr⟩)⟩
theorem Keep.more {w:World} {S S':Nat→Prop} {m:NM} {dom:Nat→Prop} (hS: ∀ b,S b→S' b):Keep w w S S' m m dom dom:=⟨hS,fun _ _=>rfl,fun _ h=>h,fun _ _=>rfl,fun _ _=>rfl,fun _ _=>rfl⟩
end
inductive DV where
 | c (x:D)
 | g (cs:List D)
def DV.av:DV→AV
 | .c x=> .c (.d x)
 | .g cs=> .agg (cs.map C.d)
inductive DR where
 | one (x:DV)
 | many (l:List DV)
 | pan (v:Value)
 | obj (r:Nat) (v:SV) (o:AObj)
def DR.plain:DR→Bool
 | .obj .. =>false
 | _=>true
def DRd (w:World) (S:Nat→Prop):DV→Value→Prop
 | .c x,u=>RD w S x u
 | .g cs,u=> ∃ us:List Value,u= .agg us.toArray∧us.length=cs.length∧ ∀ (i:Nat) x v,cs[i]?=some x→us[i]?=some v→RD w S x v
def DArgs (w:World) (S:Nat→Prop) (args:List DV) (vs:List Value):Prop:=vs.length=args.length∧ ∀ (i:Nat) x v,args[i]?=some x→vs[i]?=some v→DRd w S x v
def DEnd (w:World) (S:Nat→Prop):DR→Ending→Prop
 | .one x,e=> ∃ u,e= .returned u∧DRd w S x u
 | .many l,e=> ∃ us:List Value,e= .returned (.tuple us.toArray)∧DArgs w S l us
 | .pan v,e=>e= .panicked [{ v,recovered:=false }]
 | .obj ..,_=>False
def Tables (G:Nat→Option (List D)) (w:World) (S:Nat→Prop):Prop:= ∀ g cs,G g=some cs→Tab w S g cs
def Spec0 (P:Program) (G:Nat→Option (List D)) (f:FuncId) (args:List DV) (out:DR):Prop:=
 ∀ (w:World) (S:Nat→Prop) (vs:List Value),(∀ b,S b→b<w.heap.size)→Tables G w S→DArgs w S args vs →
  Calls P f vs.toArray w fun e w'=>Ev (fun _=>False) w w'∧DEnd w' (fun b=>S b∨(w.heap.size≤b∧b<w'.heap.size)) out e
inductive OutO where
 | ret (v:SV) (H:List (Nat × Option AObj))
 | pan (v:Value) (H:List (Nat × Option AObj))
def OutO.hp:OutO→List (Nat × Option AObj)
 | .ret _ H=>H
 | .pan _ H=>H
def someO (H:List (Nat × AObj)):List (Nat × Option AObj):=H.map fun p=>(p.1,some p.2)
def SpecO (P:Program) (G:Nat→Option (List D)) (f:FuncId) (args:List AV) (H:List (Nat × AObj)) (out:OutO):Prop:=
 ∀ (K:Ctx G) (m:NM) (vs:List Value),(∀ b,K.S b→b<K.w0.heap.size)→(∀ b,K.B b→ ∃ r,(lkO (someO H)).own r∧m.vd r=false∧m.g r=b)→HRel K m (lkO (someO H)) K.w0→vs.length=args.length →
  (∀ (i:Nat) x v,args[i]?=some x→vs[i]?=some v→RA K.w0 (Vis K m (lkO (someO H)) K.w0) m (lkO (someO H)).dom x v) →
  Calls P f vs.toArray K.w0 fun e w'=> ∃ m',HRel K m' (lkO out.hp) w'∧(∀ r,(lkO (someO H)).dom r→(lkO out.hp).dom r∧m'.g r=m.g r∧m'.N r=m.N r∧m'.vd r=m.vd r) ∧
   match out with
   | .ret v H'=> ∃ u,e= .returned u∧RS w' (Vis K m' (lkO H') w') m' (lkO H').dom v u
   | .pan v _=>e= .panicked [{ v,recovered:=false }]
def Spec (P:Program) (G:Nat→Option (List D)) (f:FuncId) (args:List DV) (out:DR):Prop:=
 match out with
 | .obj r v o=>SpecO P G f (args.map DV.av) [] (.ret v [(r,some o)])
 | out=>Spec0 P G f args out
theorem Spec.mk0 {P:Program} {G:Nat→Option (List D)} {f:FuncId} {args:List DV} {out:DR} (hp:out.plain=true) (h:Spec0 P G f args out):Spec P G f args out:=by
 cases out<;>first|exact h|cases hp
theorem Spec.get0 {P:Program} {G:Nat→Option (List D)} {f:FuncId} {args:List DV} {out:DR} (hp:out.plain=true) (h:Spec P G f args out):Spec0 P G f args out:=by
 cases out<;>first|exact h|cases hp
inductive Q where
 | done (v:SV) (U:List (Nat × Option AObj))
 | pan (v:Value) (U:List (Nat × Option AObj))
 | obj (r:Nat) (k:AObj→Q)
 | new (r:Nat) (k:Q)
 | need (p:Prop) (k:Q)
 | any (α:Type) (k:α→Q)
 | fail
inductive Out where
 | val (v:SV) (U:List (Nat × Option AObj))
 | pan (v:Value) (U:List (Nat × Option AObj))
def Q.run (H:Hp) (rs:List Nat) (K:List Nat→Out→Prop):Q→Prop
 | .done v U=>K rs (.val v U)
 | .pan v U=>K rs (.pan v U)
 | .obj r k=>match H r with
  | some (some o)=>(k o).run H (r::rs) K
  | _=>False
 | .new r k=>H r=none∧k.run H (r::rs) K
 | .need p k=>p∧k.run H rs K
 | .any α k=> ∃ x,(k x).run H rs K
 | .fail=>False
def szOf (P:Program) (t:TypeId):Nat:=((P.info? t).map (·.size)).getD 0
def byOf (P:Program) (t:TypeId):Nat:=((P.info? t).map (·.bytes)).getD 0
inductive Kd where
 | bool|int (k:IntKind)|str|sl (e:TypeId)|arr (n:Nat) (e:TypeId)|st|ptr (e:TypeId)|map|fn|ifc|other
def kdOf (P:Program) (t:TypeId):Kd:=
 match P.underlying t with
 | some .bool=> .bool
 | some (.int k)=> .int k
 | some .string=> .str
 | some (.slice e)=> .sl e
 | some (.array n e)=> .arr n e
 | some (.struct _)=> .st
 | some (.pointer e)=> .ptr e
 | some (.map ..)=> .map
 | some (.func ..)=> .fn
 | some (.interface _)=> .ifc
 | _=> .other
def Kd.agg:Kd→Bool
 | .arr .. | .st=>true
 | _=>false
def fldOf (P:Program) (t:TypeId) (f:Nat):Nat × TypeId:=
 match P.underlying t with
 | some (.struct fs)=>((fs[f]?).map fun f=>(f.offset,f.type)).getD (0,0)
 | _=>(0,0)
def isFld (P:Program) (t:TypeId) (f:Nat):Bool:=
 match P.underlying t with
 | some (.struct fs)=>(fs[f]?).isSome&&decide (0<szOf P (fldOf P t f).2)
 | _=>false
def zeroOf (P:Program) (t:TypeId):List C:=(((P.info? t).bind (·.zero)).map fun z=>z.cells.toList.map cvC).getD []
def tyok (P:Program) (t:TypeId):Bool:=
 match P.info? t,P.underlying t with
 | some i,some _=>(match i.zero with
  | some z=>z.cells.size==i.size&&z.cells.all (·.oneCell')
  | none=>false)&&decide (0<i.size)&&((kdOf P t).agg||i.size==1)
 | _,_=>false
def bldOk (P:Program) (t:TypeId):Bool:=
 tyok P t&&match P.underlying t with
  | some (.struct fs)=>fs.all fun f=>(P.info? f.type).isSome
  | some (.array _ e)=>tyok P e
  | _=>false
def emptyTy (P:Program) (t:TypeId):Bool:=match P.underlying t,(P.info? t).bind (·.zero) with
 | some (.struct fs),some z=>fs.size==0&&z.cells.size==0
 | _,_=>false
def funcOk (P:Program) (f:FuncId):Bool:=
 match P.funcs[f]? with
 | some fn => fn.name != "runtime.NumGoroutine" && fn.body.isSome
 | none=>false
def setAt (cs:List C) (off:Nat) (vs:List C):List C:=cs.take off++vs++cs.drop (off+vs.length)
def arithV (op:BinOp) (k:IntKind) (a b:Int):Option Value:=
 match op with
 | .add=>some (.int k (k.wrap (a+b)))
 | .sub=>some (.int k (k.wrap (a-b)))
 | .mul=>some (.int k (k.wrap (a*b)))
 | .and=>some (.int k (k.wrap (BitVec.ofInt k.bits a &&& BitVec.ofInt k.bits b).toNat))
 | .or=>some (.int k (k.wrap (BitVec.ofInt k.bits a ||| BitVec.ofInt k.bits b).toNat))
 | .xor=>some (.int k (k.wrap (BitVec.ofInt k.bits a ^^^ BitVec.ofInt k.bits b).toNat))
 | .andNot=>some (.int k (k.wrap (BitVec.ofInt k.bits a &&& ~~~ BitVec.ofInt k.bits b).toNat))
 | .eql=>some (.bool (a==b))
 | .neq=>some (.bool (a != b))
 | .lss=>some (.bool (a<b))
 | .leq=>some (.bool (a≤b))
 | .gtr=>some (.bool (a>b))
 | .geq=>some (.bool (a≥b))
 | _=>none
def strV (op:BinOp) (x y:ByteArray):Option Value:=
 match op with
 | .eql=>some (.bool (x.toList==y.toList))
 | .neq=>some (.bool !(x.toList==y.toList))
 | .lss=>some (.bool (Op.bytesLess x.toList y.toList))
 | .leq=>some (.bool (Op.bytesLess x.toList y.toList||x.toList==y.toList))
 | .gtr=>some (.bool !(Op.bytesLess x.toList y.toList||x.toList==y.toList))
 | .geq=>some (.bool !(Op.bytesLess x.toList y.toList))
 | _=>none
def valQ (v:Value):Q:= .done (.a (.c (.d (.v v)))) []
def optQ:Option Value→Q
 | some v=>valQ v
 | none=> .fail
def binQ (op:BinOp) (x y:SV):Q:=
 match x,y with
 | .a (.c (.d (.v (.int k a)))),.a (.c (.d (.v (.int k' b)))) =>
  match op with
  | .shl=> .need (0≤b) (valQ (.int k (k.wrap (a*2^(min b.toNat k.bits)))))
  | .shr=> .need (0≤b) (valQ (.int k (a.fdiv (2^(min b.toNat k.bits)))))
  | .quo=> .need (k=k'∧b≠0) (valQ (.int k (k.wrap (a.tdiv b))))
  | .rem=> .need (k=k'∧b≠0) (valQ (.int k (a.tmod b)))
  | _=> .need (k=k') (optQ (arithV op k a b))
 | .a (.c (.d (.v (.string a)))),.a (.c (.d (.v (.string b)))) =>
  match op with
  | .add=> .need (a.size+b.size≤9223372036854775807) (valQ (.string (a++b)))
  | _=>optQ (strV op a b)
 | _,_=> .fail
def isSl (P:Program) (t:TypeId):Bool:=
 match kdOf P t with
 | .sl _=>true
 | _=>false
def isPtr (P:Program) (t:TypeId):Bool:=
 match kdOf P t with
 | .ptr _=>true
 | _=>false
def isFn (P:Program) (t:TypeId):Bool:=
 match kdOf P t with
 | .fn=>true
 | _=>false
def nilQ (P:Program) (neg:Bool) (t:TypeId) (x y:SV):Option Q:=
 match x,y with
 | .a (.c .nil),.a (.c .nil)=>some (.need (isSl P t=true) (valQ (.bool (!neg))))
 | .a (.c (.d (.sl n _))),.a (.c .nil)=>some (.need (isSl P t=true∧0<n) (valQ (.bool neg)))
 | .a (.c (.d (.v (.slice A _ _)))),.a (.c .nil)=>some (.need (isSl P t=true) (valQ (.bool (A.isNone != neg))))
 | .a (.c (.row _ _ _ n _)),.a (.c .nil)=>some (.need (isSl P t=true∧0<n) (valQ (.bool neg)))
 | .a (.c (.ptr _ _)),.a (.c (.d (.v (.pointer none))))=>some (.need (isPtr P t=true) (valQ (.bool neg)))
 | .a (.c (.d (.ptr _ _))),.a (.c (.d (.v (.pointer none))))=>some (.need (isPtr P t=true) (valQ (.bool neg)))
 | .a (.c (.d (.v (.pointer p)))),.a (.c (.d (.v (.pointer none))))=>some (.need (isPtr P t=true) (valQ (.bool (p.isNone != neg))))
 | .a (.c (.d (.v (.func _ _ _)))),.a (.c (.d (.v .nilFunc)))=>some (.need (isFn P t=true) (valQ (.bool neg)))
 | .a (.c (.d (.fn _ _))),.a (.c (.d (.v .nilFunc)))=>some (.need (isFn P t=true) (valQ (.bool neg)))
 | .a (.c (.fn _ _)),.a (.c (.d (.v .nilFunc)))=>some (.need (isFn P t=true) (valQ (.bool neg)))
 | .a (.c (.d (.v .nilFunc))),.a (.c (.d (.v .nilFunc)))=>some (.need (isFn P t=true) (valQ (.bool !neg)))
 | _,_=>none
def valsOf:List C→Option (List Value)
 | []=>some []
 | .d (.v u)::l=>(valsOf l).map (u:: ·)
 | _=>none
def KeyL (P:Program) (t:TypeId) (xs:List C) (L:List Lit):Prop:= ∃ k us,valsOf xs=some us∧us.length=P.cellsOf t∧P.keyLits k t us=some L
def eqTy (P:Program) (t:TypeId):Bool:=P.keyTypeAt 20 t&&(kdOf P t).agg&& !P.eqGuardType P.depth t
def aggQ (P:Program) (op:BinOp) (t:TypeId) (xs ys:List C):Q:=
 .any (List Lit × List Lit) fun L=> .any Bool fun b=> .need (eqTy P t=true∧KeyL P t xs L.1∧KeyL P t ys L.2∧(b=true↔L.1=L.2)) (match op with
  | .eql=>valQ (.bool b)
  | .neq=>valQ (.bool !b)
  | _=> .fail)
def boolQ (P:Program) (op:BinOp) (t:TypeId) (x y:SV):Q:=
 match x,y with
 | .a (.agg xs),.a (.agg ys)=>aggQ P op t xs ys
 | .a (.c (.d (.v (.bool a)))),.a (.c (.d (.v (.bool b)))) =>
  match op with
  | .eql=> .need (kdOf P t= .bool) (valQ (.bool (a==b)))
  | .neq=> .need (kdOf P t= .bool) (valQ (.bool !(a==b)))
  | _=> .fail
 | .a (.c (.d (.v (.float k a)))),.a (.c (.d (.v (.float k' b))))=> .any Value fun r=> .need (r.oneCell'=true∧ ∀ w,(binOp op t (.float k a) (.float k' b)).run P w= .ok r w) (valQ r)
 | _,_=>match op with
  | .eql=>(nilQ P false t x y).getD (binQ op x y)
  | .neq=>(nilQ P true t x y).getD (binQ op x y)
  | _=>binQ op x y
def unQ (op:UnOp) (x:SV):Q:=
 match op,x with
 | .not,.a (.c (.d (.v (.bool b))))=>valQ (.bool !b)
 | .neg,.a (.c (.d (.v (.int k n))))=>valQ (.int k (k.wrap (0-n)))
 | .neg,.a (.c (.d (.v (.float k n))))=>valQ (.float k (Op.negFloat k n))
 | .xor,.a (.c (.d (.v (.int k n))))=>valQ (.int k (k.wrap (BitVec.ofInt k.bits (if k.signed then -1 else k.max) ^^^ BitVec.ofInt k.bits n).toNat))
 | _,_=> .fail
def bD (b:UInt8):D:= .v (.int .u8 (b.toNat:Int))
def dOf:C→Option D
 | .d x=>some x
 | .nil=>some (.sl 0 [])
 | _=>none
def dOnly:List C→Option (List D)
 | []=>some []
 | x::l=>match dOf x,dOnly l with
  | some y,some m=>some (y::m)
  | _,_=>none
def convQ (P:Program) (src dst:TypeId) (x:SV):Q:=
 match x with
 | .a (.c (.d (.v (.int k0 n))))=>match kdOf P dst with
  | .int k=> .need (tyok P src=true) (valQ (.int k (k.wrap n)))
  | .other=> .any Value fun r=> .need (r.oneCell'=true∧ ∀ w,(convert src dst (.int k0 n)).run P w= .ok r w) (valQ r)
  | _=> .fail
 | .a (.c (.d (.v (.string s))))=>match kdOf P dst with
  | .str=> .need (tyok P src=true) (valQ (.string s))
  | .sl e=> .need (kdOf P src= .str∧kdOf P e= .int .u8∧s.size≤9223372036854775807) (.done (.a (.c (.d (.sl s.size (s.data.toList.map bD))))) [])
  | _=> .fail
 | .a (.c (.d (.sl n cs)))=>match kdOf P src,kdOf P dst with
  | .sl e,.str=> .need (kdOf P e= .int .u8) (.any (List UInt8) fun l=> .need (l.length=n∧cs=l.map bD) (valQ (.string ⟨l.toArray⟩)))
  | _,_=> .fail
 | .a (.c .nil)=>match kdOf P src,kdOf P dst with
  | .sl e,.str=> .need (kdOf P e= .int .u8) (valQ (.string ⟨#[]⟩))
  | _,_=> .fail
 | .a (.c (.row r sz off n cap))=>match kdOf P src,kdOf P dst with
  | .sl e,.str=> .need (kdOf P e= .int .u8) (.obj r fun o=> .any (List UInt8) fun l=> .need (l.length=n∧(o.cs.drop off).take n=l.map fun b=>C.d (bD b)) (valQ (.string ⟨l.toArray⟩)))
  | .sl e,.sl _=> .need (src=dst∧kdOf P e= .int .u8∧0<n) (.obj r fun o=>match dOnly o.cs with
   | some ds=> .need (o.fr=false∧off+n≤ds.length) (.done (.a (.c (.d (.sl n ((ds.drop off).take n))))) [(r,none)])
   | none=> .fail)
  | _,_=> .fail
 | _=> .fail
def rdQ (ag:Bool) (sz:Nat) (cs:List C) (off:Nat):Q:=
 match ag with
 | true=> .need (off+sz≤cs.length) (.done (.a (.agg ((cs.drop off).take sz))) [])
 | false=>match cs[off]? with
  | some x=> .done (.a (.c x)) []
  | none=> .fail
def rdD (ag:Bool) (sz:Nat) (cs:List D) (off:Nat):Q:=
 match ag with
 | true=> .need (off+sz≤cs.length) (.done (.a (.agg (((cs.drop off).take sz).map C.d))) [])
 | false=>match cs[off]? with
  | some x=> .done (.a (.c (.d x))) []
  | none=> .fail
def loadQ (P:Program) (t:TypeId) (x:SV):Q:=
 match x with
 | .a (.c (.ptr r off))=> .need (tyok P t=true) (.obj r fun o=>rdQ (kdOf P t).agg (szOf P t) o.cs off)
 | .a (.c (.d (.ptr cs off)))=> .need (tyok P t=true) (rdD (kdOf P t).agg (szOf P t) cs off)
 | _=> .fail
def storeQ (P:Program) (t:TypeId) (x val:SV):Q:=
 match x,val with
 | .a (.c (.ptr r off)),.a (.agg vs)=> .obj r fun o=> .need (tyok P t=true∧o.fr=false∧vs.length=szOf P t∧off+vs.length≤o.cs.length) (.done .undef [(r,some { o with cs:=setAt o.cs off vs })])
 | .a (.c (.ptr r off)),.a (.c v)=> .obj r fun o=> .need (tyok P t=true∧o.fr=false∧szOf P t=1∧off<o.cs.length) (.done .undef [(r,some { o with cs:=o.cs.set off v })])
 | _,_=> .fail
def newQ (dst:Option Nat) (ty:TypeId) (cs:List C) (v:Nat→C):Q:=
 match dst with
 | some d=> .new d (.done (.a (.c (v d))) [(d,some ⟨ty,cs,true,false⟩)])
 | none=> .fail
def boxQ (dst:Option Nat) (t:TypeId) (x:SV):Q:=
 match x with
 | .a (.c v)=>newQ dst t [v] (fun d=> .ptr d 0)
 | .a (.agg vs)=>newQ dst t vs (fun d=> .ptr d 0)
 | _=> .fail
def partOf:SV→Option (List C)
 | .a (.c v)=>some [v]
 | .a (.agg vs)=>some vs
 | _=>none
def fillC (place:Nat→Option (Nat × Nat)) (cells:List C):List (Nat × SV)→Option (List C)
 | []=>some cells
 | (i,v)::rest=>match place i,partOf v with
  | some (off,size),some vs=>if vs.length=size∧off+vs.length≤cells.length then fillC place (setAt cells off vs) rest else none
  | _,_=>none
def placeOf (P:Program) (t:TypeId) (i:Nat):Option (Nat × Nat):=
 match kdOf P t with
 | .st=>if isFld P t i then some ((fldOf P t i).1,szOf P (fldOf P t i).2) else none
 | .arr _ e=>some (i*szOf P e,szOf P e)
 | .sl e=>some (i*szOf P e,szOf P e)
 | _=>none
def buildQ (P:Program) (t:TypeId) (parts:List (Nat × SV)):Q:=
 match fillC (placeOf P t) (zeroOf P t) parts with
 | some cs=> .need (bldOk P t=true∨(emptyTy P t=true∧parts.isEmpty=true)) (.done (.a (.agg cs)) [])
 | none=> .fail
def buildSliceQ (P:Program) (dst:Option Nat) (t:TypeId) (len:Nat) (parts:List (Nat × SV)):Q:=
 match kdOf P t with
 | .sl e=>match fillC (placeOf P t) ((List.replicate len (zeroOf P e)).flatten) parts with
  | some cs=> .need (tyok P e=true∧len*szOf P e≤16777216) (newQ dst e cs (fun d=> .row d (szOf P e) 0 len (.ex len)))
  | none=> .fail
 | _=> .fail
def makeQ (P:Program) (dst:Option Nat) (t:TypeId) (l c:SV):Q:=
 match l,c with
 | .a (.c (.d (.v (.int _ l)))),.a (.c (.d (.v (.int _ c))))=>match kdOf P t with
  | .sl e=> .need (tyok P e=true∧0≤l∧l≤c∧c≤9223372036854775807∧(byOf P e:Int)*c≤281474976710656)
    (newQ dst e ((List.replicate c.toNat (zeroOf P e)).flatten) (fun d=> .row d (szOf P e) 0 l.toNat (.ex c.toNat)))
  | _=> .fail
 | _,_=> .fail
def fieldAddrQ (P:Program) (t:TypeId) (x:SV) (f:Nat):Q:=
 match x with
 | .a (.c (.ptr r off))=> .need (isFld P t f=true) (.done (.a (.c (.ptr r (off+(fldOf P t f).1)))) [])
 | .a (.c (.d (.ptr cs off)))=> .need (isFld P t f=true) (.done (.a (.c (.d (.ptr cs (off+(fldOf P t f).1))))) [])
 | _=> .fail
def indexAddrQ (P:Program) (t:TypeId) (x i:SV):Q:=
 match i with
 | .a (.c (.d (.v (.int _ i))))=>match kdOf P t,x with
  | .arr n e,.a (.c (.ptr r off))=> .need (tyok P e=true∧0≤i∧i<n) (.done (.a (.c (.ptr r (off+i.toNat*szOf P e)))) [])
  | .arr n e,.a (.c (.d (.ptr cs off)))=> .need (tyok P e=true∧0≤i∧i<n) (.done (.a (.c (.d (.ptr cs (off+i.toNat*szOf P e))))) [])
  | .sl e,.a (.c (.row r sz off n cap))=> .need (tyok P e=true∧0≤i∧i<n) (.done (.a (.c (.ptr r (off+i.toNat*szOf P e)))) [])
  | .sl e,.a (.c (.d (.sl n cs)))=> .need (tyok P e=true∧0≤i∧i<n) (.done (.a (.c (.d (.ptr cs (i.toNat*szOf P e))))) [])
  | _,_=> .fail
 | _=> .fail
def partQ (ag:Bool) (sz:Nat) (cs:List C) (off:Nat):Q:=
 match ag with
 | true=> .done (.a (.agg ((cs.drop off).take sz))) []
 | false=>match cs[off]? with
  | some x=> .done (.a (.c x)) []
  | none=> .fail
def fieldQ (P:Program) (t:TypeId) (x:SV) (f:Nat):Q:=
 match x with
 | .a (.agg cs)=> .need (isFld P t f=true∧tyok P (fldOf P t f).2=true∧(fldOf P t f).1+szOf P (fldOf P t f).2≤cs.length) (partQ (kdOf P (fldOf P t f).2).agg (szOf P (fldOf P t f).2) cs (fldOf P t f).1)
 | _=> .fail
def indexQ (P:Program) (t:TypeId) (x i:SV):Q:=
 match i,x with
 | .a (.c (.d (.v (.int _ i)))),.a (.agg cs)=>match kdOf P t with
  | .arr n e=> .need (tyok P e=true∧0≤i∧i<n∧i.toNat*szOf P e+szOf P e≤cs.length) (partQ (kdOf P e).agg (szOf P e) cs (i.toNat*szOf P e))
  | _=> .fail
 | .a (.c (.d (.v (.int _ i)))),.a (.c (.d (.v (.string s))))=>match kdOf P t,s.data[i.toNat]? with
  | .str,some b=> .need (0≤i) (valQ (.int .u8 (b.toNat:Int)))
  | _,_=> .fail
 | _,_=> .fail
def extractQ (x:SV) (i:Nat):Q:=
 match x with
 | .tup l=>match l[i]? with
  | some v=> .done (.a v) []
  | none=> .fail
 | _=> .fail
def nilCheckQ (x:SV):Q:=
 match x with
 | .a (.c (.ptr r off))=> .done x []
 | .a (.c (.d (.ptr cs off)))=> .done x []
 | _=> .fail
def arrPtrQ (P:Program) (t:TypeId) (x:SV):Q:=
 match kdOf P t,x with
 | .arr k e,.a (.c (.row r sz off n cap))=> .need (0<k∧k≤n) (.done (.a (.c (.ptr r off))) [])
 | .arr k e,.a (.c (.d (.sl n cs)))=> .need (0<k∧k≤n) (.done (.a (.c (.d (.ptr cs 0)))) [])
 | _,_=> .fail
def bndQ (x:Option SV) (d:Int) (k:Int→Q):Q:=
 match x with
 | none=>k d
 | some (.a (.c (.d (.v (.int _ i)))))=>k i
 | _=> .fail
def Cap.cut (cap:Cap) (l h n:Int):Cap:=
 match cap with
 | .ex k=> .ex (k-l.toNat)
 | .grow=>if l=0 then .grow else .any
 | .any=> .any
def sliceQ (P:Program) (t:TypeId) (x:SV) (lo hi:Option SV):Q:=
 match x with
 | .a (.c (.d (.v (.string s))))=>bndQ lo 0 fun l=>bndQ hi s.size fun h=> .need (kdOf P t= .str∧0≤l∧l≤h∧h≤s.size) (valQ (.string (s.extract l.toNat h.toNat)))
 | .a (.c (.d (.sl n cs)))=>match kdOf P t with
  | .sl e=>bndQ lo 0 fun l=>bndQ hi n fun h=> .need (tyok P e=true∧0≤l∧l≤h∧h≤n) (.done (.a (.c (.d (.sl (h.toNat-l.toNat) ((cs.drop (l.toNat*szOf P e)).take ((h.toNat-l.toNat)*szOf P e)))))) [])
  | _=> .fail
 | .a (.c .nil)=>match kdOf P t with
  | .sl e=>bndQ lo 0 fun l=>bndQ hi 0 fun h=> .need (tyok P e=true∧0≤l∧l≤h∧h≤0) (.done x [])
  | _=> .fail
 | .a (.c (.row r sz off n cap))=>match kdOf P t with
  | .sl e=>bndQ lo 0 fun l=>bndQ hi n fun h=> .need (tyok P e=true∧sz=szOf P e∧0≤l∧l≤h∧h≤n) (.done (.a (.c (.row r sz (off+l.toNat*sz) (h.toNat-l.toNat) (cap.cut l h n)))) [])
  | _=> .fail
 | .a (.c (.ptr r off))=>match kdOf P t with
  | .arr k e=>bndQ lo 0 fun l=>bndQ hi k fun h=> .need (tyok P e=true∧k≤9223372036854775807∧0≤l∧l≤h∧h≤k) (.done (.a (.c (.row r (szOf P e) (off+l.toNat*szOf P e) (h.toNat-l.toNat) (.ex (k-l.toNat))))) [])
  | _=> .fail
 | _=> .fail
def Cap.part (cap:Cap) (ds:List D) (off k:Nat):List D:=
 match cap with
 | .grow=>ds
 | _=>(ds.drop off).take k
def cvCaps:List (Nat × Nat)→(List D→List (Nat × Option AObj)→Q)→Q
 | [],k=>k [] []
 | (r,off)::l,k=> .obj r fun o=>match dOnly o.cs with
  | some ds=>cvCaps l fun ys V=>k (.ptr ds off::ys) ((r,some { o with fr:=true })::V)
  | none=> .fail
def cvIn (inner:List C→(List D→List (Nat × Option AObj)→Q)→Q) (cs:List C) (k:List D→List (Nat × Option AObj)→Q):Q:=
 match dOnly cs with
 | some ds=>k ds []
 | none=>inner cs k
def cvW (inner:List C→(List D→List (Nat × Option AObj)→Q)→Q) (x:C) (k:D→List (Nat × Option AObj)→Q):Q:=
 match x with
 | .d x=>k x []
 | .nil=>k (.sl 0 []) []
 | .row r sz off n cap=> .obj r fun o=>cvIn inner o.cs fun ds U=>k (.sl n (cap.part ds off (n*sz))) ((r,some { o with fr:=true })::U)
 | .ptr r off=> .obj r fun o=>cvIn inner o.cs fun ds U=>k (.ptr ds off) ((r,some { o with fr:=true })::U)
 | .fn f caps=>cvCaps caps fun ds U=>k (.fn f ds) U
def cvLS (f:C→(D→List (Nat × Option AObj)→Q)→Q):List C→(List D→List (Nat × Option AObj)→Q)→Q
 | [],k=>k [] []
 | x::l,k=>f x fun y U=>cvLS f l fun ys V=>k (y::ys) (U++V)
def cvF:List C→(List D→List (Nat × Option AObj)→Q)→Q:=fun _ _=> .fail
def cvQ (x:C) (k:D→List (Nat × Option AObj)→Q):Q:=cvW (cvLS (cvW (cvLS (cvW (cvLS (cvW (cvLS (cvW cvF)))))))) x k
def cvL:List C→(List D→List (Nat × Option AObj)→Q)→Q
 | [],k=>k [] []
 | x::l,k=>cvQ x fun y U=>cvL l fun ys V=>k (y::ys) (U++V)
def cvA (x:AV) (k:DV→List (Nat × Option AObj)→Q):Q:=
 match x with
 | .c x=>cvQ x fun y U=>k (.c y) U
 | .agg cs=>match dOnly cs with
  | some ds=>k (.g ds) []
  | none=>cvL cs fun ys U=>k (.g ys) U
def cvArgs:List SV→(List DV→List (Nat × Option AObj)→Q)→Q
 | [],k=>k [] []
 | .a x::l,k=>cvA x fun y U=>cvArgs l fun ys V=>k (y::ys) (U++V)
 | _,_=> .fail
def C.ren (ρ:Nat→Nat):C→C
 | .ptr r off=> .ptr (ρ r) off
 | .row r sz off n cap=> .row (ρ r) sz off n cap
 | .fn f caps=> .fn f (caps.map fun p=>(ρ p.1,p.2))
 | x=>x
def AV.ren (ρ:Nat→Nat):AV→AV
 | .c x=> .c (x.ren ρ)
 | .agg cs=> .agg (cs.map (C.ren ρ))
def SV.ren (ρ:Nat→Nat):SV→SV
 | .a x=> .a (x.ren ρ)
 | .tup l=> .tup (l.map (AV.ren ρ))
 | x=>x
def DR.out (dst:Option Nat) (r:DR) (U:List (Nat × Option AObj)):Q:=
 match r with
 | .obj _ v o=>match dst with
  | some d=> .new d (.need ((dOnly o.cs).isSome=true) (.done (v.ren fun _=>d) (U++[(d,some o)])))
  | none=> .fail
 | .one x=> .done (.a x.av) U
 | .many l=> .done (.tup (l.map DV.av)) U
 | .pan v=> .pan v []
def SV.ref:SV→Bool
 | .a (.c (.ptr ..))| .a (.c (.row ..))=>true
 | _=>false
def callP (P:Program) (G:Nat→Option (List D)) (dst:Option Nat) (f:FuncId) (caps:List D) (args:List SV):Q:=
 cvArgs args fun ds U=> .any DR fun r=> .need (Spec P G f (ds++caps.map DV.c) r) (r.out dst U)
def ownArgs (own:List Nat):Nat→List SV→(List AV→List (Nat × Nat × AObj)→List (Nat × Option AObj)→Q)→Q
 | _,[],k=>k [] [] []
 | i,.a (.c (.ptr r off))::l,k=> .obj r fun o=>match dOnly o.cs with
  | some _=> .need (o.fr=false) (ownArgs own (i+1) l fun avs os U=>k (.c (.ptr i off)::avs) ((i,r,o)::os) U)
  | none=> .fail
 | i,.a (.c (.row r sz off n cap))::l,k=>match own.contains i with
  | true=> .obj r fun o=>match dOnly o.cs with
   | some _=> .need (o.fr=false) (ownArgs own (i+1) l fun avs os U=>k (.c (.row i sz off n cap)::avs) ((i,r,o)::os) U)
   | none=> .fail
  | false=>cvQ (.row r sz off n cap) fun y V=>ownArgs own (i+1) l fun avs os U=>k (.c (.d y)::avs) os (V++U)
 | i,.a x::l,k=>cvA x fun y V=>ownArgs own (i+1) l fun avs os U=>k (y.av::avs) os (V++U)
 | _,_,_=> .fail
def renN (ps:List (Nat × Nat)) (d i:Nat):Nat:=((ps.find? fun p=>p.1==i).map (·.2)).getD d
def hpOk:List (Nat × Option AObj)→Prop
 | []=>True
 | (_,some o)::l=>(dOnly o.cs).isSome=true∧hpOk l
 | (_,none)::l=>hpOk l
theorem hpOk_ok: ∀ {l:List (Nat × Option AObj)},hpOk l→ ∀ p∈l,∀ x,p.2=some x→(dOnly x.cs).isSome=true
 | (r,some o)::l,h,p,hp,x,hx=>by
  rcases List.mem_cons.1 hp with rfl|hp
  ·cases hx
   exact h.1
  ·exact hpOk_ok h.2 p hp x hx
 | (r,none)::l,h,p,hp,x,hx=>by
  rcases List.mem_cons.1 hp with rfl|hp
  ·cases hx
  ·exact hpOk_ok (l:=l) h p hp x hx
def offN (l:List Nat):List (Nat × Option AObj)→Prop
 | []=>True
 | (r,_)::U=>l.contains r=false∧offN l U
theorem offN_ok {l:List Nat}: ∀ {U:List (Nat × Option AObj)},offN l U→ ∀ p∈U,p.1 ∉ l
 | (r,o)::U,h,p,hp=>by
  rcases List.mem_cons.1 hp with rfl|hp
  ·intro hm
   have:=h.1
   rw [List.contains_iff_mem.2 hm] at this
   cases this
  ·exact offN_ok h.2 p hp
def callO (P:Program) (G:Nat→Option (List D)) (dst:Option Nat) (f:FuncId) (caps:List D) (own:List Nat) (args:List SV):Q:=
 match dst with
 | none=> .fail
 | some d=>ownArgs own 0 args fun avs os U=> .new d (.any OutO fun r=> .need (SpecO P G f (avs++caps.map fun x=> .c (.d x)) (os.map fun p=>(p.1,p.2.2)) r)
  (.need ((os.map fun p=>p.2.1).Nodup∧(os.map fun p=>p.1).Nodup∧offN (os.map fun p=>p.2.1) U∧hpOk r.hp∧(r.hp.map fun p=>renN (os.map fun p=>(p.1,p.2.1)) d p.1).Nodup)
   (match r with
   | .ret v H'=> .done (v.ren (renN (os.map fun p=>(p.1,p.2.1)) d)) (U++H'.map fun p=>(renN (os.map fun p=>(p.1,p.2.1)) d p.1,p.2))
   | .pan v H'=> .pan v (U++H'.map fun p=>(renN (os.map fun p=>(p.1,p.2.1)) d p.1,p.2)))))
def D.flat:D→Bool
 | .v _=>true
 | _=>false
def C.flat:C→Bool
 | .d x=>x.flat
 | _=>false
def DV.flat:DV→Bool
 | .c x=>x.flat
 | .g cs=>cs.all D.flat
def DR.flat:DR→Bool
 | .one x=>x.flat
 | .many l=>l.all DV.flat
 | .pan _=>true
 | .obj _ v o=>v.ref&&(!o.fr&&o.cs.all C.flat)
def callL (P:Program) (G:Nat→Option (List D)) (dst:Option Nat) (f:FuncId) (caps:List D) (args:List SV):Q:=
 cvArgs args fun ds _=> .any DR fun r=> .need (Spec P G f (ds++caps.map DV.c) r) (.need (r.flat=true) (r.out dst []))
def callX (P:Program) (G:Nat→Option (List D)) (dst:Option Nat) (f:FuncId) (caps:List D) (args:List SV):Q:=
 match args.any SV.ref with
 | true=> .any (Option (List Nat)) fun own=>match own with
  | some own=>match own.contains 4096 with
   | true=>callL P G dst f caps args
   | false=>callO P G dst f caps own args
  | none=>callP P G dst f caps args
 | false=>callP P G dst f caps args
def plainS:List SV→Option (List Value)
 | []=>some []
 | .a (.c (.d (.v u)))::l=>(plainS l).map (u:: ·)
 | _=>none
def ExtV (P:Program) (f:FuncId) (vs us:List Value):Prop:=us.all (·.oneCell')=true∧ ∀ w,(callFunc f vs.toArray).run P w= .ok (.value (.tuple us.toArray)) w
def extQ (P:Program) (f:FuncId) (args:List SV):Q:=
 match plainS args with
 | some vs=> .any (List Value) fun us=> .need (ExtV P f vs us) (.done (.tup (us.map fun v=> .c (.d (.v v)))) [])
 | none=> .fail
def callQ (P:Program) (G:Nat→Option (List D)) (dst:Option Nat) (f:SV) (args:List SV):Q:=
 match f with
 | .a (.c (.d (.v (.func (.func f) x y))))=>match funcOk P f with
  | true=> .need (x= #[]∧y= #[]) (callX P G dst f [] args)
  | false=> .need (x= #[]∧y= #[]) (extQ P f args)
 | .a (.c (.d (.fn f caps)))=> .need (funcOk P f=true) (callX P G dst f caps args)
 | .a (.c (.fn f caps))=> .need (funcOk P f=true) (cvCaps caps fun cs V=>cvArgs args fun ds U=> .any DR fun r=> .need (Spec P G f (ds++cs.map DV.c) r) (r.out dst (V++U)))
 | _=> .fail
def makeFnQ (f:FuncId) (caps:List SV):Q:=
 match caps.mapM fun| .a (.c (.ptr r off))=>some (r,off)|_=>none with
 | some ps=> .done (.a (.c (.fn f ps))) []
 | none=>match caps.mapM fun| .a (.c (.d x))=>some x|_=>none with
  | some ds=> .done (.a (.c (.d (.fn f ds)))) []
  | none=> .fail
def lenQ (P:Program) (t:TypeId) (x:SV):Q:=
 match kdOf P t,x with
 | .str,.a (.c (.d (.v (.string s))))=>valQ (.int .i64 s.size)
 | .sl _,.a (.c (.d (.sl n cs)))=>valQ (.int .i64 n)
 | .sl _,.a (.c .nil)=>valQ (.int .i64 0)
 | .sl _,.a (.c (.d (.v (.slice _ n _))))=>valQ (.int .i64 n)
 | .sl _,.a (.c (.row r sz off n cap))=>valQ (.int .i64 n)
 | .arr n _,.a _=>valQ (.int .i64 n)
 | _,_=> .fail
def u8Ok (P:Program) (e:TypeId):Prop:=kdOf P e= .int .u8∧szOf P e=1∧(P.info? e).map (fun i=>(i.zero,i.bytes))=some (some (.int .u8 0),1)
def srcQ (P:Program) (t:TypeId) (e:TypeId) (x:SV) (k:Nat→List C→Q):Q:=
 match x with
 | .a (.c (.d (.sl n cs)))=> .need (kdOf P t= .sl e∧cs.length=n*szOf P e) (k n (cs.map C.d))
 | .a (.c .nil)=> .need (kdOf P t= .sl e) (k 0 [])
 | .a (.c (.d (.v (.slice _ n _))))=> .need (kdOf P t= .sl e∧n=0) (k 0 [])
 | .a (.c (.row r sz off n cap))=> .obj r fun o=> .need (kdOf P t= .sl e∧off+n*szOf P e≤o.cs.length) (k n ((o.cs.drop off).take (n*szOf P e)))
 | .a (.c (.d (.v (.string s))))=> .need (kdOf P t= .str∧u8Ok P e) (k s.size (s.data.toList.map fun b=>C.d (bD b)))
 | _=> .fail
def appendQ (P:Program) (dst:Option Nat) (t t2:TypeId) (s x:SV):Q:=
 match kdOf P t,dst with
 | .sl e,some d=> .need (tyok P e=true) (.new d (match s with
  | .a (.c .nil)=>srcQ P t2 e x fun m vs=> .need (m*byOf P e≤140737488355328∧m≤9223372036854775807) (.done (.a (.c (.row d (szOf P e) 0 m .grow))) [(d,some ⟨e,vs,false,false⟩)])
  | .a (.c (.row r sz off n cap))=> .obj r fun o=>(match o.ty==e with
  | false=>(match cap,kdOf P t2 with
   | .ex k,.sl _=>srcQ P t e s fun n' olds=>srcQ P t2 e x fun m vs=> .need (k=n∧n'=n∧0<n∧0<m∧(n+m)*byOf P e≤140737488355328∧n+m≤9223372036854775807)
    (.done (.a (.c (.row d (szOf P e) 0 (n+m) .grow))) [(d,some ⟨e,olds++vs,false,false⟩)])
   | _,_=> .fail)
  | true=>srcQ P t2 e x fun m vs =>
   .need (o.fr=false∧o.ty=e∧off=0∧sz=szOf P e∧o.cs.length=n*sz∧(n+m)*byOf P e≤140737488355328∧n+m≤9223372036854775807∧(match cap with
    | .grow=>True
    | .ex k=>k=n∧o.ex=true
    | .any=>False)) (.done (.a (.c (.row d sz 0 (n+m) .grow))) [(r,none),(d,some ⟨e,o.cs++vs,false,false⟩)]))
  | _=> .fail))
 | _,_=> .fail
def copyQ (P:Program) (t t2:TypeId) (s x:SV):Q:=
 match kdOf P t,s with
 | .sl e,.a (.c (.row r sz off n cap))=> .obj r fun o=>srcQ P t2 e x fun m vs =>
  .need (tyok P e=true∧o.fr=false∧sz=szOf P e∧0<n∧off+n*sz≤o.cs.length) (.done (.a (.c (.d (.v (.int .i64 (min m n:Nat)))))) [(r,some { o with cs:=setAt o.cs off (vs.take (min m n*sz)) })])
 | _,_=> .fail
def minmaxQ (mx:Bool) (x y:SV):Q:=
 match x,y with
 | .a (.c (.d (.v (.int k a)))),.a (.c (.d (.v (.int k' b))))=>valQ (.int k (if mx then (if b>a then b else a) else (if b<a then b else a)))
 | _,_=> .fail
def nonIface (P:Program) (t:TypeId):Bool:=match P.underlying t with
 | some (.interface _)=>false
 | some _=>true
 | none=>false
def ifaceQ (P:Program) (t:TypeId) (x:SV):Q:=
 match x with
 | .a (.c (.d (.v u)))=> .need (nonIface P t=true) (valQ (.iface t u))
 | .a (.agg cs)=>match valsOf cs with
  | some us=> .need (nonIface P t=true) (valQ (.iface t (.agg us.toArray)))
  | none=> .fail
 | _=> .fail
def panicQ (x:SV):Q:=
 match x with
 | .a (.c (.d (.v (.iface t u))))=> .pan (.iface t u) []
 | _=> .fail
def callAop (P:Program) (G:Nat→Option (List D)) (ρ:Operand→SV) (dst:Option Nat) (callee:Callee) (args:List Operand) (tys:List TypeId):Q:=
 match callee,args,tys with
 | .builtin .len,[x],[t]=> .need (constOk x=true) (lenQ P t (ρ x))
 | .builtin .append,[s,x],[t,t2]=> .need (constOk s=true∧constOk x=true) (appendQ P dst t t2 (ρ s) (ρ x))
 | .builtin .copy,[s,x],[t,t2]=> .need (constOk s=true∧constOk x=true) (copyQ P t t2 (ρ s) (ρ x))
 | .builtin .min,[x,y],_=> .need (constOk x=true∧constOk y=true) (minmaxQ false (ρ x) (ρ y))
 | .builtin .max,[x,y],_=> .need (constOk x=true∧constOk y=true) (minmaxQ true (ρ x) (ρ y))
 | .value f,args,_=> .need (constOk f=true∧args.all constOk=true) (callQ P G dst (ρ f) (args.map ρ))
 | _,_,_=> .fail
def aop (P:Program) (G:Nat→Option (List D)) (ρ:Operand→SV) (o:Oper):Q:=
 match o.op with
 | .move x| .assign x=> .need (constOk x=true) (.done (ρ x) [])
 | .pick c a b=>match ρ c with
  | .a (.c (.d (.v (.bool true))))=> .need (constOk a=true) (.done (ρ a) [])
  | .a (.c (.d (.v (.bool false))))=> .need (constOk b=true) (.done (ρ b) [])
  | _=> .fail
 | .alloc t=> .need (tyok P t=true) (newQ o.dst t (zeroOf P t) (fun d=> .ptr d 0))
 | .box t x=> .need (constOk x=true) (boxQ o.dst t (ρ x))
 | .build t parts=> .need (parts.all (fun p=>constOk p.2)=true) (buildQ P t (parts.toList.map fun p=>(p.1, ρ p.2)))
 | .buildSlice t len parts=> .need (parts.all (fun p=>constOk p.2)=true) (buildSliceQ P o.dst t len (parts.toList.map fun p=>(p.1, ρ p.2)))
 | .load t x=>loadQ P t (ρ x)
 | .store t x v=> .need (constOk v=true) (storeQ P t (ρ x) (ρ v))
 | .nilCheck x=>nilCheckQ (ρ x)
 | .binOp op t x y _=> .need (constOk x=true∧constOk y=true) (boolQ P op t (ρ x) (ρ y))
 | .unOp op _ x=>unQ op (ρ x)
 | .convert s d x=>convQ P s d (ρ x)
 | .sliceToArrayPointer t x=>arrPtrQ P t (ρ x)
 | .makeFunc (.func f) first caps=> .need (first= #[]∧caps.all constOk=true) (makeFnQ f (caps.toList.map ρ))
 | .makeSlice t l c=>makeQ P o.dst t (ρ l) (ρ c)
 | .slice t x lo hi none=>sliceQ P t (ρ x) (lo.map ρ) (hi.map ρ)
 | .fieldAddr t x f=>fieldAddrQ P t (ρ x) f
 | .field t x f=> .need (constOk x=true) (fieldQ P t (ρ x) f)
 | .indexAddr t x i=>indexAddrQ P t (ρ x) (ρ i)
 | .index t x i=> .need (constOk x=true) (indexQ P t (ρ x) (ρ i))
 | .extract x i=>extractQ (ρ x) i
 | .makeInterface t x=> .need (constOk x=true) (ifaceQ P t (ρ x))
 | .panic x=> .need (constOk x=true) (panicQ (ρ x))
 | .call c=>callAop P G ρ o.dst c.callee c.args.toList c.argTypes.toList
 | _=> .fail
section
variable {G:Nat→Option (List D)} {P:Program} {K:Ctx G} {F:Fr} {m m':NM} {s:FSt} {a:Act} {w w':World} {H':Hp}
theorem getD_put {t d:Nat} {u:Value} (hd:d<a.tmps.size):(a.put (some d) u).tmps.getD t undef=if t=d then u else a.tmps.getD t undef:=by
 simp only [Act.put,Array.getD_eq_getD_getElem?,Array.getElem?_setIfInBounds]
 split
 ·rename_i h
  subst h
  simp
 ·rename_i h
  rw [if_neg (fun e=>h e.symm)]
theorem Rel.turn {U:Nat→Prop} {dst:Option Nat} {v:SV} {u:Value} (h:Rel K F m s a w) (t:Turn K m m' s.ob H' w w' U) (hh:HRel K m' H' w') (hd: ∀ d,dst=some d→d<F.n)
  (hv:RS w' (Vis K m' H' w') m' H'.dom v u):Rel K F m' ⟨putS s.sl dst v,H'⟩ (a.put dst u) w':=by
 have k:=t.keep h.heap
 refine ⟨?_,?_,fun t'=>?_,hh,fun r hr=>?_⟩
 ·cases dst with
  | none=>exact h.size
  | some d=>simp [Act.put,h.size]
 ·cases dst<;>exact h.defers
 ·cases dst with
  | none=>exact k.rs (h.slot t')
  | some d =>
   have hdn:=hd d rfl
   rw [getD_put (by rw [h.size];exact hdn)]
   simp only [putS,upd]
   split
   ·exact hv
   ·exact k.rs (h.slot t')
 ·obtain ⟨h1,h2,h3,h4⟩:=h.names r hr
  exact ⟨t.dm r h1,by rw [t.g r h1];exact h2,by rw [t.N r h1];exact h3,by rw [t.vd r h1];exact h4⟩
theorem Turn.refl:Turn K m m s.ob s.ob w w (fun _=>False):=
 ⟨fun _ _=>rfl,fun _ h=>h,fun _ _=>rfl,fun _ _=>rfl,fun _ _=>rfl,Ev.refl _ _,fun _ h=>h.elim,fun _ _ h=>h.elim⟩
theorem Rel.put {dst:Option Nat} {v:SV} {u:Value} (h:Rel K F m s a w) (hd: ∀ d,dst=some d→d<F.n) (hv:RS w (Vis K m s.ob w) m s.ob.dom v u):Rel K F m (s.app dst v []) (a.put dst u) w:=
 h.turn Turn.refl h.heap hd hv
def NM.set (m:NM) (d g N:Nat) (vd:Bool):NM:=⟨upd m.g d g,upd m.N d N,fun j=>if j=d then vd else m.vd j⟩
theorem NM.set_other {d g N:Nat} {vd:Bool} {r:Nat} (h:r≠d):(m.set d g N vd).g r=m.g r∧(m.set d g N vd).N r=m.N r∧(m.set d g N vd).vd r=m.vd r:=by simp [NM.set,upd,h]
theorem NM.set_same {d g N:Nat} {vd:Bool}:(m.set d g N vd).g d=g∧(m.set d g N vd).N d=N∧(m.set d g N vd).vd d=vd:=by simp [NM.set,upd]
theorem heap_alloc (w:World) (o:Obj):(w.alloc o).heap[w.heap.size]?=some o:=heap_alloc_new w o
theorem Rel.new {d:Nat} {ty:TypeId} {cs:List C} {us:Array Value} {x:C} {u:Value} (h:Rel K F m s a w) (hd:d<F.n) (hf:s.ob d=none) (hl:us.size=cs.length)
  (hc: ∀ (i:Nat) x v,cs[i]?=some x→us[i]?=some v→RC w (Vis K m s.ob w) m s.ob.dom x v)
  (hx: ∀ S dom,dom d→RC (w.alloc (.cells us ty)) S (m.set d w.heap.size us.size false) dom x u) :
  Rel K F (m.set d w.heap.size us.size false) (s.app (some d) (.a (.c x)) [(d,some ⟨ty,cs,true,false⟩)]) (a.put (some d) u) (w.alloc (.cells us ty)):=by
 have hne: ∀ r,s.ob.dom r→r≠d:=fun r hr e=>hr (by rw [e];exact hf)
 have hob:updO s.ob [(d,some ⟨ty,cs,true,false⟩)] d=some (some ⟨ty,cs,true,false⟩):=upd_same
 have t:Turn K m (m.set d w.heap.size us.size false) s.ob (updO s.ob [(d,some ⟨ty,cs,true,false⟩)]) w (w.alloc (.cells us ty)) (fun r=>r=d):=by
  refine ⟨fun r hr=>upd_ne hr,fun r hr=>?_,fun r hr=>(NM.set_other (hne r hr)).1,fun r hr=>(NM.set_other (hne r hr)).2.1,fun r hr=>(NM.set_other (hne r hr)).2.2,⟨rfl,rfl,rfl,by simp,fun k hk _=>Below.heap_alloc w _ k hk⟩,
   fun r hr _ _=> .inr ?_,fun r r' hr hr' _ _ _ _ _=>hr.trans hr'.symm⟩
  ·show upd s.ob d _ r≠none
   rw [upd_ne (hne r hr)]
   exact hr
  ·subst hr
   rw [NM.set_same.1]
   exact Nat.le_refl _
 have k:=t.keep h.heap
 have hdd:(updO s.ob [(d,some ⟨ty,cs,true,false⟩)]).dom d:=by
  show upd s.ob d _ d≠none
  rw [upd_same]
  simp
 refine h.turn t (t.rel h.heap (fun r o hr ho=>?_) (fun r o hr ho hfz _=>?_)) (fun _ e=>by injection e with e;rw [← e];exact hd) (hx _ _ hdd)
 ·subst hr
  rw [hob] at ho
  injection ho with ho
  injection ho with ho
  subst ho
  refine ⟨.inr ⟨NM.set_same.2.2,us,?_,?_,fun _=>hl,by rw [hl];exact Nat.le_refl _,fun i x hx=>?_⟩⟩
  ·rw [NM.set_same.1]
   exact heap_alloc w _
  ·rw [NM.set_same.2.1]
  ·have hi:i<us.size:=by
    rw [hl]
    exact (List.getElem?_eq_some_iff.1 hx).1
   exact ⟨us[i],Array.getElem?_eq_getElem hi,k.rc (hc i x _ hx (Array.getElem?_eq_getElem hi))⟩
 ·subst hr
  rw [hob] at ho
  injection ho with ho
  injection ho with ho
  subst ho
  cases hfz
theorem getElem?_splice {α:Type} (xs ys:List α) (off i:Nat) (h:off+ys.length≤xs.length) :
  (xs.take off++ys++xs.drop (off+ys.length))[i]?=if off≤i∧i<off+ys.length then ys[i-off]? else xs[i]?:=by
 rw [List.append_assoc,List.getElem?_append,List.length_take,Nat.min_eq_left (by omega)]
 split
 ·rename_i h1
  rw [if_neg (by omega),List.getElem?_take,if_pos h1]
 ·rename_i h1
  rw [List.getElem?_append]
  split
  ·rename_i h2
   rw [if_pos (by omega)]
  ·rename_i h2
   rw [if_neg (by omega),List.getElem?_drop]
   congr 1
   omega
theorem Rel.set {r:Nat} {o:AObj} {off:Nat} {vs:List C} {us:List Value} {dst:Option Nat} {v:SV} {u:Value} (h:Rel K F m s a w) (ho:s.ob r=some (some o)) (hfr:o.fr=false) (hvd:m.vd r=false) (hl:us.length=vs.length) (hb:off+vs.length≤o.cs.length)
  (hc: ∀ (i:Nat) x v,vs[i]?=some x→us[i]?=some v→RC w (Vis K m s.ob w) m s.ob.dom x v) (hd: ∀ d,dst=some d→d<F.n)
  (hv: ∀ w' S dom,RS w' S m dom v u) :
  ∃ arr:Array Value,w.heap[m.g r]?=some (.cells arr o.ty (0,0))∧off+us.length≤arr.size∧Rel K F m (s.app dst v [(r,some { o with cs:=setAt o.cs off vs })]) (a.put dst u) (w.setRow (m.g r) (arr.toList.take off++us++arr.toList.drop (off+us.length)).toArray):=by
 rcases (h.heap.obj r o ho).row with ⟨h1,_⟩|⟨_,arr,h1,h2,h3,h4,h5⟩
 ·rw [hvd] at h1
  cases h1
 have hown:s.ob.own r:=⟨o,ho,hfr⟩
 have hfit:off+us.length≤arr.toList.length:=by simp;omega
 refine ⟨arr,h1,by simpa using hfit,?_⟩
 have hsz:(arr.toList.take off++us++arr.toList.drop (off+us.length)).toArray.size=arr.size:=by
  simp only [List.size_toArray,List.length_append,List.length_take,List.length_drop,Array.length_toList] at *
  omega
 generalize hnew:(arr.toList.take off++us++arr.toList.drop (off+us.length)).toArray=arr' at *
 have hob:updO s.ob [(r,some { o with cs:=setAt o.cs off vs })] r=some (some { o with cs:=setAt o.cs off vs }):=upd_same
 have hdom: ∀ r',s.ob.dom r'→(updO s.ob [(r,some { o with cs:=setAt o.cs off vs })]).dom r':=fun r' hr'=>by
  show upd s.ob r _ r'≠none
  by_cases e:r'=r
  ·subst e
   rw [upd_same]
   simp
  ·rw [upd_ne e]
   exact hr'
 have t:Turn K m m s.ob (updO s.ob [(r,some { o with cs:=setAt o.cs off vs })]) w (w.setRow (m.g r) arr') (fun r'=>r'=r):=by
  refine ⟨fun r' hr=>upd_ne hr,hdom,fun _ _=>rfl,fun _ _=>rfl,fun _ _=>rfl,⟨rfl,rfl,rfl,by simp [World.setRow],fun k hk hn=>setRow_other _ _ _ _ fun e=>hn ⟨r,rfl,hown,hvd,e.symm⟩⟩,
   fun r' hr _ _=> .inl ⟨r,rfl,hown,hvd,by rw [hr]⟩,fun r1 r2 hr hr' _ _ _ _ _=>hr.trans hr'.symm⟩
 have k:=t.keep h.heap
 have hcs:(setAt o.cs off vs).length=o.cs.length:=by
  simp only [setAt,List.length_append,List.length_take,List.length_drop]
  omega
 refine h.turn t (t.rel h.heap (fun r' o' hr ho'=>?_) (fun r' o' hr ho' hfz _=>?_)) hd (hv _ _ _)
 ·subst hr
  rw [hob] at ho'
  injection ho' with ho'
  injection ho' with ho'
  subst ho'
  refine ⟨.inr ⟨hvd,arr',setRow_heap w _ arr _ _ _ h1,hsz.trans h2,fun e=>?_,?_,fun i x hx=>?_⟩⟩
  ·rw [hsz,h3 e,hcs]
  ·rw [hsz,hcs]
   exact h4
  ·have hx':(if off≤i∧i<off+vs.length then vs[i-off]? else o.cs[i]?)=some x:=by
    rw [← getElem?_splice o.cs vs off i hb]
    exact hx
   have hg:arr'[i]?=if off≤i∧i<off+us.length then us[i-off]? else arr[i]?:=by
    rw [← hnew,List.getElem?_toArray,getElem?_splice _ _ _ _ hfit,show arr.toList[i]?=arr[i]? from Array.getElem?_toList]
   rw [hg,hl]
   split at hx'
   ·rename_i hi
    rw [if_pos hi]
    have hlt:i-off<us.length:=by
     rw [hl]
     omega
    exact ⟨us[i-off],List.getElem?_eq_getElem hlt,k.rc (hc _ _ _ hx' (List.getElem?_eq_getElem hlt))⟩
   ·rename_i hi
    rw [if_neg hi]
    obtain ⟨u',hu',hr'⟩:=h5 i x hx'
    exact ⟨u',hu',k.rc hr'⟩
 ·subst hr
  rw [hob] at ho'
  injection ho' with ho'
  injection ho' with ho'
  subst ho'
  rw [hfr] at hfz
  cases hfz
theorem Rel.freeze {r:Nat} {o:AObj} (h:Rel K F m s a w) (ho:s.ob r=some (some o)):Rel K F m ⟨s.sl,upd s.ob r (some (some { o with fr:=true }))⟩ a w∧(m.vd r=false→Vis K m (upd s.ob r (some (some { o with fr:=true }))) w (m.g r)):=by
 have hob:upd s.ob r (some (some { o with fr:=true })) r=some (some { o with fr:=true }):=upd_same
 have t:Turn K m m s.ob (upd s.ob r (some (some { o with fr:=true }))) w w (fun r'=>r'=r):=by
  refine ⟨fun r' hr=>upd_ne hr,fun r' hr'=>?_,fun _ _=>rfl,fun _ _=>rfl,fun _ _=>rfl,Ev.refl _ _,fun r' hr ⟨o',h1,h2⟩ _=>?_,fun r1 r2 hr hr' _ _ _ _ _=>hr.trans hr'.symm⟩
  ·show upd s.ob r _ r'≠none
   by_cases e:r'=r
   ·subst e
    rw [upd_same]
    simp
   ·rw [upd_ne e]
    exact hr'
  ·subst hr
   rw [hob] at h1
   injection h1 with h1
   injection h1 with h1
   subst h1
   cases h2
 have hvis:m.vd r=false→Vis K m (upd s.ob r (some (some { o with fr:=true }))) w (m.g r):=fun hvd=>by
  cases hf:o.fr with
  | true=>exact t.vis h.heap (h.heap.fz r o ho hf hvd)
  | false =>
   have hown:s.ob.own r:=⟨o,ho,hf⟩
   refine ⟨(h.heap.loc r hown hvd).elim (fun h=> .inr (.inl h)) (fun h=> .inr (.inr h)),h.heap.lt hown hvd,fun r' ⟨o',h1,h2⟩ hv' e=>?_⟩
   by_cases er:r'=r
   ·subst er
    rw [hob] at h1
    injection h1 with h1
    injection h1 with h1
    subst h1
    cases h2
   ·rw [upd_ne er] at h1
    exact er (h.heap.dist r' r ⟨o',h1,h2⟩ hown hv' hvd e)
 have k:=t.keep h.heap
 refine ⟨?_,hvis⟩
 have h0:=h.turn (dst:=none) (v:= .bot) (u:=undef) t (t.rel h.heap (fun r' o' hr ho'=>?_) (fun r' o' hr ho' hfz hvd=>?_)) (fun _ e=>by cases e) trivial
 ·exact h0
 ·subst hr
  rw [hob] at ho'
  injection ho' with ho'
  injection ho' with ho'
  subst ho'
  refine ⟨?_⟩
  rcases (h.heap.obj r' o ho).row with h1|⟨hv,arr,h1,h2,h3,h4,h5⟩
  ·exact .inl h1
  ·exact .inr ⟨hv,arr,h1,h2,h3,h4,fun i x hx=>by
    obtain ⟨u,hu,hr⟩:=h5 i x hx
    exact ⟨u,hu,k.rc hr⟩⟩
 ·subst hr
  exact hvis hvd
end
section
variable {G:Nat→Option (List D)} (P:Program) (K:Ctx G) (F:Fr) (s:FSt) (o:Oper) (a:Act) (w:World)
def OpGoal:Out→Prop
 | .val v U=> ∀ Q,o.wp P a w (fun a' w'=> ∃ m',Rel K F m' (s.app o.dst v U) a' w') Q
 | .pan v U=>o.wp P a w (fun _ _=>False) (fun e a' w'=>e= .panic [{ v,recovered:=false }]∧ ∃ m',Rel K F m' ⟨s.sl,updO s.ob U⟩ a' w')
def QG (Good:Out→Prop) (q:Q):Prop:= ∀ rs Kc,q.run s.ob rs Kc→ ∃ rs' out,Kc rs' out∧Good out
def QOk (q:Q):Prop:=QG s (OpGoal P K F s o a w) q
end
section
variable {G:Nat→Option (List D)} {P:Program} {K:Ctx G} {F:Fr} {s:FSt} {o:Oper} {a:Act} {w w':World} {m:NM}
section
variable {s:FSt} {Good:Out→Prop}
theorem QG.done {v:SV} {U:List (Nat × Option AObj)} (h:Good (.val v U)):QG s Good (.done v U):=fun rs _ hk=>⟨rs,_,hk,h⟩
theorem QG.pan {v:Value} {U:List (Nat × Option AObj)} (h:Good (.pan v U)):QG s Good (.pan v U):=fun rs _ hk=>⟨rs,_,hk,h⟩
theorem QG.need {p:Prop} {q:Q} (h:p→QG s Good q):QG s Good (.need p q):=fun rs Kc hk=>h hk.1 rs Kc hk.2
theorem QG.any {α:Type} {k:α→Q} (h: ∀ x,QG s Good (k x)):QG s Good (.any α k):=fun rs Kc ⟨x,hk⟩=>h x rs Kc hk
theorem QG.fail:QG s Good .fail:=fun _ _ h=>h.elim
theorem QG.new {r:Nat} {q:Q} (h:s.ob r=none→QG s Good q):QG s Good (.new r q):=fun rs Kc hk=>h hk.1 _ Kc hk.2
theorem QG.obj {r:Nat} {k:AObj→Q} (h: ∀ x,s.ob r=some (some x)→QG s Good (k x)):QG s Good (.obj r k):=fun rs Kc hk=>by
 simp only [Q.run] at hk
 split at hk
 ·rename_i x hx
  exact h x hx _ Kc hk
 ·exact hk.elim
end
theorem QOk.done {v:SV} {U:List (Nat × Option AObj)} (h:OpGoal P K F s o a w (.val v U)):QOk P K F s o a w (.done v U):=QG.done h
theorem QOk.pan {v:Value} {U:List (Nat × Option AObj)} (h:OpGoal P K F s o a w (.pan v U)):QOk P K F s o a w (.pan v U):=QG.pan h
theorem QOk.need {p:Prop} {q:Q} (h:p→QOk P K F s o a w q):QOk P K F s o a w (.need p q):=QG.need h
theorem QOk.any {α:Type} {k:α→Q} (h: ∀ x,QOk P K F s o a w (k x)):QOk P K F s o a w (.any α k):=QG.any h
theorem QOk.fail:QOk P K F s o a w .fail:=QG.fail
theorem QOk.new {r:Nat} {q:Q} (h:s.ob r=none→QOk P K F s o a w q):QOk P K F s o a w (.new r q):=QG.new h
theorem QOk.obj {r:Nat} {k:AObj→Q} (h: ∀ x,s.ob r=some (some x)→QOk P K F s o a w (k x)):QOk P K F s o a w (.obj r k):=QG.obj h
theorem val_goal {sem:Sem Value} {v:SV} {U:List (Nat × Option AObj)} {u:Value} (hx:execOp a.eval o=(do pure (Next.value (← sem)))) (hr:sem.run P w= .ok u w')
  (hR: ∃ m',Rel K F m' (s.app o.dst v U) (a.put o.dst u) w'):OpGoal P K F s o a w (.val v U):=fun Q=>by
 unfold Oper.wp
 rw [hx,Sem.run_bind,hr]
 exact hR
theorem skip_goal {sem:Sem Unit} {v:SV} {U:List (Nat × Option AObj)} (hx:execOp a.eval o=(do sem;pure Next.skip)) (hr:sem.run P w= .ok () w')
  (hR: ∃ m',Rel K F m' (s.app o.dst v U) (a.put o.dst undef) w'):OpGoal P K F s o a w (.val v U):=fun Q=>by
 unfold Oper.wp
 rw [hx,Sem.run_bind,hr]
 exact hR
structure TyOk (P:Program) (t:TypeId) (i:TypeInfo) (z:Value):Prop where
 info:P.info? t=some i
 und: ∃ d,P.underlying t=some d
 zero:i.zero=some z
 zsize:z.cells.size=i.size
 zone: ∀ u∈z.cells.toList,u.oneCell'=true
 pos:0<i.size
 one:(kdOf P t).agg=false→i.size=1
 sz:szOf P t=i.size
 by':byOf P t=i.bytes
theorem tyok_spec {t:TypeId} (h:tyok P t=true): ∃ i z,TyOk P t i z:=by
 unfold tyok at h
 split at h
 ·rename_i i d hi hu
  split at h
  ·rename_i z hz
   simp only [Bool.and_eq_true,beq_iff_eq,decide_eq_true_eq,Bool.or_eq_true,Array.all_eq_true'] at h
   obtain ⟨⟨⟨h1,h2⟩,h3⟩,h4⟩:=h
   exact ⟨i,z,hi,⟨d,hu⟩,hz,h1,fun u hu=>h2 u (by simpa using hu),h3,fun e=>h4.resolve_left (by rw [e];simp),by simp [szOf,hi],by simp [byOf,hi]⟩
  ·simp at h
 ·cases h
theorem run_sizeOf {t:TypeId} {i:TypeInfo} {z:Value} (T:TyOk P t i z):(sizeOf t).run P w= .ok (szOf P t) w:=by
 rw [T.sz]
 simp [sizeOf,typeInfo,T.info]
theorem run_isAgg {t:TypeId} {i:TypeInfo} {z:Value} (T:TyOk P t i z):(isAgg t).run P w= .ok (kdOf P t).agg w:=by
 obtain ⟨d,hu⟩:=T.und
 unfold isAgg kdOf
 simp only [Sem.run_bind,run_underlying hu,Result.andThen_ok,hu]
 cases d<;>rfl
theorem kd_arr {t e:TypeId} {n:Nat} (h:kdOf P t= .arr n e):P.underlying t=some (.array n e):=by
 unfold kdOf at h
 split at h<;>first|cases h|skip
 assumption
theorem kd_sl {t e:TypeId} (h:kdOf P t= .sl e):P.underlying t=some (.slice e):=by
 unfold kdOf at h
 split at h<;>first|cases h|skip
 assumption
theorem kd_str {t:TypeId} (h:kdOf P t= .str):P.underlying t=some .string:=by
 unfold kdOf at h
 split at h<;>first|cases h|skip
 assumption
theorem kd_int {t:TypeId} {k:IntKind} (h:kdOf P t= .int k):P.underlying t=some (.int k):=by
 unfold kdOf at h
 split at h<;>first|cases h|skip
 assumption
theorem kd_bool {t:TypeId} (h:kdOf P t= .bool):P.underlying t=some .bool:=by
 unfold kdOf at h
 split at h<;>first|cases h|skip
 assumption
theorem rs_ptr {S:Nat→Prop} {dom:Nat→Prop} {r off:Nat} {u:Value} (h:RS w S m dom (.a (.c (.ptr r off))) u):dom r∧m.vd r=false∧u= .pointer (some ⟨m.g r,off,none⟩):=h
theorem rs_int {S:Nat→Prop} {dom:Nat→Prop} {k:IntKind} {i:Int} {u:Value} (h:RS w S m dom (.a (.c (.d (.v (.int k i))))) u):u= .int k i:=by
 have h:RD w S (.v (.int k i)) u:=h
 cases h
 rfl
theorem rs_v {S:Nat→Prop} {dom:Nat→Prop} {v u:Value} (h:RS w S m dom (.a (.c (.d (.v v)))) u):u=v:=by
 have h:RD w S (.v v) u:=h
 cases h
 rfl
theorem rd_v {S:Nat→Prop} {v:Value} (h:v.oneCell'=true) {dom:Nat→Prop}:RS w S m dom (.a (.c (.d (.v v)))) v:=RD.v v h
theorem rd_ptr {S:Nat→Prop} {cs:List D} {off:Nat} {u:Value} (h:RD w S (.ptr cs off) u) :
  ∃ (b o:Nat) (us:Nat→Value),u= .pointer (some ⟨b,o+off,none⟩)∧S b∧(∀ (i:Nat) x,cs[i]?=some x→w.cell? ⟨b,o+i,none⟩=some (us i))∧ ∀ (i:Nat) x,cs[i]?=some x→RD w S x (us i):=by
 cases h with
 | ptr off b o cs us hb hw h=>exact ⟨b,o,us,rfl,hb,hw,h⟩
theorem rd_sl {S:Nat→Prop} {cs:List D} {n:Nat} {u:Value} (h:RD w S (.sl n cs) u) :
  ∃ A c,u= .slice A n c∧n≤c∧c≤9223372036854775807∧((n=0∧cs=[])∨ ∃ (b o:Nat) (us:Nat→Value),A=some ⟨b,o,none⟩∧S b∧(∀ (i:Nat) x,cs[i]?=some x→w.cell? ⟨b,o+i,none⟩=some (us i))∧ ∀ (i:Nat) x,cs[i]?=some x→RD w S x (us i)):=by
 cases h with
 | nil A c h=>exact ⟨A,c,rfl,Nat.zero_le _,h,.inl ⟨rfl,rfl⟩⟩
 | sl n c b o cs us hn hc hb hw h=>exact ⟨_,c,rfl,hn,hc,.inr ⟨b,o,us,rfl,hb,hw,h⟩⟩
theorem Rel.obj {r:Nat} {ob:AObj} (h:Rel K F m s a w) (ho:s.ob r=some (some ob)) (hv:m.vd r=false) :
  ∃ arr:Array Value,w.heap[m.g r]?=some (.cells arr ob.ty (0,0))∧arr.size=m.N r∧(ob.ex=true→arr.size=ob.cs.length)∧ob.cs.length≤arr.size∧ ∀ (i:Nat) x,ob.cs[i]?=some x→ ∃ u,arr[i]?=some u∧RC w (Vis K m s.ob w) m s.ob.dom x u:=by
 rcases (h.heap.obj r ob ho).row with ⟨h1,_⟩|⟨_,h2⟩
 ·rw [hv] at h1
  cases h1
 ·exact h2
theorem cell_arr {g i:Nat} {arr:Array Value} {t:TypeId} (h:w.heap[g]?=some (.cells arr t (0,0))):w.cell? ⟨g,i,none⟩=arr[i]?:=by
 simp [World.cell?,h]
theorem ok_move {x:Operand} (hR:Rel K F m s a w) (hd: ∀ d,o.dst=some d→d<F.n) (hx:execOp a.eval o=pure (Next.value (a.eval x))) (hc:constOk x=true):QOk P K F s o a w (.done (evl G s.sl x) []):=
 .done fun Q=>by
  unfold Oper.wp
  rw [hx]
  exact ⟨m,hR.put hd (evl_ok hR x hc)⟩
theorem ok_val {sem:Sem Value} {v:SV} {u:Value} (hR:Rel K F m s a w) (hd: ∀ d,o.dst=some d→d<F.n) (hx:execOp a.eval o=(do pure (Next.value (← sem)))) (hr:sem.run P w= .ok u w)
  (hv:RS w (Vis K m s.ob w) m s.ob.dom v u):QOk P K F s o a w (.done v []):= .done (val_goal hx hr ⟨m,hR.put hd hv⟩)
theorem run_load_one {p:Addr} {u:Value} (h:w.cell? p=some u):(load p).run P w= .ok u w:=by
 simp only [load,Sem.run,h]
theorem ok_rd {t:TypeId} {i:TypeInfo} {z:Value} {b off:Nat} {cs:List C} (hR:Rel K F m s a w) (hd: ∀ d,o.dst=some d→d<F.n) (T:TyOk P t i z) {x:Value} (hx:execOp a.eval o=(do pure (Next.value (← Instr.loadAt t (.pointer (some ⟨b,off,none⟩))))))
  (hc: ∀ (j:Nat) y,cs[off+j]?=some y→ ∃ u,w.cell? ⟨b,off+j,none⟩=some u∧RC w (Vis K m s.ob w) m s.ob.dom y u):QOk P K F s o a w (rdQ (kdOf P t).agg (szOf P t) cs off):=by
 cases hk:(kdOf P t).agg with
 | true =>
  refine .need fun hle=>?_
  have hj: ∀ j,j<szOf P t→ ∃ u,w.cell? ((⟨b,off,none⟩:Addr).add j)=some u∧ ∀ y,cs[off+j]?=some y→RC w (Vis K m s.ob w) m s.ob.dom y u:=by
   intro j hj
   obtain ⟨u,h1,h2⟩:=hc j cs[off+j] (List.getElem?_eq_getElem (by omega))
   refine ⟨u,by rw [Addr.add_lit];exact h1,fun y hy=>?_⟩
   rw [List.getElem?_eq_getElem (by omega)] at hy
   injection hy with hy
   subst hy
   exact h2
  have hjj: ∀ j,∃ u,j<szOf P t→w.cell? ((⟨b,off,none⟩:Addr).add j)=some u∧ ∀ y,cs[off+j]?=some y→RC w (Vis K m s.ob w) m s.ob.dom y u:=fun j=>by
   by_cases h:j<szOf P t
   ·obtain ⟨u,hu⟩:=hj j h
    exact ⟨u,fun _=>hu⟩
   ·exact ⟨undef,fun h'=>absurd h' h⟩
  have hf:=fun j=>Classical.choose_spec (hjj j)
  generalize (fun j=>Classical.choose (hjj j))=f at hf
  have hrun:(Instr.loadAt t (.pointer (some ⟨b,off,none⟩))).run P w= .ok (.agg ((List.range (szOf P t)).map fun j=>Classical.choose (hjj j)).toArray) w:=by
   simp only [Instr.loadAt,Instr.sureAddr,Sem.run_bind,Sem.run_pure,Result.andThen_ok,loadVar,run_isAgg T,hk,if_true,run_sizeOf T]
   rw [run_loadCells w ⟨b,off,none⟩ (szOf P t) (fun j=>Classical.choose (hjj j)) (fun j hj=>(hf j hj).1)]
   rfl
  refine ok_val hR hd hx hrun ⟨_,rfl,?_,fun j y v hy hv=>?_⟩
  ·simp only [List.length_map,List.length_range,List.length_take,List.length_drop]
   omega
  ·rw [List.getElem?_take] at hy
   split at hy
   ·rename_i hlt
    rw [List.getElem?_drop] at hy
    simp only [List.getElem?_map,List.getElem?_range hlt,Option.map_some,Option.some.injEq] at hv
    subst hv
    exact (hf j hlt).2 y hy
   ·cases hy
 | false =>
  unfold rdQ
  dsimp only
  split
  ·rename_i y hy
   obtain ⟨u,h1,h2⟩:=hc 0 y hy
   refine ok_val hR hd hx ?_ h2
   simp only [Instr.loadAt,Instr.sureAddr,Sem.run_bind,Sem.run_pure,Result.andThen_ok,loadVar,run_isAgg T,hk,Bool.false_eq_true,if_false]
   exact run_load_one h1
  ·exact .fail
theorem rdD_eq {ag:Bool} {sz off:Nat} {cs:List D}:rdD ag sz cs off=rdQ ag sz (cs.map C.d) off:=by
 cases ag with
 | true=>simp [rdD,rdQ,List.map_take,List.map_drop]
 | false =>
  simp only [rdD,rdQ,List.getElem?_map]
  cases cs[off]?<;>rfl
theorem ok_load {t:TypeId} {x:Operand} (hR:Rel K F m s a w) (hd: ∀ d,o.dst=some d→d<F.n) (hx:execOp a.eval o=(do pure (Next.value (← Instr.loadAt t (a.eval x))))) (hcx:constOk x=true):QOk P K F s o a w (loadQ P t (evl G s.sl x)):=by
 have hv:=evl_ok hR x hcx
 unfold loadQ
 split
 ·rename_i r off e
  rw [e] at hv
  obtain ⟨_,hvd,hu⟩:=rs_ptr hv
  rw [hu] at hx
  refine .need fun ht=> .obj fun ob ho=>?_
  obtain ⟨i,z,T⟩:=tyok_spec ht
  obtain ⟨arr,h1,h2,h3,h4,h5⟩:=hR.obj ho hvd
  exact ok_rd hR hd T (x:=undef) hx fun j y hy=>by
   rw [cell_arr h1]
   exact h5 _ y hy
 ·rename_i cs off e
  rw [e] at hv
  obtain ⟨b,o',us,hu,hb,h1,h2⟩:=rd_ptr hv
  rw [hu] at hx
  refine .need fun ht=>?_
  obtain ⟨i,z,T⟩:=tyok_spec ht
  rw [rdD_eq]
  exact ok_rd (b:=b) (off:=o'+off) (cs:=List.replicate o' .nil++cs.map C.d) hR hd T (x:=undef) hx (fun j y hy=>by
   rw [List.getElem?_append,if_neg (by simp;omega)] at hy
   simp only [List.length_replicate,List.getElem?_map] at hy
   rw [show o'+off+j-o'=off+j by omega] at hy
   cases hc:cs[off+j]? with
   | none=>rw [hc] at hy;cases hy
   | some x =>
    rw [hc] at hy
    simp at hy
    subst hy
    exact ⟨us (off+j),by rw [Nat.add_assoc];exact h1 _ x hc,h2 _ x hc⟩) |> fun h=>by
   have e1:rdQ (kdOf P t).agg (szOf P t) (List.replicate o' C.nil++cs.map C.d) (o'+off)=rdQ (kdOf P t).agg (szOf P t) (cs.map C.d) off:=by
    cases (kdOf P t).agg with
    | true =>
     simp only [rdQ,List.length_append,List.length_replicate]
     have e2:(List.replicate o' C.nil++cs.map C.d).drop (o'+off)=(cs.map C.d).drop off:=by
      rw [List.drop_append,List.drop_eq_nil_of_le (by simp)]
      simp
     rw [e2]
     congr 1
     simp only [eq_iff_iff]
     omega
    | false =>
     simp only [rdQ]
     rw [List.getElem?_append,if_neg (by simp)]
     simp
   rw [← e1]
   exact h
 ·exact .fail
end
section
variable {G:Nat→Option (List D)} {P:Program} {K:Ctx G} {F:Fr} {s:FSt} {o:Oper} {a:Act} {w w':World} {m:NM}
theorem fld_spec {t:TypeId} {f:Nat} (h:isFld P t f=true): ∃ fs fd i,P.underlying t=some (.struct fs)∧fs[f]?=some fd∧P.info? fd.type=some i∧0<i.size∧fldOf P t f=(fd.offset,fd.type):=by
 unfold isFld at h
 split at h
 ·rename_i fs hu
  simp only [Bool.and_eq_true,decide_eq_true_eq,Option.isSome_iff_exists] at h
  obtain ⟨⟨fd,hf⟩,h2⟩:=h
  have h3:fldOf P t f=(fd.offset,fd.type):=by simp [fldOf,hu,hf]
  rw [h3] at h2
  simp only [szOf] at h2
  cases hi:P.info? fd.type with
  | none=>rw [hi] at h2;simp at h2
  | some i =>
   rw [hi] at h2
   exact ⟨fs,fd,i,hu,hf,hi,by simpa using h2,h3⟩
 ·cases h
theorem run_fieldAt {t:TypeId} {f:Nat} {A:Addr} (h:isFld P t f=true):(Instr.fieldAt t (.pointer (some A)) f).run P w= .ok (.pointer (some (A.add (fldOf P t f).1))) w:=by
 obtain ⟨fs,fd,i,hu,hf,hi,hp,e⟩:=fld_spec h
 simp only [Instr.fieldAt,Sem.run_bind,run_underlying hu,Result.andThen_ok,hf,Instr.sureAddr,Sem.run_pure,fieldPlace,sizeOf,typeInfo,hi,program,Sem.run,e]
 rw [if_neg (by omega)]
 rfl
theorem ok_fieldAddr {t:TypeId} {x:Operand} {f:Nat} (hR:Rel K F m s a w) (hd: ∀ d,o.dst=some d→d<F.n) (hx:execOp a.eval o=(do pure (Next.value (← Instr.fieldAt t (a.eval x) f)))) (hcx:constOk x=true):QOk P K F s o a w (fieldAddrQ P t (evl G s.sl x) f):=by
 have hv:=evl_ok hR x hcx
 unfold fieldAddrQ
 split
 ·rename_i r off e
  rw [e] at hv
  obtain ⟨h1,h2,hu⟩:=rs_ptr hv
  rw [hu] at hx
  exact .need fun ht=>ok_val hR hd hx (run_fieldAt ht) ⟨h1,h2,by rw [Addr.add_lit]⟩
 ·rename_i cs off e
  rw [e] at hv
  obtain ⟨b,o',us,hu,hb,h1,h2⟩:=rd_ptr hv
  rw [hu] at hx
  refine .need fun ht=>ok_val hR hd hx (run_fieldAt ht) ?_
  rw [Addr.add_lit,Nat.add_assoc]
  exact RD.ptr _ b o' cs us hb h1 h2
 ·exact .fail
theorem run_indexArr {t e:TypeId} {n:Nat} {i:TypeInfo} {z:Value} {A:Addr} {k:IntKind} {j:Int} (h:kdOf P t= .arr n e) (T:TyOk P e i z) (h0:0≤j) (h1:j<n) :
  (Instr.indexAt t (.pointer (some A)) (.int k j)).run P w= .ok (.pointer (some (A.add (j.toNat*szOf P e)))) w:=by
 simp only [Instr.indexAt,asIntOf,Sem.run_bind,Sem.run_pure,Result.andThen_ok,run_underlying (kd_arr h),Instr.sureAddr,h0,h1,and_self,if_true,run_sizeOf T]
theorem run_indexSl {t e:TypeId} {n c:Nat} {i:TypeInfo} {z:Value} {A:Addr} {k:IntKind} {j:Int} (h:kdOf P t= .sl e) (T:TyOk P e i z) (h0:0≤j) (h1:j<n) :
  (Instr.indexAt t (.slice (some A) n c) (.int k j)).run P w= .ok (.pointer (some (A.add (j.toNat*szOf P e)))) w:=by
 simp only [Instr.indexAt,asIntOf,Sem.run_bind,Sem.run_pure,Result.andThen_ok,run_underlying (kd_sl h),Instr.sureAddr,h0,h1,and_self,if_true,run_sizeOf T]
theorem cap_addr {cap:Cap} {A:Option Addr} {g N:Nat} {vd:Bool} {sz off n c:Nat} (h:cap.ok A g N vd sz off n c) (hn:n≤c) (h0:0<n):vd=false∧A=some ⟨g,off,none⟩:=by
 cases cap with
 | grow =>
  obtain ⟨rfl,⟨_,_,h,_⟩|⟨h1,h2,_⟩⟩:=h
  ·omega
  ·exact ⟨h1,h2⟩
 | ex k=>exact h.2 (.inl (by have:=h.1;omega))
 | any=>exact h h0
theorem rs_row {S:Nat→Prop} {dom:Nat→Prop} {r sz off n:Nat} {cap:Cap} {u:Value} (h:RS w S m dom (.a (.c (.row r sz off n cap))) u) :
  dom r∧ ∃ A c,u= .slice A n c∧n≤c∧c≤9223372036854775807∧cap.ok A (m.g r) (m.N r) (m.vd r) sz off n c:=h
theorem ok_indexAddr {t:TypeId} {x i:Operand} (hR:Rel K F m s a w) (hd: ∀ d,o.dst=some d→d<F.n) (hx:execOp a.eval o=(do pure (Next.value (← Instr.indexAt t (a.eval x) (a.eval i))))) (hcx:constOk x=true) (hci:constOk i=true) :
  QOk P K F s o a w (indexAddrQ P t (evl G s.sl x) (evl G s.sl i)):=by
 have hv:=evl_ok hR x hcx
 have hi:=evl_ok hR i hci
 unfold indexAddrQ
 split
 ·rename_i k j ei
  rw [ei] at hi
  rw [rs_int hi] at hx
  split
  ·rename_i n e r off hk ex
   rw [ex] at hv
   obtain ⟨h1,h2,hu⟩:=rs_ptr hv
   rw [hu] at hx
   refine .need fun ⟨ht,h0,hn⟩=>?_
   obtain ⟨ti,z,T⟩:=tyok_spec ht
   exact ok_val hR hd hx (run_indexArr hk T h0 hn) ⟨h1,h2,by rw [Addr.add_lit]⟩
  ·rename_i n e cs off hk ex
   rw [ex] at hv
   obtain ⟨b,o',us,hu,hb,h1,h2⟩:=rd_ptr hv
   rw [hu] at hx
   refine .need fun ⟨ht,h0,hn⟩=>?_
   obtain ⟨ti,z,T⟩:=tyok_spec ht
   refine ok_val hR hd hx (run_indexArr hk T h0 hn) ?_
   rw [Addr.add_lit,Nat.add_assoc]
   exact RD.ptr _ b o' cs us hb h1 h2
  ·rename_i e r sz off n cap hk ex
   rw [ex] at hv
   obtain ⟨h1,A,c,hu,hnc,hcm,hcap⟩:=rs_row hv
   rw [hu] at hx
   refine .need fun ⟨ht,h0,hn⟩=>?_
   obtain ⟨ti,z,T⟩:=tyok_spec ht
   obtain ⟨hvd,rfl⟩:=cap_addr hcap hnc (by omega)
   exact ok_val hR hd hx (run_indexSl hk T h0 hn) ⟨h1,hvd,by rw [Addr.add_lit]⟩
  ·rename_i e n cs hk ex
   rw [ex] at hv
   obtain ⟨A,c,hu,hnc,hcm,h⟩:=rd_sl hv
   rw [hu] at hx
   refine .need fun ⟨ht,h0,hn⟩=>?_
   obtain ⟨ti,z,T⟩:=tyok_spec ht
   rcases h with ⟨h,_⟩|⟨b,o',us,rfl,hb,h1,h2⟩
   ·omega
   refine ok_val hR hd hx (run_indexSl hk T h0 hn) ?_
   rw [Addr.add_lit]
   exact RD.ptr _ b o' cs us hb h1 h2
  ·exact .fail
 ·exact .fail
theorem run_part {t:TypeId} {i:TypeInfo} {z:Value} {us:List Value} {off:Nat} (T:TyOk P t i z) (h:off+szOf P t≤us.length) :
  ∃ u,(part t us.toArray off).run P w= .ok u w∧(if (kdOf P t).agg then u= .agg ((us.drop off).take (szOf P t)).toArray else us[off]?=some u):=by
 cases hk:(kdOf P t).agg with
 | true =>
  refine ⟨_,?_,rfl⟩
  simp only [part,Sem.run_bind,run_isAgg T,Result.andThen_ok,hk,if_true,run_sizeOf T,Sem.run_pure]
  congr 2
  apply Array.ext'
  simp [List.extract_eq_take_drop]
 | false =>
  have h1:szOf P t=1:=by rw [T.sz];exact T.one hk
  have hlt:off<us.length:=by omega
  refine ⟨us[off],?_,by simp [List.getElem?_eq_getElem hlt]⟩
  simp only [part,Sem.run_bind,run_isAgg T,Result.andThen_ok,hk,Bool.false_eq_true,if_false]
  simp [hlt]
theorem ok_part {sem:Sem Value} {t:TypeId} {i:TypeInfo} {z:Value} {cs:List C} {us:List Value} {off:Nat} (hR:Rel K F m s a w) (hd: ∀ d,o.dst=some d→d<F.n) (T:TyOk P t i z) (h:off+szOf P t≤cs.length) (hl:us.length=cs.length)
  (hc: ∀ (i:Nat) x v,cs[i]?=some x→us[i]?=some v→RC w (Vis K m s.ob w) m s.ob.dom x v) (hx:execOp a.eval o=(do pure (Next.value (← sem)))) (hs:sem.run P w=(part t us.toArray off).run P w) :
  QOk P K F s o a w (partQ (kdOf P t).agg (szOf P t) cs off):=by
 obtain ⟨u,hu,hw⟩:=run_part (P:=P) (w:=w) (us:=us) (off:=off) T (by omega)
 cases hk:(kdOf P t).agg with
 | true =>
  rw [hk,if_pos rfl] at hw
  subst hw
  refine ok_val hR hd hx (hs.trans hu) ⟨_,rfl,by simp [hl],fun j y v hy hv=>?_⟩
  rw [List.getElem?_take] at hy hv
  split at hy
  ·rename_i hlt
   rw [if_pos hlt,List.getElem?_drop] at hv
   rw [List.getElem?_drop] at hy
   exact hc _ y v hy hv
  ·cases hy
 | false =>
  rw [hk] at hw
  simp only [Bool.false_eq_true,if_false] at hw
  unfold partQ
  dsimp only
  split
  ·rename_i y hy
   exact ok_val hR hd hx (hs.trans hu) (hc _ y u hy hw)
  ·exact .fail
theorem rs_agg {S:Nat→Prop} {dom:Nat→Prop} {cs:List C} {u:Value} (h:RS w S m dom (.a (.agg cs)) u): ∃ us:List Value,u= .agg us.toArray∧us.length=cs.length∧ ∀ (i:Nat) x v,cs[i]?=some x→us[i]?=some v→RC w S m dom x v:=h
theorem ok_field {t:TypeId} {x:Operand} {f:Nat} (hR:Rel K F m s a w) (hd: ∀ d,o.dst=some d→d<F.n) (hx:execOp a.eval o=(do pure (Next.value (← Instr.field t (a.eval x) f)))) (hcx:constOk x=true):QOk P K F s o a w (fieldQ P t (evl G s.sl x) f):=by
 have hv:=evl_ok hR x hcx
 unfold fieldQ
 split
 ·rename_i cs e
  rw [e] at hv
  obtain ⟨us,hu,hl,hc⟩:=rs_agg hv
  rw [hu] at hx
  refine .need fun ⟨hf,ht,hle⟩=>?_
  obtain ⟨ti,z,T⟩:=tyok_spec ht
  obtain ⟨fs,fd,i,hun,hfd,hi,hp,ef⟩:=fld_spec hf
  rw [ef] at T hle ⊢
  refine ok_part hR hd T hle hl hc hx ?_
  simp only [Instr.field,Sem.run_bind,run_underlying hun,Result.andThen_ok,hfd,asAgg,Sem.run_pure]
 ·exact .fail
theorem ok_extract {x:Operand} {i:Nat} (hR:Rel K F m s a w) (hd: ∀ d,o.dst=some d→d<F.n) (hx:execOp a.eval o=(do pure (Next.value (← Instr.extract (a.eval x) i)))) (hcx:constOk x=true):QOk P K F s o a w (extractQ (evl G s.sl x) i):=by
 have hv:=evl_ok hR x hcx
 unfold extractQ
 split
 ·rename_i l e
  rw [e] at hv
  obtain ⟨us,hu,hl,hc⟩:=hv
  rw [hu] at hx
  split
  ·rename_i y hy
   have hlt:i<us.length:=by
    rw [hl]
    exact (List.getElem?_eq_some_iff.1 hy).1
   refine ok_val hR hd hx (u:=us[i]) ?_ (hc i y _ hy (List.getElem?_eq_getElem hlt))
   simp [Instr.extract,hlt]
  ·exact .fail
 ·exact .fail
theorem ok_index {t:TypeId} {x i:Operand} (hR:Rel K F m s a w) (hd: ∀ d,o.dst=some d→d<F.n) (hx:execOp a.eval o=(do pure (Next.value (← Instr.index t (a.eval x) (a.eval i))))) (hcx:constOk x=true) (hci:constOk i=true) :
  QOk P K F s o a w (indexQ P t (evl G s.sl x) (evl G s.sl i)):=by
 have hv:=evl_ok hR x hcx
 have hi:=evl_ok hR i hci
 unfold indexQ
 split
 ·rename_i k j cs ei ex
  rw [ei] at hi
  rw [ex] at hv
  rw [rs_int hi] at hx
  obtain ⟨us,hu,hl,hc⟩:=rs_agg hv
  rw [hu] at hx
  split
  ·rename_i n e hk
   refine .need fun ⟨ht,h0,hn,hle⟩=>?_
   obtain ⟨ti,z,T⟩:=tyok_spec ht
   refine ok_part hR hd T hle hl hc hx ?_
   simp only [Instr.index,asIntOf,Sem.run_bind,Sem.run_pure,Result.andThen_ok,run_underlying (kd_arr hk),h0,hn,and_self,if_true,run_sizeOf T]
  ·exact .fail
 ·rename_i k j st ei ex
  rw [ei] at hi
  rw [ex] at hv
  rw [rs_int hi,rs_v hv] at hx
  split
  ·rename_i b hk hb
   refine .need fun h0=>?_
   refine ok_val hR hd hx (u:= .int .u8 (b.toNat:Int)) ?_ (rd_v rfl)
   have hb':st[j.toNat]?=some b:=by
    rw [← hb]
    rfl
   simp only [Instr.index,asIntOf,Sem.run_bind,Sem.run_pure,Result.andThen_ok,run_underlying (kd_str hk),h0,if_true,hb']
  ·exact .fail
 ·exact .fail
theorem ok_nilCheck {x:Operand} (hR:Rel K F m s a w) (hd: ∀ d,o.dst=some d→d<F.n) (ho:o.op= .nilCheck x) (hcx:constOk x=true):QOk P K F s o a w (nilCheckQ (evl G s.sl x)):=by
 have hv:=evl_ok hR x hcx
 unfold nilCheckQ
 split
 ·rename_i r off e
  rw [e] at hv
  obtain ⟨_,_,hu⟩:=rs_ptr hv
  refine .done fun Q=>?_
  have hx:execOp a.eval o=pure (Next.value (a.eval x)):=by simp only [execOp,ho,hu]
  unfold Oper.wp
  rw [hx]
  exact ⟨m,hR.put hd (by rw [e];exact hv)⟩
 ·rename_i cs off e
  rw [e] at hv
  obtain ⟨b,o',us,hu,hb,h1,h2⟩:=rd_ptr hv
  refine .done fun Q=>?_
  have hx:execOp a.eval o=pure (Next.value (a.eval x)):=by simp only [execOp,ho,hu]
  unfold Oper.wp
  rw [hx]
  exact ⟨m,hR.put hd (by rw [e];exact hv)⟩
 ·exact .fail
theorem ok_arrPtr {t:TypeId} {x:Operand} (hR:Rel K F m s a w) (hd: ∀ d,o.dst=some d→d<F.n) (hx:execOp a.eval o=(do pure (Next.value (← Instr.arrayAt t (a.eval x))))) (hcx:constOk x=true):QOk P K F s o a w (arrPtrQ P t (evl G s.sl x)):=by
 have hv:=evl_ok hR x hcx
 unfold arrPtrQ
 split
 ·rename_i k e r sz off n cap hk ex
  rw [ex] at hv
  obtain ⟨h1,A,c,hu,hnc,hcm,hcap⟩:=rs_row hv
  rw [hu] at hx
  refine .need fun ⟨h0,hn⟩=>?_
  obtain ⟨hvd,rfl⟩:=cap_addr hcap hnc (by omega)
  refine ok_val hR hd hx (u:= .pointer (some ⟨m.g r,off,none⟩)) ?_ ⟨h1,hvd,rfl⟩
  simp only [Instr.arrayAt,Sem.run_bind,run_underlying (kd_arr hk),Result.andThen_ok]
  rw [if_neg (by omega)]
  rfl
 ·rename_i k e n cs hk ex
  rw [ex] at hv
  obtain ⟨A,c,hu,hnc,hcm,h⟩:=rd_sl hv
  rw [hu] at hx
  refine .need fun ⟨h0,hn⟩=>?_
  rcases h with ⟨h,_⟩|⟨b,o',us,rfl,hb,h1,h2⟩
  ·omega
  refine ok_val hR hd hx (u:= .pointer (some ⟨b,o',none⟩)) ?_ (RD.ptr 0 b o' cs us hb h1 h2)
  simp only [Instr.arrayAt,Sem.run_bind,run_underlying (kd_arr hk),Result.andThen_ok]
  rw [if_neg (by omega)]
  rfl
 ·exact .fail
end
section
variable {G:Nat→Option (List D)} {P:Program} {K:Ctx G} {F:Fr} {s:FSt} {o:Oper} {a:Act} {w w':World} {m:NM}
def Bnd (x:Option Value) (d i:Int):Prop:=(x=none∧i=d)∨ ∃ k,x=some (.int k i)
theorem ok_bnd {x:Option Operand} {d:Int} {k:Int→Q} (hR:Rel K F m s a w) (hc: ∀ y,x=some y→constOk y=true) (h: ∀ i,Bnd (x.map a.eval) d i→QOk P K F s o a w (k i)):QOk P K F s o a w (bndQ (x.map (evl G s.sl)) d k):=by
 cases x with
 | none=>exact h d (.inl ⟨rfl,rfl⟩)
 | some y =>
  have hv:=evl_ok hR y (hc y rfl)
  simp only [Option.map_some] at h ⊢
  unfold bndQ
  split
  ·rename_i e
   cases e
  ·rename_i kd i e
   injection e with e
   rw [e] at hv
   exact h i (.inr ⟨kd,by rw [rs_int hv]⟩)
  ·exact .fail
theorem run_bounds {sl:Bool} {len cap:Nat} {lo hi:Option Value} {l h:Int} (hl:Bnd lo 0 l) (hh:Bnd hi len h) (h0:0≤l) (h1:l≤h) (h2:h≤cap) :
  (Instr.sliceBounds sl len cap lo hi none).run P w= .ok (l.toNat,h.toNat,cap) w:=by
 have e1: ∀ k code (y:Nat),l≤y→(Instr.sliceBound (.int k l) y code).run P w= .ok l.toNat w:=fun k code y hy=>by
  simp only [Instr.sliceBound,asIntOf,Sem.run_bind,Sem.run_pure,Result.andThen_ok]
  rw [if_pos ⟨h0,hy⟩]
  rfl
 have e2: ∀ k code (y:Nat),h≤y→(Instr.sliceBound (.int k h) y code).run P w= .ok h.toNat w:=fun k code y hy=>by
  simp only [Instr.sliceBound,asIntOf,Sem.run_bind,Sem.run_pure,Result.andThen_ok]
  rw [if_pos ⟨by omega,hy⟩]
  rfl
 rcases hl with ⟨rfl,rfl⟩|⟨k,rfl⟩<;>rcases hh with ⟨rfl,rfl⟩|⟨k',rfl⟩
 ·simp only [Instr.sliceBounds,Sem.run_bind,Sem.run_pure,Result.andThen_ok]
  rfl
 ·simp only [Instr.sliceBounds,Sem.run_bind,Sem.run_pure,Result.andThen_ok,e2 k' _ cap h2]
  rfl
 ·simp only [Instr.sliceBounds,Sem.run_bind,Sem.run_pure,Result.andThen_ok,e1 k _ len h1]
  rfl
 ·simp only [Instr.sliceBounds,Sem.run_bind,Sem.run_pure,Result.andThen_ok,e2 k' _ cap h2]
  simp only [e1 k _ h.toNat (by omega),Result.andThen_ok,Sem.run_pure]
theorem run_cut {t e:TypeId} {i:TypeInfo} {z:Value} {A:Option Addr} {n c:Nat} {lo hi:Option Value} {l h:Int} (hk:kdOf P t= .sl e) (T:TyOk P e i z) (hl:Bnd lo 0 l) (hh:Bnd hi n h) (h0:0≤l) (h1:l≤h) (h2:h≤c) :
  (Instr.sliceAt t (.slice A n c) lo hi none).run P w= .ok (.slice (if c=l.toNat then A else A.map (·.add (l.toNat*szOf P e))) (h.toNat-l.toNat) (c-l.toNat)) w:=by
 simp only [Instr.sliceAt,Instr.slice,Sem.run_bind,run_underlying (kd_sl hk),Result.andThen_ok,run_bounds hl hh h0 h1 h2,run_sizeOf T,Sem.run_pure]
theorem run_cutArr {t e:TypeId} {i:TypeInfo} {z:Value} {A:Addr} {k:Nat} {lo hi:Option Value} {l h:Int} (hk:kdOf P t= .arr k e) (T:TyOk P e i z) (hl:Bnd lo 0 l) (hh:Bnd hi k h) (h0:0≤l) (h1:l≤h) (h2:h≤k) :
  (Instr.sliceAt t (.pointer (some A)) lo hi none).run P w= .ok (.slice (some (if k=l.toNat then A else A.add (l.toNat*szOf P e))) (h.toNat-l.toNat) (k-l.toNat)) w:=by
 simp only [Instr.sliceAt,Sem.run_bind,run_underlying (kd_arr hk),Result.andThen_ok,Instr.sureAddr,run_bounds hl hh h0 h1 h2,run_sizeOf T,Sem.run_pure]
theorem run_cutStr {t:TypeId} {st:ByteArray} {lo hi:Option Value} {l h:Int} (hk:kdOf P t= .str) (hl:Bnd lo 0 l) (hh:Bnd hi st.size h) (h0:0≤l) (h1:l≤h) (h2:h≤st.size) :
  (Instr.sliceAt t (.string st) lo hi none).run P w= .ok (.string (st.extract l.toNat h.toNat)) w:=by
 simp only [Instr.sliceAt,Instr.slice,Sem.run_bind,run_underlying (kd_str hk),Result.andThen_ok,Option.isSome_none,Bool.false_eq_true,if_false,run_bounds hl hh h0 h1 h2,Sem.run_pure]
theorem ok_slice {t:TypeId} {x:Operand} {lo hi:Option Operand} (hR:Rel K F m s a w) (hd: ∀ d,o.dst=some d→d<F.n) (hx:execOp a.eval o=(do pure (Next.value (← Instr.sliceAt t (a.eval x) (lo.map a.eval) (hi.map a.eval) none))))
  (hcx:constOk x=true) (hcl: ∀ y,lo=some y→constOk y=true) (hch: ∀ y,hi=some y→constOk y=true):QOk P K F s o a w (sliceQ P t (evl G s.sl x) (lo.map (evl G s.sl)) (hi.map (evl G s.sl))):=by
 have hv:=evl_ok hR x hcx
 unfold sliceQ
 split
 ·rename_i st e
  rw [e] at hv
  rw [rs_v hv] at hx
  exact ok_bnd hR hcl fun l hl=>ok_bnd hR hch fun h hh=> .need fun ⟨hk,h0,h1,h2⟩=>ok_val hR hd hx (run_cutStr hk hl hh h0 h1 h2) (rd_v rfl)
 ·rename_i n cs e
  rw [e] at hv
  obtain ⟨A,c,hu,hnc,hcm,hh'⟩:=rd_sl hv
  rw [hu] at hx
  split
  ·rename_i el hk
   refine ok_bnd hR hcl fun l hl=>ok_bnd hR hch fun h hh=> .need fun ⟨ht,h0,h1,h2⟩=>?_
   obtain ⟨i,z,T⟩:=tyok_spec ht
   refine ok_val hR hd hx (run_cut hk T hl hh h0 h1 (by omega)) ?_
   show RD w _ _ _
   by_cases h3:h.toNat-l.toNat=0
   ·rw [h3,Nat.zero_mul,List.take_zero]
    exact RD.nil _ _ (by omega)
   ·rw [if_neg (by omega)]
    rcases hh' with ⟨h,_⟩|⟨b,o',us,rfl,hb,g1,g2⟩
    ·omega
    ·simp only [Option.map_some,Addr.add_lit]
     refine RD.sl _ _ b (o'+l.toNat*szOf P el) _ (fun j=>us (l.toNat*szOf P el+j)) (by omega) (by omega) hb (fun j y hy=>?_) fun j y hy=>?_
     all_goals
      rw [List.getElem?_take] at hy
      split at hy
      ·rw [List.getElem?_drop] at hy
       first|exact g2 _ y hy|(rw [Nat.add_assoc];exact g1 _ y hy)
      ·cases hy
  ·exact .fail
 ·rename_i e
  rw [e] at hv
  have hu:a.eval x= .slice none 0 0:=hv
  rw [hu] at hx
  split
  ·rename_i el hk
   refine ok_bnd hR hcl fun l hl=>ok_bnd hR hch fun h hh=> .need fun ⟨ht,h0,h1,h2⟩=>?_
   obtain ⟨i,z,T⟩:=tyok_spec ht
   refine ok_val hR hd hx (run_cut hk T hl hh h0 h1 (by omega)) ?_
   rw [e]
   show _=_
   have:l=0:=by omega
   have:h=0:=by omega
   subst l h
   rfl
  ·exact .fail
 ·rename_i r sz off n cap e
  rw [e] at hv
  obtain ⟨hdm,A,c,hu,hnc,hcm,hcap⟩:=rs_row hv
  rw [hu] at hx
  split
  ·rename_i el hk
   refine ok_bnd hR hcl fun l hl=>ok_bnd hR hch fun h hh=> .need fun ⟨ht,hsz,h0,h1,h2⟩=>?_
   obtain ⟨i,z,T⟩:=tyok_spec ht
   refine ok_val hR hd hx (run_cut hk T hl hh h0 h1 (by omega)) ⟨hdm,_,_,rfl,by omega,by omega,?_⟩
   rw [← hsz]
   cases cap with
   | ex k =>
    obtain ⟨rfl,hA⟩:=hcap
    refine ⟨rfl,fun hp=>?_⟩
    by_cases h9:0<c-l.toNat
    ·obtain ⟨h5,rfl⟩:=hA (.inl (by omega))
     exact ⟨h5,by rw [if_neg (by omega)];simp [Addr.add_lit]⟩
    ·have h8:=hp.resolve_left h9
     have hsz0:0<sz:=by rw [hsz,T.sz];exact T.pos
     have h7:l.toNat*sz=0:=by omega
     have h6:l.toNat=0:=(Nat.mul_eq_zero.1 h7).resolve_right (by omega)
     obtain ⟨h5,rfl⟩:=hA (.inr (by omega))
     refine ⟨h5,?_⟩
     rw [h7]
     split<;>simp [Addr.add_lit]
   | grow =>
    show Cap.ok (if l=0 then Cap.grow else Cap.any) _ _ _ _ _ _ _ _
    split
    ·rename_i h9
     subst h9
     obtain ⟨rfl,⟨g1,rfl,rfl,rfl⟩|⟨g1,rfl,g2⟩⟩:=hcap
     ·exact ⟨by simp,.inl ⟨g1,by simp,by omega,by simp⟩⟩
     ·refine ⟨by simp,.inr ⟨g1,?_,by simpa using g2⟩⟩
      split<;>simp [Addr.add_lit]
    ·intro hp
     obtain ⟨h5,rfl⟩:=cap_addr hcap hnc (by omega)
     exact ⟨h5,by rw [if_neg (by omega)];simp [Addr.add_lit]⟩
   | any =>
    intro hp
    obtain ⟨h5,rfl⟩:=cap_addr hcap hnc (by omega)
    exact ⟨h5,by rw [if_neg (by omega)];simp [Addr.add_lit]⟩
  ·exact .fail
 ·rename_i r off e
  rw [e] at hv
  obtain ⟨hdm,hvd,hu⟩:=rs_ptr hv
  rw [hu] at hx
  split
  ·rename_i k el hk
   refine ok_bnd hR hcl fun l hl=>ok_bnd hR hch fun h hh=> .need fun ⟨ht,hkm,h0,h1,h2⟩=>?_
   obtain ⟨i,z,T⟩:=tyok_spec ht
   refine ok_val hR hd hx (run_cutArr hk T hl hh h0 h1 h2) ⟨hdm,_,_,rfl,by omega,by omega,rfl,fun hp=>⟨hvd,?_⟩⟩
   by_cases h9:0<k-l.toNat
   ·rw [if_neg (by omega),Addr.add_lit]
   ·have h8:=hp.resolve_left h9
    have h7:l.toNat*szOf P el=0:=by omega
    rw [h7]
    split<;>simp [Addr.add_lit]
  ·exact .fail
 ·exact .fail
theorem ok_optQ {sem:Sem Value} {v:Option Value} (hR:Rel K F m s a w) (hd: ∀ d,o.dst=some d→d<F.n) (hx:execOp a.eval o=(do pure (Next.value (← sem)))) (h: ∀ u,v=some u→u.oneCell'=true∧sem.run P w= .ok u w):QOk P K F s o a w (optQ v):=by
 cases v with
 | none=>exact .fail
 | some u=>exact ok_val hR hd hx (h u rfl).2 (rd_v (h u rfl).1)
theorem run_eqGuard {op:BinOp} {t:TypeId} {x y:Operand} {u v:Value} (hu:u.oneCell'=true) (hn:u≠ .nilIface):(eqGuard op t x y u v).run P w= .ok () w:=by
 unfold eqGuard
 cases op<;>cases u<;>first|rfl|exact absurd rfl hn|(cases hu)
theorem run_int {op:BinOp} {t:TypeId} {k:IntKind} {i j:Int} {u:Value} (h:arithV op k i j=some u):(binOp op t (.int k i) (.int k j)).run P w= .ok u w:=by
 cases op<;>simp only [arithV,Option.some.injEq,reduceCtorEq] at h<;>(subst h;simp [binOp,Op.intArith,Op.intBits,Op.intCmp])
theorem run_str {op:BinOp} {t:TypeId} {x y:ByteArray} {u:Value} (h:strV op x y=some u):(binOp op t (.string x) (.string y)).run P w= .ok u w:=by
 cases op<;>simp only [strV,Option.some.injEq,reduceCtorEq] at h<;>(subst h;simp [binOp,Op.stringOp])
theorem arithV_one {op:BinOp} {k:IntKind} {i j:Int} {u:Value} (h:arithV op k i j=some u):u.oneCell'=true:=by
 cases op<;>simp only [arithV,Option.some.injEq,reduceCtorEq] at h<;>(subst h;rfl)
theorem strV_one {op:BinOp} {x y:ByteArray} {u:Value} (h:strV op x y=some u):u.oneCell'=true:=by
 cases op<;>simp only [strV,Option.some.injEq,reduceCtorEq] at h<;>(subst h;rfl)
theorem run_guarded {op:BinOp} {t:TypeId} {x y:Operand} {u v r:Value} (hu:u.oneCell'=true) (hn:u≠ .nilIface) (h:(binOp op t u v).run P w= .ok r w) :
  (do eqGuard op t x y u v;binOp op t u v:Sem Value).run P w= .ok r w:=by
 rw [Sem.run_bind,run_eqGuard hu hn]
 exact h
theorem run_equal_bool {t:TypeId} {b c:Bool} (h:P.underlying t=some .bool):(Op.equal t (.bool b) (.bool c)).run P w= .ok (b==c) w:=by
 show (Op.equalIn (9999+1) t (.bool b) (.bool c)).run P w=_
 rw [Op.equalIn]
 simp only [Sem.run_bind,run_underlying h,Result.andThen_ok]
 rfl
theorem ok_binQ {op:BinOp} {t:TypeId} {x y:Operand} (hR:Rel K F m s a w) (hd: ∀ d,o.dst=some d→d<F.n) (hx:execOp a.eval o=(do pure (Next.value (← (do eqGuard op t x y (a.eval x) (a.eval y);binOp op t (a.eval x) (a.eval y):Sem Value)))))
  (hcx:constOk x=true) (hcy:constOk y=true):QOk P K F s o a w (binQ op (evl G s.sl x) (evl G s.sl y)):=by
 have hv:=evl_ok hR x hcx
 have hw:=evl_ok hR y hcy
 unfold binQ
 split
 ·rename_i k i k' j e1 e2
  rw [e1] at hv
  rw [e2] at hw
  rw [rs_v hv,rs_v hw] at hx
  split
  ·refine .need fun h0=>ok_val hR hd hx (run_guarded rfl (by simp) ?_) (rd_v rfl)
   simp only [binOp,Op.shift]
   rw [if_neg (by omega)]
   rfl
  ·refine .need fun h0=>ok_val hR hd hx (run_guarded rfl (by simp) ?_) (rd_v rfl)
   simp only [binOp,Op.shift]
   rw [if_neg (by omega)]
   rfl
  ·refine .need fun ⟨hk,h0⟩=>ok_val hR hd hx (run_guarded rfl (by simp) ?_) (rd_v rfl)
   subst hk
   simp [binOp,Op.intDiv,h0]
  ·refine .need fun ⟨hk,h0⟩=>ok_val hR hd hx (run_guarded rfl (by simp) ?_) (rd_v rfl)
   subst hk
   simp [binOp,Op.intDiv,h0]
  ·refine .need fun hk=>?_
   subst hk
   exact ok_optQ hR hd hx fun u hu=>⟨arithV_one hu,run_guarded rfl (by simp) (run_int hu)⟩
 ·rename_i i j e1 e2
  rw [e1] at hv
  rw [e2] at hw
  rw [rs_v hv,rs_v hw] at hx
  split
  ·refine .need fun h0=>ok_val hR hd hx (run_guarded rfl (by simp) ?_) (rd_v rfl)
   simp only [binOp,Op.stringOp]
   rw [if_neg (by rw [show IntKind.i64.max=9223372036854775807 by decide];omega)]
   rfl
  ·exact ok_optQ hR hd hx fun u hu=>⟨strV_one hu,run_guarded rfl (by simp) (run_str hu)⟩
 ·exact .fail
theorem run_nil_sl {op:BinOp} {t:TypeId} {A:Option Addr} {n c:Nat} {neg:Bool} (h:isSl P t=true) (ho:(neg=false∧op= .eql)∨(neg=true∧op= .neq)):(binOp op t (.slice A n c) (.slice none 0 0)).run P w= .ok (.bool (A.isNone != neg)) w:=by
 unfold isSl at h
 split at h
 ·rename_i e hk
  rcases ho with ⟨rfl,rfl⟩|⟨rfl,rfl⟩
  ·rw [run_eql_slice_nil w t e A n c (kd_sl hk)]
   simp
  ·rw [run_neq_slice_nil w t e A n c (kd_sl hk)]
   cases A<;>rfl
 ·cases h
theorem run_nil_ptr {op:BinOp} {t:TypeId} {A:Option Addr} {neg:Bool} (h:isPtr P t=true) (ho:(neg=false∧op= .eql)∨(neg=true∧op= .neq)):(binOp op t (.pointer A) (.pointer none)).run P w= .ok (.bool (A.isNone != neg)) w:=by
 unfold isPtr at h
 split at h
 ·rename_i e hk
  have hu:P.underlying t=some (.pointer (P.pointee t)):=by
   unfold kdOf at hk
   split at hk<;>cases hk
   rename_i e' hu
   rw [hu,Program.pointee,hu]
  rcases ho with ⟨rfl,rfl⟩|⟨rfl,rfl⟩
  ·rw [run_eql_pointer_nil w t A hu]
   simp
  ·rw [run_neq_pointer_nil w t A hu]
   cases A<;>rfl
 ·cases h
theorem run_nil_fn {op:BinOp} {t:TypeId} {u:Value} {neg z:Bool} (h:isFn P t=true) (hu:(z=false∧ ∃ f x y,u= .func f x y)∨(z=true∧u= .nilFunc)) (ho:(neg=false∧op= .eql)∨(neg=true∧op= .neq)):(binOp op t u .nilFunc).run P w= .ok (.bool (z != neg)) w:=by
 unfold isFn at h
 split at h
 ·rename_i hk
  unfold kdOf at hk
  split at hk<;>first|cases hk|skip
  rename_i hu0
  have key:(Op.equal t u .nilFunc).run P w= .ok z w:=by
   show (Op.equalIn (9999+1) t u .nilFunc).run P w=_
   rw [Op.equalIn]
   rcases hu with ⟨rfl,f,x,y,rfl⟩|⟨rfl,rfl⟩<;>simp only [Sem.run_bind,run_underlying hu0,Result.andThen_ok]<;>rfl
  rcases ho with ⟨rfl,rfl⟩|⟨rfl,rfl⟩<;>simp only [binOp,Sem.run_bind,key,Result.andThen_ok]<;>cases z<;>rfl
 ·cases h
theorem ok_nilQ {op:BinOp} {t:TypeId} {x y:Operand} {neg:Bool} {q:Q} (hR:Rel K F m s a w) (hd: ∀ d,o.dst=some d→d<F.n) (hx:execOp a.eval o=(do pure (Next.value (← (do eqGuard op t x y (a.eval x) (a.eval y);binOp op t (a.eval x) (a.eval y):Sem Value)))))
  (hcx:constOk x=true) (hcy:constOk y=true) (ho:(neg=false∧op= .eql)∨(neg=true∧op= .neq)) (hq:nilQ P neg t (evl G s.sl x) (evl G s.sl y)=some q):QOk P K F s o a w q:=by
 have hv:=evl_ok hR x hcx
 have hw:=evl_ok hR y hcy
 unfold nilQ at hq
 split at hq
 ·rename_i e1 e2
  rw [e1] at hv
  rw [e2] at hw
  have hv:a.eval x= .slice none 0 0:=hv
  have hw:a.eval y= .slice none 0 0:=hw
  rw [hv,hw] at hx
  injection hq with hq
  subst hq
  exact .need fun h=>ok_val hR hd hx (run_guarded rfl (by simp) (by rw [run_nil_sl h ho];cases neg<;>rfl)) (rd_v rfl)
 ·rename_i n cs e1 e2
  rw [e1] at hv
  rw [e2] at hw
  have hw:a.eval y= .slice none 0 0:=hw
  obtain ⟨A,c,hu,hn,hc,hh⟩:=rd_sl hv
  rw [hu,hw] at hx
  injection hq with hq
  subst hq
  refine .need fun ⟨h,hp⟩=>?_
  rcases hh with ⟨h0,_⟩|⟨b,o',us,rfl,_⟩
  ·omega
  ·exact ok_val hR hd hx (run_guarded rfl (by simp) (by rw [run_nil_sl h ho];cases neg<;>rfl)) (rd_v rfl)
 ·rename_i A n c e1 e2
  rw [e1] at hv
  rw [e2] at hw
  have hw:a.eval y= .slice none 0 0:=hw
  rw [rs_v hv,hw] at hx
  injection hq with hq
  subst hq
  exact .need fun h=>ok_val hR hd hx (run_guarded rfl (by simp) (run_nil_sl h ho)) (rd_v rfl)
 ·rename_i r sz off n cap e1 e2
  rw [e1] at hv
  rw [e2] at hw
  have hw:a.eval y= .slice none 0 0:=hw
  obtain ⟨hdm,A,c,hu,hnc,hcm,hcap⟩:=rs_row hv
  rw [hu,hw] at hx
  injection hq with hq
  subst hq
  refine .need fun ⟨h,hp⟩=>?_
  obtain ⟨_,rfl⟩:=cap_addr hcap hnc hp
  exact ok_val hR hd hx (run_guarded rfl (by simp) (by rw [run_nil_sl h ho];cases neg<;>rfl)) (rd_v rfl)
 ·rename_i r off e1 e2
  rw [e1] at hv
  rw [e2] at hw
  have hu:a.eval x= .pointer (some ⟨m.g r,off,none⟩):=hv.2.2
  rw [hu,rs_v hw] at hx
  injection hq with hq
  subst hq
  exact .need fun h=>ok_val hR hd hx (run_guarded rfl (by simp) (by rw [run_nil_ptr h ho];cases neg<;>rfl)) (rd_v rfl)
 ·rename_i cs off e1 e2
  rw [e1] at hv
  rw [e2] at hw
  obtain ⟨p,hu⟩: ∃ p,a.eval x= .pointer (some p):=by
   have hv:RD w _ (.ptr cs off) (a.eval x):=hv
   generalize a.eval x=u at hv
   cases hv
   exact ⟨_,rfl⟩
  rw [hu,rs_v hw] at hx
  injection hq with hq
  subst hq
  exact .need fun h=>ok_val hR hd hx (run_guarded rfl (by simp) (by rw [run_nil_ptr h ho];cases neg<;>rfl)) (rd_v rfl)
 ·rename_i p e1 e2
  rw [e1] at hv
  rw [e2] at hw
  rw [rs_v hv,rs_v hw] at hx
  injection hq with hq
  subst hq
  exact .need fun h=>ok_val hR hd hx (run_guarded rfl (by simp) (run_nil_ptr h ho)) (rd_v rfl)
 ·rename_i f x' y' e1 e2
  rw [e1] at hv
  rw [e2] at hw
  rw [rs_v hv,rs_v hw] at hx
  injection hq with hq
  subst hq
  exact .need fun h=>ok_val hR hd hx (run_guarded rfl (by simp) (by rw [run_nil_fn h (.inl ⟨rfl,_,_,_,rfl⟩) ho];cases neg<;>rfl)) (rd_v rfl)
 ·rename_i f cs e1 e2
  rw [e1] at hv
  rw [e2] at hw
  obtain ⟨us,hu⟩: ∃ us,a.eval x= .func (.func f) #[] us:=by
   have hv:RD w _ (.fn f cs) (a.eval x):=hv
   generalize a.eval x=u at hv
   cases hv
   exact ⟨_,rfl⟩
  rw [hu,rs_v hw] at hx
  injection hq with hq
  subst hq
  exact .need fun h=>ok_val hR hd hx (run_guarded rfl (by simp) (by rw [run_nil_fn h (.inl ⟨rfl,_,_,_,rfl⟩) ho];cases neg<;>rfl)) (rd_v rfl)
 ·rename_i f cs e1 e2
  rw [e1] at hv
  rw [e2] at hw
  obtain ⟨hu,_⟩:RC w (Vis K m s.ob w) m s.ob.dom (.fn f cs) (a.eval x):=hv
  rw [hu,rs_v hw] at hx
  injection hq with hq
  subst hq
  exact .need fun h=>ok_val hR hd hx (run_guarded rfl (by simp) (by rw [run_nil_fn h (.inl ⟨rfl,_,_,_,rfl⟩) ho];cases neg<;>rfl)) (rd_v rfl)
 ·rename_i e1 e2
  rw [e1] at hv
  rw [e2] at hw
  rw [rs_v hv,rs_v hw] at hx
  injection hq with hq
  subst hq
  exact .need fun h=>ok_val hR hd hx (run_guarded rfl (by simp) (by rw [run_nil_fn h (.inr ⟨rfl,rfl⟩) ho];cases neg<;>rfl)) (rd_v rfl)
 ·cases hq
theorem valsOf_rc {S:Nat→Prop} {dom:Nat→Prop}: ∀ {xs:List C} {us vs:List Value},valsOf xs=some us→vs.length=xs.length→(∀ (i:Nat) x v,xs[i]?=some x→vs[i]?=some v→RC w S m dom x v)→vs=us
 | [],us,vs,h,hl,_=>by
  cases h
  exact List.eq_nil_of_length_eq_zero hl
 | x::xs,us,[],h,hl,_=>by cases hl
 | x :: xs,us,v::vs,h,hl,hc=>by
  unfold valsOf at h
  split at h
  ·rename_i e
   cases e
  ·rename_i u l e
   cases e
   cases h1:valsOf xs with
   | none=>rw [h1] at h;cases h
   | some us' =>
    rw [h1] at h
    cases h
    have h2:RD w S (.v u) v:=hc 0 _ _ rfl rfl
    cases h2
    have h9:vs=us':=valsOf_rc h1 (by simpa using hl) fun i x v hx hv=>hc (i+1) x v (by simpa using hx) (by simpa using hv)
    rw [h9]
  ·cases h
theorem run_guard_agg {op:BinOp} {t:TypeId} {x y:Operand} {us vs:Array Value} (h:P.eqGuardType P.depth t=false):(eqGuard op t x y (.agg us) (.agg vs)).run P w= .ok () w:=by
 unfold eqGuard
 cases op<;>first|rfl|(simp [h,Sem.run_bind])
theorem ok_aggQ {op:BinOp} {t:TypeId} {x y:Operand} {xs ys:List C} (hR:Rel K F m s a w) (hd: ∀ d,o.dst=some d→d<F.n) (hx:execOp a.eval o=(do pure (Next.value (← (do eqGuard op t x y (a.eval x) (a.eval y);binOp op t (a.eval x) (a.eval y):Sem Value)))))
  (hv:RS w (Vis K m s.ob w) m s.ob.dom (.a (.agg xs)) (a.eval x)) (hw:RS w (Vis K m s.ob w) m s.ob.dom (.a (.agg ys)) (a.eval y)):QOk P K F s o a w (aggQ P op t xs ys):=by
 refine .any fun L=> .any fun b=> .need fun ⟨h1,h2,h3,h4⟩=>?_
 obtain ⟨us,eu,hlu,hcu⟩:=hv
 obtain ⟨vs,ev,hlv,hcv⟩:=hw
 obtain ⟨k1,us',e1,l1,g1⟩:=h2
 obtain ⟨k2,vs',e2,l2,g2⟩:=h3
 obtain rfl:=valsOf_rc e1 hlu hcu
 obtain rfl:=valsOf_rc e2 hlv hcv
 unfold eqTy at h1
 simp only [Bool.and_eq_true,Bool.not_eq_true'] at h1
 obtain ⟨⟨h5,h6⟩,h7⟩:=h1
 have hf: ∀ zs:List Value,zs.length=P.cellsOf t→(Value.agg zs.toArray).formed P t=true:=by
  intro zs hz
  unfold kdOf at h6
  unfold Value.formed
  split at h6<;>first|cases h6|skip
  all_goals
   rename_i hu
   simp [hu,hz]
 obtain ⟨r,hr,hi⟩:=run_equalIn_deep (10000-20) 20 t h5 w k1 k2 _ _ _ _ (hf _ l1) (hf _ l2) (by simpa [Value.cells] using g1) (by simpa [Value.cells] using g2)
 have hb:r=b:=by
  rw [Bool.eq_iff_iff,hi,h4]
 subst hb
 have hr:(Op.equal t (.agg us.toArray) (.agg vs.toArray)).run P w= .ok r w:=hr
 rw [eu,ev] at hx
 cases op<;>first
  | exact .fail
  | (refine ok_val hR hd hx ?_ (rd_v rfl)
     rw [Sem.run_bind,run_guard_agg h7]
     simp only [Result.andThen_ok,binOp,Sem.run_bind,hr,Sem.run_pure])
theorem ok_binOp {op:BinOp} {t:TypeId} {x y:Operand} (hR:Rel K F m s a w) (hd: ∀ d,o.dst=some d→d<F.n) (hx:execOp a.eval o=(do pure (Next.value (← (do eqGuard op t x y (a.eval x) (a.eval y);binOp op t (a.eval x) (a.eval y):Sem Value)))))
  (hcx:constOk x=true) (hcy:constOk y=true):QOk P K F s o a w (boolQ P op t (evl G s.sl x) (evl G s.sl y)):=by
 have hv:=evl_ok hR x hcx
 have hw:=evl_ok hR y hcy
 unfold boolQ
 split
 ·rename_i xs ys e1 e2
  rw [e1] at hv
  rw [e2] at hw
  exact ok_aggQ hR hd hx hv hw
 ·rename_i b c e1 e2
  rw [e1] at hv
  rw [e2] at hw
  rw [rs_v hv,rs_v hw] at hx
  split
  ·refine .need fun hk=>ok_val hR hd hx (run_guarded rfl (by simp) ?_) (rd_v rfl)
   simp only [binOp,Sem.run_bind,run_equal_bool (kd_bool hk),Result.andThen_ok]
   rfl
  ·refine .need fun hk=>ok_val hR hd hx (run_guarded rfl (by simp) ?_) (rd_v rfl)
   simp only [binOp,Sem.run_bind,run_equal_bool (kd_bool hk),Result.andThen_ok]
   rfl
  ·exact .fail
 ·rename_i k i k' j e1 e2
  rw [e1] at hv
  rw [e2] at hw
  rw [rs_v hv,rs_v hw] at hx
  exact .any fun r=> .need fun ⟨h1,h2⟩=>ok_val hR hd hx (run_guarded rfl (by simp) (h2 w)) (rd_v h1)
 ·split
  ·cases hq:nilQ P false t (evl G s.sl x) (evl G s.sl y) with
   | none=>exact ok_binQ hR hd hx hcx hcy
   | some q=>exact ok_nilQ hR hd hx hcx hcy (.inl ⟨rfl,rfl⟩) hq
  ·cases hq:nilQ P true t (evl G s.sl x) (evl G s.sl y) with
   | none=>exact ok_binQ hR hd hx hcx hcy
   | some q=>exact ok_nilQ hR hd hx hcx hcy (.inr ⟨rfl,rfl⟩) hq
  ·exact ok_binQ hR hd hx hcx hcy
theorem ok_unOp {op:UnOp} {x:Operand} (hR:Rel K F m s a w) (hd: ∀ d,o.dst=some d→d<F.n) (hx:execOp a.eval o=(do pure (Next.value (← Op.unary op (a.eval x))))) (hcx:constOk x=true):QOk P K F s o a w (unQ op (evl G s.sl x)):=by
 have hv:=evl_ok hR x hcx
 unfold unQ
 split
 ·rename_i b e
  rw [e] at hv
  rw [rs_v hv] at hx
  exact ok_val hR hd hx rfl (rd_v rfl)
 ·rename_i k n e
  rw [e] at hv
  rw [rs_v hv] at hx
  exact ok_val hR hd hx (by simp [Op.unary,Op.intArith]) (rd_v rfl)
 ·rename_i k n e
  rw [e] at hv
  rw [rs_v hv] at hx
  exact ok_val hR hd hx rfl (rd_v rfl)
 ·rename_i k n e
  rw [e] at hv
  rw [rs_v hv] at hx
  exact ok_val hR hd hx (by simp [Op.unary,Op.intBits]) (rd_v rfl)
 ·exact .fail
theorem ok_minmax {mx:Bool} {x y:Operand} (hR:Rel K F m s a w) (hd: ∀ d,o.dst=some d→d<F.n)
  (hx:execOp a.eval o=(do pure (Next.value (← (if mx then Builtin.max_ #[] 0 #[a.eval x,a.eval y] else Builtin.min_ #[] 0 #[a.eval x,a.eval y]))))) (hcx:constOk x=true) (hcy:constOk y=true):QOk P K F s o a w (minmaxQ mx (evl G s.sl x) (evl G s.sl y)):=by
 have hv:=evl_ok hR x hcx
 have hw:=evl_ok hR y hcy
 unfold minmaxQ
 split
 ·rename_i k i k' j e1 e2
  rw [e1] at hv
  rw [e2] at hw
  rw [rs_v hv,rs_v hw] at hx
  refine ok_val hR hd hx ?_ (rd_v rfl)
  cases mx
  ·simp [Builtin.min_,Builtin.min2]
  ·simp [Builtin.max_,Builtin.max2]
 ·exact .fail
end
def RL (w:World) (S:Nat→Prop) (m:NM) (dom:Nat→Prop) (cs:List C) (us:List Value):Prop:=us.length=cs.length∧ ∀ (i:Nat) x v,cs[i]?=some x→us[i]?=some v→RC w S m dom x v
theorem RL.one {w:World} {S:Nat→Prop} {m:NM} {dom:Nat→Prop} {cs:List C} {us:List Value} (h:RL w S m dom cs us): ∀ u∈us,u.oneCell'=true:=by
 intro u hu
 obtain ⟨i,hi⟩:=List.getElem?_of_mem hu
 have hlt:i<cs.length:=by
  rw [← h.1]
  exact (List.getElem?_eq_some_iff.1 hi).1
 exact RC.one (h.2 i _ u (List.getElem?_eq_getElem hlt) hi)
theorem RL.set {w:World} {S:Nat→Prop} {m:NM} {dom:Nat→Prop} {cs vs:List C} {us xs:List Value} {off:Nat} (h:RL w S m dom cs us) (k:RL w S m dom vs xs) (hb:off+vs.length≤cs.length) :
  RL w S m dom (setAt cs off vs) (us.take off++xs++us.drop (off+xs.length)):=by
 have h1:=h.1
 have k1:=k.1
 refine ⟨?_,fun i x v hx hv=>?_⟩
 ·simp only [setAt,List.length_append,List.length_take,List.length_drop]
  omega
 ·unfold setAt at hx
  rw [getElem?_splice cs vs off i hb] at hx
  rw [getElem?_splice us xs off i (by omega)] at hv
  rw [k1] at hv
  split at hx
  ·rename_i hi
   rw [if_pos hi] at hv
   exact k.2 _ x v hx hv
  ·rename_i hi
   rw [if_neg hi] at hv
   exact h.2 _ x v hx hv
theorem RL.zero {w:World} {S:Nat→Prop} {m:NM} {dom:Nat→Prop} {us:List Value} (h: ∀ u∈us,u.oneCell'=true):RL w S m dom (us.map cvC) us:=by
 refine ⟨by simp,fun i x v hx hv=>?_⟩
 simp only [List.getElem?_map,hv,Option.map_some,Option.some.injEq] at hx
 subst hx
 exact cvC_ok (h v (List.mem_of_getElem? hv))
theorem RL.flat {w:World} {S:Nat→Prop} {m:NM} {dom:Nat→Prop} {cs:List C} {us:List Value} (h:RL w S m dom cs us): ∀ n,RL w S m dom (List.replicate n cs).flatten (List.replicate n us).flatten
 | 0=>⟨rfl,fun i x v hx=>by simp at hx⟩
 | n + 1=>by
  have ih:=RL.flat h n
  have h1:=h.1
  refine ⟨by simp [List.replicate_succ,h1],fun i x v hx hv=>?_⟩
  simp only [List.replicate_succ,List.flatten_cons,List.getElem?_append,h1] at hx hv
  split at hx
  ·rename_i hi
   rw [if_pos hi] at hv
   exact h.2 i x v hx hv
  ·rename_i hi
   rw [if_neg hi] at hv
   exact ih.2 _ x v hx hv
theorem foldl_set (v:List Value): ∀ (k off:Nat) (cs:Array Value),off+k+v.length≤cs.size→((v.zipIdx k).foldl (fun cs (p:Value × Nat)=>cs.setIfInBounds (off+p.2) p.1) cs).toList=cs.toList.take (off+k)++v++cs.toList.drop (off+k+v.length):=by
 induction v with
 | nil =>
  intro k off cs h
  simp
 | cons x v ih =>
  intro k off cs h
  simp only [List.zipIdx_cons,List.foldl_cons]
  simp only [List.length_cons] at h
  rw [ih (k+1) off _ (by simp;omega)]
  simp only [Array.toList_setIfInBounds,List.length_cons]
  have hlt:off+k<cs.toList.length:=by simp;omega
  rw [show off+(k+1)=off+k+1 by omega,List.take_set,List.drop_set,List.take_add_one,List.getElem?_eq_getElem hlt,if_pos (by omega)]
  simp only [Option.toList_some]
  rw [List.set_append,if_neg (by simp only [List.length_take];omega)]
  have e1:off+k-(List.take (off+k) cs.toList).length=0:=by
   simp only [List.length_take]
   omega
  rw [e1,show off+k+1+v.length=off+k+(v.length+1) by omega]
  simp
section
variable {G:Nat→Option (List D)} {P:Program} {K:Ctx G} {F:Fr} {s:FSt} {o:Oper} {a:Act} {w w':World} {m:NM}
theorem rl_part {x:SV} {u:Value} {vs:List C} {S:Nat→Prop} {dom:Nat→Prop} (h:RS w S m dom x u) (hp:partOf x=some vs):RL w S m dom vs u.cells.toList:=by
 unfold partOf at hp
 split at hp
 ·rename_i v
  injection hp with hp
  subst hp
  have h:RC w S m dom v u:=h
  have h1:=RC.one h
  have e:u.cells= #[u]:=by cases u<;>first|rfl|cases h1
  rw [e]
  refine ⟨rfl,fun i y z hy hz=>?_⟩
  cases i with
  | zero =>
   simp at hy hz
   subst hy hz
   exact h
  | succ i=>simp at hy
 ·rename_i vs'
  injection hp with hp
  subst hp
  obtain ⟨us,rfl,hl,hc⟩:=rs_agg h
  exact ⟨by simpa [Value.cells] using hl,fun i y z hy hz=>hc i y z hy (by simpa [Value.cells] using hz)⟩
 ·cases hp
theorem fill_ok {S:Nat→Prop} {dom:Nat→Prop} {place place':Nat→Option (Nat × Nat)} (hpl: ∀ i p,place i=some p→place' i=some p): ∀ (parts:List (Nat × SV)) (vs:List (Nat × Value)) (cs cs':List C) (us:Array Value),
  parts.length=vs.length→(∀ (j:Nat) p v,parts[j]?=some p→vs[j]?=some v→p.1=v.1∧RS w S m dom p.2 v.2)→RL w S m dom cs us.toList→fillC place cs parts=some cs' →
  ∃ us',Instr.fill place' us vs=some us'∧RL w S m dom cs' us'.toList∧us'.size=us.size
 | [],[],cs,cs',us,_,_,h,hf=>by
  simp only [fillC,Option.some.injEq] at hf
  subst hf
  exact ⟨us,rfl,h,rfl⟩
 | [],_::_,_,_,_,hl,_,_,_=>by simp at hl
 | _::_,[],_,_,_,hl,_,_,_=>by simp at hl
 | (i, p)::parts,(j,v)::vs,cs,cs',us,hl,hh,h,hf=>by
  obtain ⟨rfl,hv⟩:=hh 0 _ _ rfl rfl
  simp only [fillC] at hf
  split at hf
  ·rename_i off size ps hp1 hp2
   split at hf
   ·rename_i hb
    have hr:=rl_part hv hp2
    have h1:=h.1
    have hr1:=hr.1
    have hsz:v.cells.size=size:=by simpa using hr1.trans hb.1
    have hle:off+v.cells.size≤us.size:=by
     have e1:us.toList.length=us.size:=by simp
     have e2:v.cells.toList.length=v.cells.size:=by simp
     omega
    simp only [Instr.fill,hpl _ _ hp1]
    rw [if_neg (by simp only [ne_eq,Bool.or_eq_true,decide_eq_true_eq];omega)]
    generalize hus2:v.cells.zipIdx.foldl (fun cs (c,j)=>cs.setIfInBounds (off+j) c) us=us2
    have e:us2.toList=us.toList.take off++v.cells.toList++us.toList.drop (off+v.cells.toList.length):=by
     have:=foldl_set v.cells.toList 0 off us (by simpa using hle)
     rw [Nat.add_zero] at this
     rw [← this,← hus2,← Array.foldl_toList]
     simp
    obtain ⟨us',h3,h4,h5⟩:=fill_ok hpl parts vs (setAt cs off ps) cs' us2 (by simpa using hl) (fun k p v hp hv=>hh (k+1) p v hp hv) (by rw [e];exact h.set hr hb.2) hf
    refine ⟨us',h3,h4,h5.trans ?_⟩
    have:=congrArg List.length e
    simp only [Array.length_toList,List.length_append,List.length_take,List.length_drop] at this
    omega
   ·cases hf
  ·cases hf
theorem ok_newQ {ty:TypeId} {cs:List C} {us:Array Value} {v:Nat→C} {u:Value} {sem:Sem Value} (hR:Rel K F m s a w) (hd: ∀ d,o.dst=some d→d<F.n) (hl:RL w (Vis K m s.ob w) m s.ob.dom cs us.toList)
  (hx:execOp a.eval o=(do pure (Next.value (← sem)))) (hr:sem.run P w= .ok u (w.alloc (.cells us ty)))
  (hv: ∀ d S dom,dom d→RC (w.alloc (.cells us ty)) S (m.set d w.heap.size us.size false) dom (v d) u):QOk P K F s o a w (newQ o.dst ty cs v):=by
 unfold newQ
 split
 ·rename_i d hdd
  refine .new fun hf=> .done (val_goal hx hr ?_)
  rw [hdd]
  exact ⟨_,hR.new (hd d hdd) hf (by simpa using hl.1) (fun i x v hx hv=>hl.2 i x v hx (by simpa using hv)) (fun S dom h=>hv d S dom h)⟩
 ·exact .fail
theorem rl_zero {t:TypeId} {i:TypeInfo} {z:Value} {S:Nat→Prop} {dom:Nat→Prop} (T:TyOk P t i z):RL w S m dom (zeroOf P t) z.cells.toList:=by
 have:zeroOf P t=z.cells.toList.map cvC:=by simp [zeroOf,T.info,T.zero]
 rw [this]
 exact RL.zero T.zone
theorem run_zero {t:TypeId} {i:TypeInfo} {z:Value} (T:TyOk P t i z):(zeroValue t).run P w= .ok z w:=by
 simp [zeroValue,typeInfo,T.info,T.zero]
theorem ok_alloc {t:TypeId} (hR:Rel K F m s a w) (hd: ∀ d,o.dst=some d→d<F.n) (hx:execOp a.eval o=(do pure (Next.value (← Instr.alloc t true (.tuple #[]))))) (ht:tyok P t=true):QOk P K F s o a w (newQ o.dst t (zeroOf P t) (fun d=> .ptr d 0)):=by
 obtain ⟨i,z,T⟩:=tyok_spec ht
 refine ok_newQ hR hd (rl_zero T) hx (u:= .pointer (some ⟨w.heap.size,0,none⟩)) ?_ fun d S dom h=>⟨h,NM.set_same.2.2,by rw [NM.set_same.1]⟩
 simp only [Instr.alloc,Sem.run_bind,run_zero T,Result.andThen_ok]
 rfl
theorem ok_box {t:TypeId} {x:Operand} (hR:Rel K F m s a w) (hd: ∀ d,o.dst=some d→d<F.n) (hx:execOp a.eval o=(do pure (Next.value (← Instr.box t (a.eval x))))) (hc:constOk x=true):QOk P K F s o a w (boxQ o.dst t (evl G s.sl x)):=by
 have hv:=evl_ok hR x hc
 have key: ∀ cs,partOf (evl G s.sl x)=some cs→QOk P K F s o a w (newQ o.dst t cs (fun d=> .ptr d 0)):=fun cs hp=>by
  exact ok_newQ hR hd (rl_part hv hp) hx (u:= .pointer (some ⟨w.heap.size,0,none⟩)) rfl fun d S dom h=>⟨h,NM.set_same.2.2,by rw [NM.set_same.1]⟩
 unfold boxQ
 split
 ·rename_i v e
  exact key [v] (by rw [e];rfl)
 ·rename_i vs e
  exact key vs (by rw [e];rfl)
 ·exact .fail
theorem parts_ok {parts:Array (Nat × Operand)} (hR:Rel K F m s a w) (hc:parts.all (fun p=>constOk p.2)=true) :
  (parts.toList.map fun p=>(p.1,evl G s.sl p.2)).length=(parts.map fun p=>(p.1,a.eval p.2)).toList.length ∧
  ∀ (j:Nat) p v,(parts.toList.map fun p=>(p.1,evl G s.sl p.2))[j]?=some p→(parts.map fun p=>(p.1,a.eval p.2)).toList[j]?=some v→p.1=v.1∧RS w (Vis K m s.ob w) m s.ob.dom p.2 v.2:=by
 refine ⟨by simp,fun j p v hp hv=>?_⟩
 simp only [Array.toList_map,List.getElem?_map] at hp hv
 cases h:parts.toList[j]? with
 | none=>rw [h] at hp;cases hp
 | some q =>
  rw [h] at hp hv
  simp at hp hv
  subst hp hv
  refine ⟨rfl,evl_ok hR q.2 ?_⟩
  rw [Array.all_eq_true'] at hc
  exact hc q (by simpa using List.mem_of_getElem? h)
theorem ok_build {t:TypeId} {parts:Array (Nat × Operand)} (hR:Rel K F m s a w) (hd: ∀ d,o.dst=some d→d<F.n) (hx:execOp a.eval o=(do pure (Next.value (← Instr.build t (parts.map fun p=>(p.1,a.eval p.2))))))
  (hc:parts.all (fun p=>constOk p.2)=true):QOk P K F s o a w (buildQ P t (parts.toList.map fun p=>(p.1,evl G s.sl p.2))):=by
 obtain ⟨p1,p2⟩:=parts_ok hR hc
 unfold buildQ
 split
 ·rename_i cs hf
  refine .need fun hb=>?_
  rcases hb with hb|⟨he,hp⟩
  rotate_left
  ·have hp0:parts= #[]:=by
    have h1:parts.toList=[]:=by simpa using hp
    exact Array.toList_eq_nil_iff.1 h1
   subst hp0
   unfold emptyTy at he
   split at he
   ·rename_i fs z hu hz
    rw [Bool.and_eq_true,beq_iff_eq,beq_iff_eq] at he
    obtain ⟨hf0,hz0⟩:=he
    obtain ⟨i,hi,hz1⟩:=Option.bind_eq_some_iff.1 hz
    have hfs:fs= #[]:=Array.eq_empty_of_size_eq_zero hf0
    have hzc:z.cells= #[]:=Array.eq_empty_of_size_eq_zero hz0
    subst hfs
    have hcs:cs=[]:=by
     have h0:fillC (placeOf P t) (zeroOf P t) []=some cs:=hf
     have hzero:zeroOf P t=[]:=by simp [zeroOf,hi,hz1,hzc]
     rw [hzero] at h0
     simpa [fillC] using h0.symm
    subst hcs
    refine ok_val hR hd hx (u:= .agg #[]) ?_ ⟨[],rfl,rfl,fun i x v h=>by simp at h⟩
    have hzr:(zeroValue t).run P w= .ok z w:=by simp [zeroValue,typeInfo,hi,hz1]
    have hm:((#[]:Array Field).mapM fun f=>(do pure (f.offset,← sizeOf f.type):Sem (Nat × Nat))).run P w= .ok #[] w:=by
     rw [Array.mapM_eq_mapM_toList,map_eq_pure_bind,Sem.run_bind]
     rfl
    simp only [Instr.build,Sem.run_bind,hzr,Result.andThen_ok,run_underlying hu,hm,hzc]
    simp [Instr.fill,Sem.run]
   ·cases he
  unfold bldOk at hb
  rw [Bool.and_eq_true] at hb
  obtain ⟨i,z,T⟩:=tyok_spec hb.1
  have hb2:=hb.2
  split at hb2
  ·rename_i fs hu
   have hk:kdOf P t= .st:=by simp [kdOf,hu]
   have hpl: ∀ i p,placeOf P t i=some p→(fs.map fun f=>(f.offset,szOf P f.type))[i]?=some p:=by
    intro i p hp
    simp only [placeOf,hk] at hp
    split at hp
    ·rename_i hi
     obtain ⟨fs',fd,ii,hu',hfd,_,_,e⟩:=fld_spec hi
     rw [hu] at hu'
     injection hu' with hu'
     injection hu' with hu'
     subst hu'
     rw [e] at hp
     simp [hfd] at hp ⊢
     exact hp
    ·cases hp
   obtain ⟨us,h1,h2,h3⟩:=fill_ok hpl _ _ _ _ z.cells p1 p2 (rl_zero T) hf
   have hm:(fs.mapM fun f=>(do pure (f.offset,← sizeOf f.type):Sem (Nat × Nat))).run P w= .ok (fs.map fun f=>(f.offset,szOf P f.type)) w:=by
    have key: ∀ l:List Field,(∀ f∈l,(P.info? f.type).isSome=true)→(l.mapM fun f=>(do pure (f.offset,← sizeOf f.type):Sem (Nat × Nat))).run P w= .ok (l.map fun f=>(f.offset,szOf P f.type)) w:=by
     intro l
     induction l with
     | nil=>intro _;rfl
     | cons f l ih =>
      intro hl
      obtain ⟨ii,hi⟩:=Option.isSome_iff_exists.1 (hl f (by simp))
      simp only [List.mapM_cons,Sem.run_bind,sizeOf,typeInfo,program,hi,Sem.run,Result.andThen_ok,Sem.run_pure]
      have:=ih fun f hf=>hl f (by simp [hf])
      simp only [sizeOf,typeInfo,program] at this
      rw [this]
      simp [szOf,hi]
    have hall: ∀ f∈fs.toList,(P.info? f.type).isSome=true:=fun f hf=>by
     rw [Array.all_eq_true'] at hb2
     exact hb2 f (by simpa using hf)
    rw [Array.mapM_eq_mapM_toList,map_eq_pure_bind,Sem.run_bind,key _ hall]
    simp only [Result.andThen_ok,Sem.run_pure]
    congr 1
    apply Array.ext'
    simp
   refine ok_val hR hd hx (u:= .agg us) ?_ ⟨us.toList,by simp,by simpa using h2.1,h2.2⟩
   simp only [Instr.build,Sem.run_bind,run_zero T,Result.andThen_ok,run_underlying hu,hm,h1]
   rfl
  ·rename_i n e hu
   have hk:kdOf P t= .arr n e:=by simp [kdOf,hu]
   obtain ⟨ei,ez,E⟩:=tyok_spec hb2
   obtain ⟨us,h1,h2,h3⟩:=fill_ok (place':=fun i=>some (i*szOf P e,szOf P e)) (fun i p hp=>by simpa [placeOf,hk] using hp) _ _ _ _ z.cells p1 p2 (rl_zero T) hf
   refine ok_val hR hd hx (u:= .agg us) ?_ ⟨us.toList,by simp,by simpa using h2.1,h2.2⟩
   simp only [Instr.build,Sem.run_bind,run_zero T,Result.andThen_ok,run_underlying hu,run_sizeOf E,h1]
   rfl
  ·cases hb2
 ·exact .fail
end
theorem made_cells (z:Array Value) (h:0<z.size): ∀ n,(List.range (n*z.size)).map (fun i=>z[i%z.size]!)=(List.replicate n z.toList).flatten
 | 0=>by simp
 | n + 1=>by
  have ih:=made_cells z h n
  rw [Nat.add_mul,Nat.one_mul,List.range_add,List.map_append,ih,List.replicate_succ',List.flatten_append]
  congr 1
  simp only [List.flatten_cons,List.flatten_nil,List.append_nil,List.map_map]
  apply List.ext_getElem?
  intro i
  simp only [List.getElem?_map,Function.comp]
  by_cases hi:i<z.size
  ·rw [List.getElem?_range hi]
   simp only [Option.map_some]
   show some (z[(n*z.size+i)%z.size]!)=_
   rw [Nat.mul_add_mod_self_right',Nat.mod_eq_of_lt hi]
   simp [hi]
  ·rw [List.getElem?_eq_none (by simpa using hi),List.getElem?_eq_none (by simpa using hi)]
   rfl
where
 Nat.mul_add_mod_self_right' {n k i:Nat}:(n*k+i)%k=i%k:=by
  rw [Nat.add_comm,Nat.mul_comm,Nat.add_mul_mod_self_left]
section
variable {G:Nat→Option (List D)} {P:Program} {K:Ctx G} {F:Fr} {s:FSt} {o:Oper} {a:Act} {w w':World} {m:NM}
theorem rl_made {t:TypeId} {i:TypeInfo} {z:Value} {S:Nat→Prop} {dom:Nat→Prop} (T:TyOk P t i z) (n:Nat) :
  RL w S m dom ((List.replicate n (zeroOf P t)).flatten) ((Array.range (n*szOf P t)).map (fun i=>z.cells[i%z.cells.size]!)).toList:=by
 have h:=(rl_zero (w:=w) (S:=S) (m:=m) (dom:=dom) T).flat n
 have hz:z.cells.size=szOf P t:=by rw [T.sz];exact T.zsize
 have hp:0<z.cells.size:=by rw [T.zsize];exact T.pos
 rw [← made_cells z.cells hp n] at h
 rw [← hz]
 simpa using h
theorem made_eq {t:TypeId} {z:Value} (n:Nat):(Array.range (n*szOf P t)).map (fun i=>(if n*szOf P t=0 then #[] else z.cells)[i%(if n*szOf P t=0 then #[] else z.cells).size]!) =
  (Array.range (n*szOf P t)).map (fun i=>z.cells[i%z.cells.size]!):=by
 split
 ·rename_i h
  rw [h]
  simp
 ·rfl
theorem ok_buildSlice {t:TypeId} {len:Nat} {parts:Array (Nat × Operand)} (hR:Rel K F m s a w) (hd: ∀ d,o.dst=some d→d<F.n) (hx:execOp a.eval o=(do pure (Next.value (← Instr.buildSlice t len (parts.map fun p=>(p.1,a.eval p.2))))))
  (hc:parts.all (fun p=>constOk p.2)=true):QOk P K F s o a w (buildSliceQ P o.dst t len (parts.toList.map fun p=>(p.1,evl G s.sl p.2))):=by
 obtain ⟨p1,p2⟩:=parts_ok hR hc
 unfold buildSliceQ
 split
 ·rename_i e hk
  split
  ·rename_i cs hf
   refine .need fun ⟨ht,hle⟩=>?_
   obtain ⟨i,z,T⟩:=tyok_spec ht
   obtain ⟨us,h1,h2,h3⟩:=fill_ok (place':=fun i=>some (i*szOf P e,szOf P e)) (fun i p hp=>by simpa [placeOf,hk] using hp) _ _ _ _ _ p1 p2 (rl_made T len) hf
   refine ok_newQ hR hd h2 hx (u:= .slice (some ⟨w.heap.size,0,none⟩) len len) ?_ fun d S dom h=>⟨h,_,len,rfl,Nat.le_refl _,?_,rfl,fun hp=>⟨NM.set_same.2.2,by rw [NM.set_same.1]⟩⟩
   ·simp only [Instr.buildSlice,Sem.run_bind,run_underlying (kd_sl hk),Result.andThen_ok,run_sizeOf T]
    rw [if_neg (by omega)]
    have h1':=h1
    rw [← made_eq] at h1'
    by_cases h0:len*szOf P e=0
    ·rw [if_pos h0] at h1'
     simp only [if_pos h0] at h1' ⊢
     simp only [Sem.run_bind,Sem.run_pure,Result.andThen_ok,h1']
     rfl
    ·rw [if_neg h0] at h1'
     simp only [if_neg h0] at h1' ⊢
     simp only [Sem.run_bind,Sem.run_pure,Result.andThen_ok,run_zero T,h1']
     rfl
   ·have:=T.pos
    rw [T.sz] at hle
    have:len*1≤len*i.size:=Nat.mul_le_mul_left _ (by omega)
    omega
  ·exact .fail
 ·exact .fail
theorem wrap_id {x:Int} (h0: -9223372036854775808≤x) (h1:x≤9223372036854775807):IntKind.i64.wrap x=x:=by
 rw [IntKind.wrap_i64]
 omega
theorem ok_make {t:TypeId} {l c:Operand} (hR:Rel K F m s a w) (hd: ∀ d,o.dst=some d→d<F.n) (hx:execOp a.eval o=(do pure (Next.value (← Instr.makeSlice t (a.eval l) (a.eval c))))) (hcl:constOk l=true) (hcc:constOk c=true) :
  QOk P K F s o a w (makeQ P o.dst t (evl G s.sl l) (evl G s.sl c)):=by
 have hv:=evl_ok hR l hcl
 have hw:=evl_ok hR c hcc
 unfold makeQ
 split
 ·rename_i k1 l' k2 c' e1 e2
  rw [e1] at hv
  rw [e2] at hw
  rw [rs_int hv,rs_int hw] at hx
  split
  ·rename_i e hk
   refine .need fun ⟨ht,h0,h1,h2,h3⟩=>?_
   obtain ⟨i,z,T⟩:=tyok_spec ht
   refine ok_newQ hR hd (rl_made T c'.toNat) hx (u:= .slice (some ⟨w.heap.size,0,none⟩) l'.toNat c'.toNat) ?_ fun d S dom h=>⟨h,_,c'.toNat,rfl,by omega,by omega,rfl,fun hp=>⟨NM.set_same.2.2,by rw [NM.set_same.1]⟩⟩
   have e3:(typeInfo e).run P w= .ok i w:=by simp [typeInfo,T.info]
   have hb:(i.bytes:Int)*c'≤281474976710656:=by rw [← T.by'];exact h3
   simp only [Instr.makeSlice,Sem.run_bind,run_underlying (kd_sl hk),Result.andThen_ok,asInt,asIntOf,Sem.run_pure,e3,wrap_id (show -9223372036854775808≤l' by omega) (show l'≤9223372036854775807 by omega),wrap_id (show -9223372036854775808≤c' by omega) h2]
   rw [if_neg (by simp only [Bool.or_eq_true,decide_eq_true_eq];omega)]
   have e4:(askRoom (c'.toNat*i.bytes)).run P w= .ok () w:=by
    unfold askRoom
    split<;>rfl
   simp only [Sem.run_bind,e4,Result.andThen_ok,run_sizeOf T]
   by_cases h0:c'.toNat*szOf P e=0
   ·rw [if_pos h0]
    have h5:(Array.range (c'.toNat*szOf P e)).map (fun i=>z.cells[i%z.cells.size]!)= #[]:=by
     rw [h0]
     simp
    have h6:(Array.range (c'.toNat*szOf P e)).map (fun i=>(#[]:Array Value)[i%(#[]:Array Value).size]!)= #[]:=by
     rw [h0]
     simp
    simp only [Sem.run_bind,Sem.run_pure,Result.andThen_ok,h5,h6]
    rfl
   ·rw [if_neg h0]
    simp only [Sem.run_bind,Sem.run_pure,Result.andThen_ok,run_zero T]
    rfl
  ·exact .fail
 ·exact .fail
theorem ok_storeL {t:TypeId} {r off:Nat} {vs:List C} {v:Value} {sem:Sem Unit} {ob:AObj} (hR:Rel K F m s a w) (hd: ∀ d,o.dst=some d→d<F.n) (hx:execOp a.eval o=(do Instr.storeAt t (.pointer (some ⟨m.g r,off,none⟩)) v;pure Next.skip))
  (ho:s.ob r=some (some ob)) (hvd:m.vd r=false) (ht:tyok P t=true) (hfr:ob.fr=false) (hl:vs.length=szOf P t) (hb:off+vs.length≤ob.cs.length) (hv:RL w (Vis K m s.ob w) m s.ob.dom vs v.cells.toList) :
  OpGoal P K F s o a w (.val .undef [(r,some { ob with cs:=setAt ob.cs off vs })]):=by
 obtain ⟨i,z,T⟩:=tyok_spec ht
 obtain ⟨arr,h1,h2,h3⟩:=hR.set (dst:=o.dst) (v:= .undef) (u:=undef) ho hfr hvd hv.1 hb hv.2 hd (fun _ _ _=>rfl)
 refine skip_goal hx ?_ ⟨m,h3⟩
 have hc:v.cells.size=szOf P t:=by
  have:=hv.1
  simp only [Array.length_toList] at this
  omega
 simp only [Instr.storeAt,Instr.sureAddr,Sem.run_bind,Sem.run_pure,Result.andThen_ok,storeVar,run_sizeOf T]
 rw [if_neg (by omega)]
 have:=run_storeCells_at P (m.g r) off ob.ty v.cells.toList 0 arr w h1 (by simpa using h2) hv.one
 simpa using this
theorem set_eq {cs:List C} {off:Nat} {v:C} (h:off<cs.length):cs.set off v=setAt cs off [v]:=by
 unfold setAt
 rw [List.set_eq_take_append_cons_drop,if_pos h]
 simp
theorem ok_store {t:TypeId} {x y:Operand} (hR:Rel K F m s a w) (hd: ∀ d,o.dst=some d→d<F.n) (hx:execOp a.eval o=(do Instr.storeAt t (a.eval x) (a.eval y);pure Next.skip)) (hcx:constOk x=true) (hcy:constOk y=true) :
  QOk P K F s o a w (storeQ P t (evl G s.sl x) (evl G s.sl y)):=by
 have hv:=evl_ok hR x hcx
 have hw:=evl_ok hR y hcy
 unfold storeQ
 split
 ·rename_i r off vs e1 e2
  rw [e1] at hv
  rw [e2] at hw
  obtain ⟨hdm,hvd,hu⟩:=rs_ptr hv
  rw [hu] at hx
  exact .obj fun ob ho=> .need fun ⟨ht,hfr,hl,hb⟩=> .done (ok_storeL (sem:=pure ()) hR hd hx ho hvd ht hfr hl hb (rl_part hw rfl))
 ·rename_i r off v e1 e2
  rw [e1] at hv
  rw [e2] at hw
  obtain ⟨hdm,hvd,hu⟩:=rs_ptr hv
  rw [hu] at hx
  refine .obj fun ob ho=> .need fun ⟨ht,hfr,hl,hb⟩=>?_
  rw [set_eq hb]
  exact .done (ok_storeL (sem:=pure ()) hR hd hx ho hvd ht hfr (by simp [hl]) (by simp;omega) (rl_part hw rfl))
 ·exact .fail
theorem ok_len {t ty:TypeId} {x:Operand} (hR:Rel K F m s a w) (hd: ∀ d,o.dst=some d→d<F.n) (hx:execOp a.eval o=(do pure (Next.value (← Builtin.len_ #[t] ty #[a.eval x])))) (hc:constOk x=true):QOk P K F s o a w (lenQ P t (evl G s.sl x)):=by
 have hv:=evl_ok hR x hc
 unfold lenQ
 split
 ·rename_i st hk e
  rw [e] at hv
  rw [rs_v hv] at hx
  exact ok_val hR hd hx (by simp [Builtin.len_,run_underlying (kd_str hk),goInt]) (rd_v rfl)
 ·rename_i el n cs hk e
  rw [e] at hv
  obtain ⟨A,c,hu,_⟩:=rd_sl hv
  rw [hu] at hx
  exact ok_val hR hd hx (by simp [Builtin.len_,run_underlying (kd_sl hk),goInt]) (rd_v rfl)
 ·rename_i el hk e
  rw [e] at hv
  have hu:a.eval x= .slice none 0 0:=hv
  rw [hu] at hx
  exact ok_val hR hd hx (by simp [Builtin.len_,run_underlying (kd_sl hk),goInt]) (rd_v rfl)
 ·rename_i el A n c hk e
  rw [e] at hv
  rw [rs_v hv] at hx
  exact ok_val hR hd hx (by simp [Builtin.len_,run_underlying (kd_sl hk),goInt]) (rd_v rfl)
 ·rename_i el r sz off n cap hk e
  rw [e] at hv
  obtain ⟨_,A,c,hu,_⟩:=rs_row hv
  rw [hu] at hx
  exact ok_val hR hd hx (by simp [Builtin.len_,run_underlying (kd_sl hk),goInt]) (rd_v rfl)
 ·rename_i n el y hk e
  exact ok_val hR hd hx (by simp [Builtin.len_,run_underlying (kd_arr hk),goInt]) (rd_v rfl)
 ·exact .fail
theorem sl_bytes {S:Nat→Prop} {A:Option Addr} {n c:Nat} {l:List UInt8} (h:Rep.u8.sl w S A n c l):RD w S (.sl n (l.map bD)) (.slice A n c):=by
 rcases Nat.eq_zero_or_pos n with hn|hn
 ·have:l=[]:=List.eq_nil_of_length_eq_zero (by rw [h.1,hn])
  subst this
  subst hn
  exact .nil _ _ h.2.2.1
 ·obtain ⟨b,o',rfl,hb,hr⟩:=h.2.2.2 hn
  refine .sl n c b o' _ (fun i=> .int .u8 ((l[i]?.getD 0).toNat:Int)) h.2.1 h.2.2.1 hb (fun i x hx=>?_) fun i x hx=>?_
  all_goals
   rw [List.getElem?_map] at hx
   cases hl:l[i]? with
   | none=>rw [hl] at hx;cases hx
   | some y =>
    rw [hl] at hx
    simp at hx
    subst hx
    simp only [hl,Option.getD_some]
    first
     | exact .v _ rfl
     | (obtain ⟨es,he,hc⟩:=hr i y hl
        obtain rfl:es=[.int .u8 (y.toNat:Int)]:=he
        have:=hc 0 _ rfl
        simpa [Rep.u8] using this)
theorem bytes_sl {S:Nat→Prop} {n:Nat} {l:List UInt8} {u:Value} (h:RD w S (.sl n (l.map bD)) u) (hl:l.length=n): ∃ A c,u= .slice A n c∧Rep.u8.sl w S A n c l:=by
 obtain ⟨A,c,rfl,hn,hc,hh⟩:=rd_sl h
 refine ⟨A,c,rfl,hl,hn,hc,fun hp=>?_⟩
 rcases hh with ⟨h0,_⟩|⟨b,o',us,rfl,hb,h1,h2⟩
 ·omega
 refine ⟨b,o',rfl,hb,fun i x hx=>⟨[.int .u8 (x.toNat:Int)],rfl,fun j v hv=>?_⟩⟩
 cases j with
 | succ j=>simp at hv
 | zero =>
  simp at hv
  subst hv
  have e:(l.map bD)[i]?=some (bD x):=by simp [hx]
  have g1:=h1 i _ e
  have g2:=h2 i _ e
  have:us i= .int .u8 (x.toNat:Int):=by
   generalize us i=q at g2
   have g2:RD w S (.v (.int .u8 (x.toNat:Int))) q:=g2
   cases g2
   rfl
  rw [this] at g1
  simpa [Rep.u8] using g1
theorem run_conv_num {src dst:TypeId} {k k':IntKind} {n:Int} (h:tyok P src=true) (hd:kdOf P dst= .int k):(convert src dst (.int k' n)).run P w= .ok (.int k (k.wrap n)) w:=by
 obtain ⟨i,z,T⟩:=tyok_spec h
 obtain ⟨d,hu⟩:=T.und
 simp only [convert,Sem.run_bind,run_underlying hu,run_underlying (kd_int hd),Result.andThen_ok]
 cases d<;>rfl
theorem run_conv_str {src dst:TypeId} {st:ByteArray} (h:tyok P src=true) (hd:kdOf P dst= .str):(convert src dst (.string st)).run P w= .ok (.string st) w:=by
 obtain ⟨i,z,T⟩:=tyok_spec h
 obtain ⟨d,hu⟩:=T.und
 simp only [convert,Sem.run_bind,run_underlying hu,run_underlying (kd_str hd),Result.andThen_ok]
 cases d<;>rfl
end
section
variable {G:Nat→Option (List D)} {P:Program} {K:Ctx G} {F:Fr} {s:FSt} {o:Oper} {a:Act} {w w':World} {m:NM}
theorem Turn.later (h:Ev (fun _=>False) w w'):Turn K m m s.ob s.ob w w' (fun _=>False):=
 ⟨fun _ _=>rfl,fun _ h=>h,fun _ _=>rfl,fun _ _=>rfl,fun _ _=>rfl,⟨h.os,h.tape,h.output,h.size,fun k hk _=>h.block k hk fun h=>h⟩,fun _ h=>h.elim,fun _ _ h=>h.elim⟩
theorem ev_below (h:Below w.heap.size w w'):Ev (fun _=>False) w w':=⟨h.os,h.tape,h.output,h.size,fun k hk _=>h.block k hk⟩
theorem Rel.later {dst:Option Nat} {v:SV} {u:Value} (h:Rel K F m s a w) (he:Ev (fun _=>False) w w') (hd: ∀ d,dst=some d→d<F.n) (hv:RS w' (Vis K m s.ob w') m s.ob.dom v u):Rel K F m (s.app dst v []) (a.put dst u) w':=
 h.turn (Turn.later he) ((Turn.later he).rel h.heap (fun _ _ h=>h.elim) (fun _ _ h=>h.elim)) hd hv
theorem vis_new (h:Rel K F m s a w) (he:Ev (fun _=>False) w w') {b:Nat} (h1:w.heap.size≤b) (h2:b<w'.heap.size):Vis K m s.ob w' b:=
 ⟨.inr (.inr (Nat.le_trans h.heap.ev.size h1)),h2,fun r hr hv e=>by have:=h.heap.lt hr hv;omega⟩
theorem row_bytes {r off n:Nat} {cap:Cap} {ob:AObj} {u:Value} {l:List UInt8} {sz:Nat} (hR:Rel K F m s a w) (ho:s.ob r=some (some ob)) (hv:RS w (Vis K m s.ob w) m s.ob.dom (.a (.c (.row r sz off n cap))) u)
  (hl:l.length=n) (hc:(ob.cs.drop off).take n=l.map fun b=>C.d (bD b)): ∃ A c,u= .slice A n c∧Rep.u8.sl w (fun _=>True) A n c l:=by
 obtain ⟨hdm,A,c,rfl,hnc,hcm,hcap⟩:=rs_row hv
 refine ⟨A,c,rfl,hl,hnc,hcm,fun hp=>?_⟩
 obtain ⟨hvd,rfl⟩:=cap_addr hcap hnc hp
 obtain ⟨arr,h1,h2,h3,h4,h5⟩:=hR.obj ho hvd
 refine ⟨_,off,rfl,trivial,fun i x hx=>⟨[.int .u8 (x.toNat:Int)],rfl,fun j v hv=>?_⟩⟩
 cases j with
 | succ j=>simp at hv
 | zero =>
  simp at hv
  subst hv
  have hin:i<n:=by
   rw [← hl]
   exact (List.getElem?_eq_some_iff.1 hx).1
  have e:ob.cs[off+i]?=some (C.d (bD x)):=by
   have:((ob.cs.drop off).take n)[i]?=some (C.d (bD x)):=by
    rw [hc]
    simp [hx]
   rw [List.getElem?_take,if_pos hin,List.getElem?_drop] at this
   exact this
  obtain ⟨u,hu,hr⟩:=h5 _ _ e
  have:u= .int .u8 (x.toNat:Int):=by
   have g2:RD w (Vis K m s.ob w) (.v (.int .u8 (x.toNat:Int))) u:=hr
   cases g2
   rfl
  subst this
  rw [cell_arr h1]
  simpa [Rep.u8] using hu
theorem dOnly_at: ∀ {l:List C} {ds:List D},dOnly l=some ds→ds.length=l.length∧ ∀ (i:Nat) x,ds[i]?=some x→ ∃ y,l[i]?=some y∧(y= .d x∨y= .nil∧x= .sl 0 [])
 | [],ds,h=>by
  injection h with h
  subst h
  exact ⟨rfl,fun i x hx=>by simp at hx⟩
 | c :: l,ds,h=>by
  simp only [dOnly] at h
  split at h
  ·rename_i y m h1 h2
   injection h with h
   subst h
   obtain ⟨g1,g2⟩:=dOnly_at h2
   refine ⟨by simp [g1],fun i x hx=>?_⟩
   cases i with
   | zero =>
    have hx:some y=some x:=hx
    injection hx with hx
    subst hx
    refine ⟨c,rfl,?_⟩
    cases c<;>simp [dOf] at h1<;>simp [h1]
   | succ i=>exact g2 i x hx
  ·cases h
theorem run_conv_mark {t e:TypeId} {g k n c:Nat} {arr:Array Value} {ty:TypeId} (hb:w.heap[g]?=some (.cells arr ty (0,0))) (ht:P.underlying t=some (.slice e)) (he:P.underlying e=some (.int .u8)) :
  (convert t t (.slice (some ⟨g,k,none⟩) n c)).run P w= .ok (.slice (some ⟨g,k,none⟩) n c) (w.freeze ⟨g,arr.size,none⟩ 1):=by
 have hs:w.shape? g=some (ty,arr.size):=by
  unfold World.shape?
  rw [hb]
 simp [convert,run_underlying ht,run_underlying he,markStringish,hs]
theorem freeze_ev {g k:Nat}:Ev (fun j=>j=g) w (w.freeze ⟨g,k,none⟩ 1):=by
 refine ⟨rfl,rfl,rfl,?_,fun j hj hn=>?_⟩
 ·simp [World.freeze]
 ·simp only [World.freeze]
  rw [if_neg (by decide)]
  show (w.heap.modify g _)[j]?=_
  rw [Array.getElem?_modify,if_neg (fun e=>hn e.symm)]
theorem freeze_at {g k:Nat} {arr:Array Value} {ty:TypeId} (hb:w.heap[g]?=some (.cells arr ty (0,0))):(w.freeze ⟨g,k,none⟩ 1).heap[g]?=some (.cells arr ty (k,k+1)):=by
 simp only [World.freeze]
 rw [if_neg (by decide)]
 show (w.heap.modify g _)[g]?=_
 rw [Array.getElem?_modify,if_pos rfl,hb]
 rfl
theorem Rel.gone {r off n:Nat} {cap:Cap} {sz:Nat} {ob:AObj} {ds:List D} {dst:Option Nat} {u:Value} (h:Rel K F m s a w) (ho:s.ob r=some (some ob)) (hfr:ob.fr=false) (hn:0<n) (hds:dOnly ob.cs=some ds) (hl:off+n≤ds.length)
  (hv:RS w (Vis K m s.ob w) m s.ob.dom (.a (.c (.row r sz off n cap))) u) (hd: ∀ d,dst=some d→d<F.n) :
  ∃ c arr ty,u= .slice (some ⟨m.g r,off,none⟩) n c∧w.heap[m.g r]?=some (.cells arr ty (0,0))∧Rel K F m (s.app dst (.a (.c (.d (.sl n ((ds.drop off).take n))))) [(r,none)]) (a.put dst u) (w.freeze ⟨m.g r,arr.size,none⟩ 1):=by
 obtain ⟨hdm,A,c,rfl,hnc,hcm,hcap⟩:=rs_row hv
 obtain ⟨hvd,rfl⟩:=cap_addr hcap hnc hn
 obtain ⟨arr,h1,h2,h3,h4,h5⟩:=h.obj ho hvd
 refine ⟨c,arr,_,rfl,h1,?_⟩
 have hown:s.ob.own r:=⟨ob,ho,hfr⟩
 have hH:updO s.ob [(r,none)] r=some none:=upd_same
 have hno: ¬ (updO s.ob [(r,none)]).own r:=fun ⟨o',e,_⟩=>by
  rw [hH] at e
  injection e with e
  cases e
 have t:Turn K m m s.ob (updO s.ob [(r,none)]) w (w.freeze ⟨m.g r,arr.size,none⟩ 1) (fun r'=>r'=r):=by
  refine ⟨fun r' hr=>upd_ne hr,fun r' hr'=>?_,fun _ _=>rfl,fun _ _=>rfl,fun _ _=>rfl,?_,fun r' hr ho' _=>absurd (hr▸ho') hno,fun r1 r2 hr hr' _ _ _ _ _=>hr.trans hr'.symm⟩
  ·show upd s.ob r _ r'≠none
   by_cases e:r'=r
   ·subst e
    rw [upd_same]
    simp
   ·rw [upd_ne e]
    exact hr'
  ·have ev:=freeze_ev (w:=w) (g:=m.g r) (k:=arr.size)
   exact ⟨ev.os,ev.tape,ev.output,ev.size,fun k hk hnb=>ev.block k hk fun e=>hnb ⟨r,rfl,hown,hvd,e.symm⟩⟩
 have k:=t.keep h.heap
 refine h.turn t (t.rel h.heap (fun r' o' hr ho'=>?_) (fun r' o' hr ho' _ _=>?_)) hd ?_
 ·subst hr
  rw [hH] at ho'
  injection ho' with ho'
  cases ho'
 ·subst hr
  rw [hH] at ho'
  injection ho' with ho'
  cases ho'
 ·obtain ⟨g1,g2⟩:=dOnly_at hds
  have hat: ∀ i x,((ds.drop off).take n)[i]?=some x→ ∃ u,arr[off+i]?=some u∧RD w (Vis K m s.ob w) x u:=fun i x hx=>by
   rw [List.getElem?_take] at hx
   split at hx
   ·rw [List.getElem?_drop] at hx
    obtain ⟨y,hy,hyx⟩:=g2 _ _ hx
    obtain ⟨u,hu,hr⟩:=h5 _ _ hy
    refine ⟨u,hu,?_⟩
    rcases hyx with rfl|⟨rfl,rfl⟩
    ·exact hr
    ·rw [show u=_ from hr]
     exact .nil none 0 (by omega)
   ·cases hx
  show RD _ _ (.sl n _) (.slice (some ⟨m.g r,off,none⟩) n c)
  refine .sl n c (m.g r) off _ (fun i=>(arr[off+i]?).getD undef) hnc hcm ⟨?_,?_,fun r' hr' hv' e=>?_⟩ (fun i x hx=>?_) fun i x hx=>?_
  ·rcases h.heap.loc r hown hvd with hB|hB
   ·exact .inr (.inl hB)
   ·exact .inr (.inr hB)
  ·exact Nat.lt_of_lt_of_le (h.heap.lt hown hvd) (t.ev.size)
  ·by_cases er:r'=r
   ·exact hno (er▸hr')
   ·have ho2:s.ob.own r':=by
     obtain ⟨o',e1,e2⟩:=hr'
     exact ⟨o',by rw [← t.same r' er];exact e1,e2⟩
    exact er (h.heap.dist r' r ho2 hown hv' hvd e)
  ·obtain ⟨u,hu,_⟩:=hat i x hx
   simp only [World.cell?,freeze_at h1,hu]
   rfl
  ·obtain ⟨u,hu,hr⟩:=hat i x hx
   rw [hu]
   exact RD.mono k.vis k.cell hr
theorem ok_conv {src dst:TypeId} {x:Operand} (hR:Rel K F m s a w) (hd: ∀ d,o.dst=some d→d<F.n) (hx:execOp a.eval o=(do pure (Next.value (← convert src dst (a.eval x))))) (hc:constOk x=true):QOk P K F s o a w (convQ P src dst (evl G s.sl x)):=by
 have hv:=evl_ok hR x hc
 unfold convQ
 split
 ·rename_i k n e
  rw [e] at hv
  rw [rs_int hv] at hx
  split
  ·rename_i kd hk
   exact .need fun ht=>ok_val hR hd hx (run_conv_num ht hk) (rd_v rfl)
  ·exact .any fun r=> .need fun ⟨h1,h2⟩=>ok_val hR hd hx (h2 w) (rd_v h1)
  ·exact .fail
 ·rename_i st e
  rw [e] at hv
  rw [rs_v hv] at hx
  split
  ·rename_i hk
   exact .need fun ht=>ok_val hR hd hx (run_conv_str ht hk) (rd_v rfl)
  ·rename_i el hk
   refine .need fun ⟨h1,h2,h3⟩=>?_
   have hst:(⟨st.data.toList.toArray⟩:ByteArray)=st:=by simp
   have hlen:st.data.toList.length=st.size:=Array.length_toList
   obtain ⟨A,c,w1,hr,hsl,hB⟩:=conv_sb (kd_str h1) (kd_sl hk) (kd_int h2) w st.data.toList (by rw [hlen];exact h3)
   rw [hst] at hr
   rw [hlen] at hr hsl
   have he:=ev_below hB
   refine .done (val_goal hx hr ⟨m,hR.later he hd ?_⟩)
   refine RD.mono (S:=fun b=>b=w.heap.size∧b<w1.heap.size) (fun b hb=>vis_new hR he (by omega) hb.2) (fun _ _=>rfl) (sl_bytes ?_)
   refine ⟨hsl.1,hsl.2.1,hsl.2.2.1,fun hn=>?_⟩
   obtain ⟨b,o',rfl,hb,hrr⟩:=hsl.2.2.2 hn
   refine ⟨b,o',rfl,⟨hb,?_⟩,fun i x hx=>?_⟩
   ·have hlt:0<st.data.toList.length:=by omega
    obtain ⟨es,he,hcell⟩:=hrr 0 _ (List.getElem?_eq_getElem hlt)
    obtain rfl:es=[.int .u8 _]:=he
    exact World.block_lt_of_cell? w1 _ (hcell 0 _ rfl)
   ·obtain ⟨es,he,hcell⟩:=hrr i x hx
    exact ⟨es,he,hcell⟩
  ·exact .fail
 ·rename_i n cs e
  rw [e] at hv
  split
  ·rename_i el h1 h2
   refine .need fun h3=> .any fun l=> .need fun ⟨hl,hcs⟩=>?_
   rw [hcs] at hv
   obtain ⟨A,c,hu,hsl⟩:=bytes_sl hv hl
   rw [hu] at hx
   exact ok_val hR hd hx (conv_bs (kd_sl h1) (kd_int h3) (kd_str h2) hsl) (rd_v rfl)
  ·exact .fail
 ·rename_i e
  rw [e] at hv
  have hu:a.eval x= .slice none 0 0:=hv
  rw [hu] at hx
  split
  ·rename_i el h1 h2
   exact .need fun h3=>ok_val hR hd hx (conv_bs (kd_sl h1) (kd_int h3) (kd_str h2) (Rep.sl_nil (S:=fun _=>True))) (rd_v rfl)
  ·exact .fail
 ·rename_i r sz off n cap e
  rw [e] at hv
  split
  ·rename_i el h1 h2
   refine .need fun h3=> .obj fun ob ho=> .any fun l=> .need fun ⟨hl,hcs⟩=>?_
   obtain ⟨A,c,hu,hsl⟩:=row_bytes hR ho hv hl hcs
   rw [hu] at hx
   exact ok_val hR hd hx (conv_bs (kd_sl h1) (kd_int h3) (kd_str h2) hsl) (rd_v rfl)
  ·rename_i el _ h1 h2
   refine .need fun ⟨he,h3,hn⟩=> .obj fun ob ho=>?_
   split
   ·rename_i ds hds
    refine .need fun ⟨hfr,hl⟩=> .done ?_
    subst he
    obtain ⟨c,arr,ty,hu,hb,hrel⟩:=Rel.gone hR ho hfr hn hds hl hv hd
    rw [hu] at hx hrel
    exact val_goal hx (run_conv_mark hb (kd_sl h1) (kd_int h3)) ⟨m,hrel⟩
   ·exact .fail
  ·exact .fail
 ·exact .fail
def Src (P:Program) (w:World) (t2 e:TypeId) (x:Value) (k:Nat) (news:List Value):Prop:=
 (kdOf P t2= .sl e∧ ∃ A c,x= .slice A k c∧((k=0∧news=[])∨ ∃ ad:Addr,A=some ad∧ ∀ (j:Nat) u,news[j]?=some u→w.cell? (ad.add j)=some u)) ∨
 (kdOf P t2= .str∧u8Ok P e∧ ∃ st:ByteArray,x= .string st∧k=st.size∧news=Lib.strCells st)
theorem ok_src {t2 e:TypeId} {x:Operand} {k:Nat→List C→Q} (hR:Rel K F m s a w) (hc:constOk x=true)
  (h: ∀ n vs news,Src P w t2 e (a.eval x) n news→RL w (Vis K m s.ob w) m s.ob.dom vs news→news.length=n*szOf P e→QOk P K F s o a w (k n vs)):QOk P K F s o a w (srcQ P t2 e (evl G s.sl x) k):=by
 have hv:=evl_ok hR x hc
 unfold srcQ
 split
 ·rename_i n cs ee
  rw [ee] at hv
  obtain ⟨A,c,hu,hnc,hcm,hh⟩:=rd_sl hv
  refine .need fun ⟨hk,hl⟩=>?_
  rcases hh with ⟨rfl,rfl⟩|⟨b,o',us,rfl,hb,h1,h2⟩
  ·exact h 0 _ [] (.inl ⟨hk,A,c,hu,.inl ⟨rfl,rfl⟩⟩) ⟨rfl,fun i x v hx=>by simp at hx⟩ (by simp)
  ·refine h n _ ((List.range cs.length).map us) (.inl ⟨hk,_,c,hu,.inr ⟨_,rfl,fun j u hj=>?_⟩⟩) ⟨by simp,fun i y v hy hv=>?_⟩ (by simpa using hl)
   ·have hlt:j<cs.length:=by
     have:=(List.getElem?_eq_some_iff.1 hj).1
     simpa using this
    rw [List.getElem?_map,List.getElem?_range hlt] at hj
    simp at hj
    subst hj
    rw [Addr.add_lit]
    exact h1 j _ (List.getElem?_eq_getElem hlt)
   ·rw [List.getElem?_map] at hy
    cases hq:cs[i]? with
    | none=>rw [hq] at hy;cases hy
    | some q =>
     have hlt:i<cs.length:=(List.getElem?_eq_some_iff.1 hq).1
     rw [hq] at hy
     rw [List.getElem?_map,List.getElem?_range hlt] at hv
     simp at hy hv
     subst hy hv
     exact h2 i q hq
 ·rename_i ee
  rw [ee] at hv
  have hu:a.eval x= .slice none 0 0:=hv
  exact .need fun hk=>h 0 [] [] (.inl ⟨hk,none,0,hu,.inl ⟨rfl,rfl⟩⟩) ⟨rfl,fun i x v hx=>by simp at hx⟩ (by simp)
 ·rename_i A n c ee
  rw [ee] at hv
  refine .need fun ⟨hk,hn⟩=>?_
  subst hn
  exact h 0 [] [] (.inl ⟨hk,A,c,rs_v hv,.inl ⟨rfl,rfl⟩⟩) ⟨rfl,fun i x v hx=>by simp at hx⟩ (by simp)
 ·rename_i r sz off n cap ee
  rw [ee] at hv
  obtain ⟨hdm,A,c,hu,hnc,hcm,hcap⟩:=rs_row hv
  refine .obj fun ob ho=> .need fun ⟨hk,hl⟩=>?_
  rcases Nat.eq_zero_or_pos n with hn|hn
  ·subst hn
   exact h 0 _ [] (.inl ⟨hk,A,c,hu,.inl ⟨rfl,rfl⟩⟩) ⟨by simp,fun i x v hx=>by simp at hx⟩ (by simp)
  ·obtain ⟨hvd,rfl⟩:=cap_addr hcap hnc hn
   obtain ⟨arr,h1,h2,h3,h4,h5⟩:=hR.obj ho hvd
   refine h n _ ((arr.toList.drop off).take (n*szOf P e)) (.inl ⟨hk,_,c,hu,.inr ⟨_,rfl,fun j u hj=>?_⟩⟩) ⟨?_,fun i y v hy hv=>?_⟩ ?_
   ·rw [List.getElem?_take] at hj
    split at hj
    ·rw [List.getElem?_drop] at hj
     rw [Addr.add_lit,cell_arr h1]
     simpa using hj
    ·cases hj
   ·simp only [List.length_take,List.length_drop,Array.length_toList]
    omega
   ·rw [List.getElem?_take] at hy hv
    split at hy
    ·rename_i hi
     rw [if_pos hi,List.getElem?_drop] at hv
     rw [List.getElem?_drop] at hy
     obtain ⟨u,hu,hr⟩:=h5 _ _ hy
     have:arr[off+i]?=some v:=by simpa using hv
     rw [hu] at this
     injection this with this
     subst this
     exact hr
    ·cases hy
   ·simp only [List.length_take,List.length_drop,Array.length_toList]
    omega
 ·rename_i st ee
  rw [ee] at hv
  refine .need fun ⟨h1,h2⟩=>h _ _ (Lib.strCells st) (.inr ⟨h1,h2,st,rs_v hv,rfl,rfl⟩) ⟨by simp [Lib.strCells],fun i y v hy hv=>?_⟩ (by rw [Lib.strCells_length,h2.2.1,Nat.mul_one])
  unfold Lib.strCells at hv
  rw [List.getElem?_map] at hy hv
  cases hq:st.data.toList[i]? with
  | none=>rw [hq] at hy;cases hy
  | some q =>
   rw [hq] at hy hv
   simp at hy hv
   subst hy hv
   exact RD.v _ rfl
 ·exact .fail
theorem run_app_ty {t t2 e ty:TypeId} {v x:Value} (h1:kdOf P t= .sl e) (h2:kdOf P t2= .sl e):(Builtin.append_ #[t,t2] ty #[v,x]).run P w=(Builtin.append_ #[t,t] ty #[v,x]).run P w:=by
 unfold Builtin.append_
 cases v<;>simp [run_underlying (kd_sl h1),run_underlying (kd_sl h2)]
end
section
variable {G:Nat→Option (List D)} {P:Program} {K:Ctx G} {F:Fr} {s:FSt} {o:Oper} {a:Act} {w w':World} {m:NM}
theorem run_append_str_at (base:Nat) {t u ty e:TypeId} {i:TypeInfo} (ht:P.underlying t=some (.slice e)) (hu:P.underlying u=some .string) (hi:P.info? e=some i) (hz:i.zero=some (.int .u8 0)) (hsize:i.size=1) (hby:i.bytes=1)
  {v:Value} {n:Nat} {xs:List Value} (hown:w.ownsRow base e 1 v n xs) (st:ByteArray) (h63:n+st.size≤maxLen) (hbytes:n+st.size≤140737488355328) (hbase:base≤w.heap.size) :
  ∃ v' w',(Builtin.append_ #[t,u] ty #[v,.string st]).run P w= .ok v' w'∧w'.ownsRow base e 1 v' (n+st.size) (xs++Lib.strCells st)∧w.grownBy w' v.ownBlock∧(v'.ownBlock=v.ownBlock∨v'.ownBlock=some w.heap.size):=by
 obtain ⟨v',w',hr,h1,h2,h3⟩:=Lib.run_append_own_string (P:=P) w base t u ty e i ht hu hi hz hsize hby v n xs hown st h63 hbytes hbase
 refine ⟨v',w',hr,h1,h2,?_⟩
 rcases hown.2 with ⟨rfl,rfl⟩|⟨g,cap,cur,rfl,hbg,hg,hnc,hcm,hcs,htake⟩
 ·by_cases hm:st.size=0
  ·rw [h3.2 ⟨rfl,hm⟩]
   exact .inl rfl
  ·have hr2:=run_append_nil_string (P:=P) w t u ty e i (.int .u8 0) ht hu hi hz st (by omega) (by simp only [maxLen] at h63;omega) (by rw [hby];omega)
   rw [hr2] at hr
   injection hr with hr
   subst hr
   exact .inr rfl
 ·have hx:xs.length=n:=by simpa using hown.1
  by_cases hroom:n+st.size≤cap
  ·have hr2:=Lib.run_append_room_string (P:=P) w t u ty e i ht hu hi hsize g n cap cur hg st hroom (by omega)
   rw [hr2] at hr
   injection hr with hr
   subst hr
   exact .inl rfl
  ·have holds: ∀ j u,xs[j]?=some u→w.cell? ((⟨g,0,none⟩:Addr).add j)=some u:=hown.cells (g:=g) rfl
   have hr2:=Lib.run_append_grow_string (P:=P) w t u ty e i (.int .u8 0) ht hu hi hz ⟨g,0,none⟩ n cap xs (by rw [hsize];simpa using hx) holds st (by omega) (by simp only [maxLen] at h63;omega) (by rw [hby];exact growslice_fits (by omega) (by omega))
   rw [hr2] at hr
   injection hr with hr
   subst hr
   exact .inr rfl
theorem u8_zero {e:TypeId} {i:TypeInfo} {z:Value} (hx:(P.info? e).map (fun i=>(i.zero,i.bytes))=some (some (.int .u8 0),1)) (T:TyOk P e i z):z= .int .u8 0∧i.bytes=1:=by
 rw [T.info] at hx
 simp only [Option.map_some,Option.some.injEq,Prod.mk.injEq,T.zero] at hx
 exact hx
theorem run_append_any {t t2 ty e:TypeId} {i:TypeInfo} {z v x:Value} {n k base:Nat} {xs news:List Value} (hk:kdOf P t= .sl e) (T:TyOk P e i z) (hown:w.ownsRow base e (szOf P e) v n xs) (hs:Src P w t2 e x k news) (hl:news.length=k*szOf P e)
  (hone: ∀ u∈news,u.oneCell'=true) (hb:(n+k)*byOf P e≤140737488355328) (h63:n+k≤9223372036854775807) (hbase:base≤w.heap.size) :
  ∃ v' w',(Builtin.append_ #[t,t2] ty #[v,x]).run P w= .ok v' w'∧w'.ownsRow base e (szOf P e) v' (n+k) (xs++news)∧w.grownBy w' v.ownBlock∧(v'.ownBlock=v.ownBlock∨v'.ownBlock=some w.heap.size):=by
 rcases hs with ⟨h2,A,c,rfl,h⟩|⟨h2,h3,st,rfl,rfl,rfl⟩
 ·rw [run_app_ty hk h2]
  have nil:k=0→news=[]→ ∃ v' w',(Builtin.append_ #[t,t] ty #[v,.slice A k c]).run P w= .ok v' w'∧w'.ownsRow base e (szOf P e) v' (n+k) (xs++news)∧w.grownBy w' v.ownBlock∧(v'.ownBlock=v.ownBlock∨v'.ownBlock=some w.heap.size):=by
   rintro rfl rfl
   cases A with
   | none=>exact ⟨v,w,run_app_nil base t ty e i (szOf P e) (kd_sl hk) T.info v n xs hown c,by simpa using hown,World.grownBy.refl _ _,.inl rfl⟩
   | some ad =>
    obtain ⟨v',w',h1,h2,h3,_,h5⟩:=run_append_own_at (P:=P) w base t ty e i z (szOf P e) (byOf P e) (kd_sl hk) T.info T.zero T.sz.symm T.by'.symm (by rw [T.sz];exact T.zsize) (by rw [T.sz];exact T.pos) v n xs hown ad 0 c [] (by simp) (by simp) (by simp) (by simpa [maxLen] using h63) hb hbase
    exact ⟨v',w',h1,h2,h3,h5⟩
  rcases h with ⟨h0,h1⟩|⟨ad,rfl,hc⟩
  ·exact nil h0 h1
  ·obtain ⟨v',w',h1,h2,h3,_,h5⟩:=run_append_own_at (P:=P) w base t ty e i z (szOf P e) (byOf P e) (kd_sl hk) T.info T.zero T.sz.symm T.by'.symm (by rw [T.sz];exact T.zsize) (by rw [T.sz];exact T.pos) v n xs hown ad k c news hl hc hone (by simpa [maxLen] using h63) hb hbase
   exact ⟨v',w',h1,h2,h3,h5⟩
 ·obtain ⟨rfl,hby⟩:=u8_zero h3.2.2 T
  have h4:=h3.2.1
  rw [h4] at hown ⊢
  have hb1:byOf P e=1:=by rw [T.by',hby]
  rw [hb1,Nat.mul_one] at hb
  exact run_append_str_at base (kd_sl hk) (kd_str h2) T.info T.zero (by rw [← T.sz];exact h4) hby hown st (by simpa [maxLen] using h63) hb hbase
theorem Rel.grown {r:Option Nat} {d:Nat} {e:TypeId} {v v':Value} {n sz base:Nat} {cs:List C} {xs:List Value} (h:Rel K F m s a w) (hdd:o.dst=some d) (hd:d<F.n) (hf:s.ob d=none) (hsz:0<sz)
  (hr: ∀ k,v.ownBlock=some k→ ∃ r',r=some r'∧s.ob.own r'∧m.vd r'=false∧m.g r'=k) (hrd: ∀ r',r=some r'→s.ob.dom r')
  (hown:w'.ownsRow base e sz v' n xs) (hg:w.grownBy w' v.ownBlock) (hv:v'.ownBlock=v.ownBlock∨v'.ownBlock=some w.heap.size) (hl:RL w (Vis K m s.ob w) m s.ob.dom cs xs) :
  ∃ m',Rel K F m' (s.app o.dst (.a (.c (.row d sz 0 n .grow))) ((r.toList.map fun r=>(r,none))++[(d,some ⟨e,cs,false,false⟩)])) (a.put o.dst v') w':=by
 rw [hdd]
 have hne: ∀ r,s.ob.dom r→r≠d:=fun r hr e=>hr (by rw [e];exact hf)
 generalize hU:(r.toList.map fun r=>(r,(none:Option AObj)))++[(d,some ⟨e,cs,false,false⟩)]=U
 have hobd:updO s.ob U d=some (some ⟨e,cs,false,false⟩):=by
  rw [← hU]
  cases r<;>exact upd_same
 have hobr: ∀ r',r=some r'→updO s.ob U r'=some none:=by
  rintro r' rfl
  rw [← hU]
  show upd (upd s.ob r' _) d _ r'=_
  rw [upd_ne (hne r' (hrd r' rfl)),upd_same]
 have hobo: ∀ r',r'≠d→r≠some r'→updO s.ob U r'=s.ob r':=by
  intro r' h1 h2
  rw [← hU]
  cases r with
  | none=>exact upd_ne h1
  | some r0 =>
   show upd (upd s.ob r0 _) d _ r'=_
   rw [upd_ne h1,upd_ne (fun e=>h2 (by rw [e]))]
 obtain ⟨g,N,vd,hvd,hcase⟩: ∃ (g N:Nat) (vd:Bool),(vd=false→v'.ownBlock=some g) ∧
   ((vd=true∧v'= .slice none 0 0∧n=0)∨(vd=false∧ ∃ cap cur,v'= .slice (some ⟨g,0,none⟩) n cap∧w'.heap[g]?=some (.cells cur e (0,0))∧n≤cap∧cap≤maxLen∧cur.size=cap*sz∧cur.size=N∧cur.toList.take (n*sz)=xs)):=by
  rcases hown.2 with ⟨h1,h2⟩|⟨g,cap,cur,rfl,_,h2,h3,h4,h5,h6⟩
  ·exact ⟨0,0,true,(fun h=>by cases h),.inl ⟨rfl,h1,h2⟩⟩
  ·exact ⟨g,cur.size,false,fun _=>rfl,.inr ⟨rfl,cap,cur,rfl,h2,h3,h4,h5,rfl,h6⟩⟩
 refine ⟨m.set d g N vd,?_⟩
 have hdom: ∀ r',s.ob.dom r'→(updO s.ob U).dom r':=fun r' h'=>by
  show updO s.ob U r'≠none
  by_cases h2:r=some r'
  ·rw [hobr r' h2]
   simp
  ·rw [hobo r' (hne r' h') h2]
   exact h'
 have t:Turn K m (m.set d g N vd) s.ob (updO s.ob U) w w' (fun r'=>r'=d∨r=some r'):=by
  refine ⟨fun r' h'=>hobo r' (fun e=>h' (.inl e)) (fun e=>h' (.inr e)),hdom,fun r' h'=>(NM.set_other (hne r' h')).1,fun r' h'=>(NM.set_other (hne r' h')).2.1,fun r' h'=>(NM.set_other (hne r' h')).2.2,
   ⟨hg.os,hg.tape,hg.output,hg.size,fun k hk hn=>hg.block k hk fun e=>?_⟩,fun r' h' ho hv'=>?_,fun r1 r2 h1 h2 ho1 ho2 _ _ _=>?_⟩
  ·obtain ⟨r',h1,h2,h3,h4⟩:=hr k e.symm
   exact hn ⟨r',.inr h1,h2,h3,h4⟩
  ·have hr'd:r'=d:=h'.elim id fun e=>by
    obtain ⟨o',h1,_⟩:=ho
    rw [hobr r' e] at h1
    cases h1
   subst hr'd
   rw [NM.set_same.2.2] at hv'
   rw [NM.set_same.1]
   have hb:=hvd hv'
   rcases hv with hv|hv
   ·rw [hb] at hv
    obtain ⟨r2,h1,h2,h3,h4⟩:=hr g hv.symm
    exact .inl ⟨r2,.inr h1,h2,h3,h4⟩
   ·rw [hb] at hv
    injection hv with hv
    exact .inr (by rw [hv];exact Nat.le_refl _)
  ·have e: ∀ r',(r'=d∨r=some r')→(updO s.ob U).own r'→r'=d:=fun r' h' ho=>h'.elim id fun e=>by
    obtain ⟨o',h1,_⟩:=ho
    rw [hobr r' e] at h1
    cases h1
   exact (e r1 h1 ho1).trans (e r2 h2 ho2).symm
 have k:=t.keep h.heap
 have hdd':(updO s.ob U).dom d:=by
  show updO s.ob U d≠none
  rw [hobd]
  simp
 have hobj: ∀ r' o',(r'=d∨r=some r')→updO s.ob U r'=some (some o')→r'=d∧o'=⟨e,cs,false,false⟩:=fun r' o' h' ho=>by
  rcases h' with rfl|h'
  ·rw [hobd] at ho
   injection ho with ho
   injection ho with ho
   exact ⟨rfl,ho.symm⟩
  ·rw [hobr r' h'] at ho
   cases ho
 refine h.turn t (t.rel h.heap (fun r' o' h' ho=>?_) (fun r' o' h' ho hfr _=>?_)) (fun _ e=>by injection e with e;rw [← e];exact hd) ?_
 ·obtain ⟨rfl,rfl⟩:=hobj r' o' h' ho
  have hl1:=hl.1
  rcases hcase with ⟨h1,h2,h3⟩|⟨h1,cap,cur,h2,h3,h4,h5,h6,h7,h8⟩
  ·refine ⟨.inl ⟨by rw [NM.set_same.2.2];exact h1,?_,rfl⟩⟩
   have:=hown.1
   rw [h3,Nat.zero_mul] at this
   exact List.eq_nil_of_length_eq_zero (show cs.length=0 by omega)
  ·have hxl:=hown.1
   have hle:n*sz≤cap*sz:=Nat.mul_le_mul_right _ h4
   refine ⟨.inr ⟨by rw [NM.set_same.2.2];exact h1,cur,by rw [NM.set_same.1];exact h3,by rw [NM.set_same.2.1];exact h7,(fun h=>by cases h),?_,fun i x hx=>?_⟩⟩
   ·show cs.length≤cur.size
    omega
   ·have hi:i<xs.length:=by
     rw [hl1]
     exact (List.getElem?_eq_some_iff.1 hx).1
    refine ⟨xs[i],?_,k.rc (hl.2 i x _ hx (List.getElem?_eq_getElem hi))⟩
    have h9:xs[i]?=some xs[i]:=List.getElem?_eq_getElem hi
    generalize xs[i]=q at h9 ⊢
    rw [← h8,List.getElem?_take] at h9
    split at h9
    ·simpa using h9
    ·cases h9
 ·obtain ⟨rfl,rfl⟩:=hobj r' o' h' ho
  cases hfr
 ·rcases hcase with ⟨h1,rfl,h3⟩|⟨h1,cap,cur,rfl,h3,h4,h5,h6,h7,h8⟩
  ·exact ⟨hdd',none,0,by rw [h3],by omega,by omega,rfl,.inl ⟨by rw [NM.set_same.2.2];exact h1,rfl,h3,rfl⟩⟩
  ·exact ⟨hdd',_,cap,rfl,h4,by simpa [maxLen] using h5,rfl,.inr ⟨by rw [NM.set_same.2.2];exact h1,by rw [NM.set_same.1],by rw [NM.set_same.2.1,← h7,h6]⟩⟩
theorem ok_append {t t2 ty:TypeId} {x y:Operand} (hR:Rel K F m s a w) (hd: ∀ d,o.dst=some d→d<F.n) (hx:execOp a.eval o=(do pure (Next.value (← Builtin.append_ #[t,t2] ty #[a.eval x,a.eval y])))) (hcx:constOk x=true) (hcy:constOk y=true):QOk P K F s o a w (appendQ P o.dst t t2 (evl G s.sl x) (evl G s.sl y)):=by
 have hv:=evl_ok hR x hcx
 unfold appendQ
 split
 ·rename_i e d hk hdd
  refine .need fun ht=> .new fun hf=>?_
  obtain ⟨i,z,T⟩:=tyok_spec ht
  have hsz:0<szOf P e:=by rw [T.sz];exact T.pos
  split
  ·rename_i ex
   rw [ex] at hv
   have hu:a.eval x= .slice none 0 0:=hv
   refine ok_src hR hcy fun k vs news hs hl hn=> .need fun ⟨h1,h2⟩=>?_
   obtain ⟨v',w',hr,ho,hg,hvv⟩:=run_append_any (ty:=ty) hk T (World.ownsRow_nil w w.heap.size e (szOf P e)) hs hn hl.one (by simpa using h1) (by simpa using h2) (Nat.le_refl _)
   rw [hu] at hx
   rw [Nat.zero_add,List.nil_append] at ho
   exact .done (val_goal hx hr (hR.grown (r:=none) hdd (hd d hdd) hf hsz (fun k h=>by cases h) (fun _ h=>by cases h) ho hg hvv hl))
  ·rename_i r sz off n cap ex
   rw [ex] at hv
   obtain ⟨hdm,A,c,hu,hnc,hcm,hcap⟩:=rs_row hv
   refine .obj fun ob hob=>?_
   split
   ·split
    ·rename_i k0 e2 hk2
     refine ok_src hR hcx fun n' olds xs hsx hlx hnx=>ok_src hR hcy fun k vs news hs hl hn=> .need fun ⟨hkn,hnn,hn0,hm0,h1,h2⟩=>?_
     obtain rfl:c=k0:=hcap.1
     subst hkn hnn
     rcases hsx with ⟨_,A1,c1,hxe,h3⟩|⟨_,_,st,hxe,_⟩
     ·rw [hu] at hxe
      injection hxe with hA hn1 hc1
      subst hA
      rcases h3 with ⟨h0,_⟩|⟨ad,had,hcx2⟩
      ·omega
      subst had
      rcases hs with ⟨h4,A2,c2,hye,h5⟩|⟨h4,_⟩
      ·rcases h5 with ⟨h0,_⟩|⟨ad2,had2,hcy2⟩
       ·omega
       subst had2
       have hr:=run_append_grow (P:=P) w t ty e i z (kd_sl hk) T.info T.zero ad n' n' xs (by rw [← T.sz];exact hnx) hcx2 ad2 k c2 news (by rw [← T.sz];exact hn) hcy2 (by omega) (by omega) (growslice_fits (by omega) (by rw [← T.by'];exact h1))
       rw [← run_app_ty hk h4] at hr
       have hge:=grownCap_ge w (n'+k) n' e
       have hcm:grownCap w (n'+k) n' e≤maxLen:=grownCap_le_maxLen w (n'+k) n' e (by simpa [maxLen] using h2)
       have hlen:(xs++news).length=(n'+k)*szOf P e:=by rw [List.length_append,hnx,hn,Nat.add_mul]
       have hzs:z.cells.size=szOf P e:=by rw [T.sz];exact T.zsize
       have hown:(w.drew.alloc (.cells (xs.toArray++news.toArray++Builtin.zeroCells z.cells (grownCap w (n'+k) n' e-(n'+k))) e)).ownsRow w.heap.size e (szOf P e) (.slice (some ⟨w.heap.size,0,none⟩) (n'+k) (grownCap w (n'+k) n' e)) (n'+k) (xs++news):=by
        refine ⟨hlen,.inr ⟨w.heap.size,_,_,rfl,Nat.le_refl _,heap_alloc_new w.drew _,hge,hcm,?_,?_⟩⟩
        ·simp only [Array.size_append,List.size_toArray,size_zeroCells,hzs,hnx,hn,← Nat.add_mul]
         congr 1
         omega
        ·simp only [Array.toList_append,List.append_assoc]
         rw [← List.append_assoc,← hlen]
         exact List.take_left
       have hg:w.grownBy (w.drew.alloc (.cells (xs.toArray++news.toArray++Builtin.zeroCells z.cells (grownCap w (n'+k) n' e-(n'+k))) e)) (Value.ownBlock (.slice none 0 0)):=⟨rfl,rfl,rfl,by simp,fun k hk _=>heap_alloc_old w.drew _ hk⟩
       have hll:RL w (Vis K m s.ob w) m s.ob.dom (olds++vs) (xs++news):=⟨by simp [hlx.1,hl.1],fun i y v hy hv=>by
        rw [List.getElem?_append] at hy hv
        rw [hlx.1] at hv
        split at hy
        ·rename_i hi
         rw [if_pos hi] at hv
         exact hlx.2 i y v hy hv
        ·rename_i hi
         rw [if_neg hi] at hv
         exact hl.2 _ y v hy hv⟩
       rw [hu,hye] at hx
       exact .done (val_goal hx hr (hR.grown (r:=none) (v:= .slice none 0 0) hdd (hd d hdd) hf hsz (fun k h=>by cases h) (fun _ h=>by cases h) hown hg (.inr rfl) hll))
      ·rw [hk2] at h4
       cases h4
     ·rw [hu] at hxe
      cases hxe
    ·exact .fail
   refine ok_src hR hcy fun k vs news hs hl hn=> .need fun ⟨hfr,hty,hoff,hsze,hlen,h1,h2,hcp⟩=>?_
   subst hty hoff hsze
   have hrow: ∃ base us,base≤w.heap.size∧w.ownsRow base ob.ty (szOf P ob.ty) (.slice A n c) n us∧RL w (Vis K m s.ob w) m s.ob.dom ob.cs us∧ ∀ k,(Value.slice A n c).ownBlock=some k→m.vd r=false∧m.g r=k:=by
    have key:m.vd r=false→A=some ⟨m.g r,0,none⟩→c*szOf P ob.ty=m.N r→ ∃ base us,base≤w.heap.size∧w.ownsRow base ob.ty (szOf P ob.ty) (.slice A n c) n us∧RL w (Vis K m s.ob w) m s.ob.dom ob.cs us∧ ∀ k,(Value.slice A n c).ownBlock=some k→m.vd r=false∧m.g r=k:=by
     intro hvd hA hN
     subst hA
     obtain ⟨arr,g1,g2,g3,g4,g5⟩:=hR.obj hob hvd
     refine ⟨m.g r,arr.toList.take (n*szOf P ob.ty),Nat.le_of_lt ((Array.getElem?_eq_some_iff.1 g1).1),⟨?_,.inr ⟨m.g r,c,arr,rfl,Nat.le_refl _,g1,hnc,by simpa [maxLen] using hcm,by rw [g2,hN],rfl⟩⟩,⟨?_,fun i y v hy hv=>?_⟩,fun k hk=>⟨hvd,by simpa [Value.ownBlock] using hk⟩⟩
     ·simp only [List.length_take,Array.length_toList]
      omega
     ·simp only [List.length_take,Array.length_toList]
      omega
     ·rw [List.getElem?_take] at hv
      split at hv
      ·obtain ⟨u,g6,g7⟩:=g5 i y hy
       have:arr[i]?=some v:=by simpa using hv
       rw [g6] at this
       injection this with this
       subst this
       exact g7
      ·cases hv
    cases cap with
    | grow =>
     obtain ⟨_,⟨hvd,rfl,rfl,rfl⟩|⟨hvd,hA,hN⟩⟩:=hcap
     ·refine ⟨w.heap.size,[],Nat.le_refl _,World.ownsRow_nil w _ _ _,⟨?_,fun i y v hy hv=>by simp at hv⟩,fun k hk=>by cases hk⟩
      rw [hlen]
      simp
     ·exact key hvd hA hN
    | ex k =>
     obtain ⟨rfl,hA⟩:=hcap
     obtain ⟨rfl,hex⟩:=hcp
     obtain ⟨hvd,hA⟩:=hA (.inr rfl)
     obtain ⟨arr,g1,g2,g3,g4,g5⟩:=hR.obj hob hvd
     exact key hvd hA (by rw [← g2,g3 hex,hlen])
    | any=>exact hcp.elim
   obtain ⟨base,us,hbase,how,hlo,hbk⟩:=hrow
   have hown:s.ob.own r:=⟨ob,hob,hfr⟩
   obtain ⟨v',w',hr,ho,hg,hvv⟩:=run_append_any (ty:=ty) hk T how hs hn hl.one h1 h2 hbase
   rw [hu] at hx
   have hlu:=hlo.1
   have hll:RL w (Vis K m s.ob w) m s.ob.dom (ob.cs++vs) (us++news):=⟨by simp [hlu,hl.1],fun i y v hy hv=>by
    rw [List.getElem?_append] at hy hv
    rw [hlu] at hv
    split at hy
    ·rename_i hi
     rw [if_pos hi] at hv
     exact hlo.2 i y v hy hv
    ·rename_i hi
     rw [if_neg hi] at hv
     exact hl.2 _ y v hy hv⟩
   exact .done (val_goal hx hr (hR.grown (r:=some r) hdd (hd d hdd) hf hsz (fun k h=>⟨r,rfl,hown,(hbk k h).1,(hbk k h).2⟩) (fun r' h=>by injection h with h;rw [← h];exact hown.dom) ho hg hvv hll))
  ·exact .fail
 ·exact .fail
end
section
variable {G:Nat→Option (List D)} {P:Program} {K:Ctx G} {F:Fr} {s:FSt} {o:Oper} {a:Act} {w w':World} {m:NM}
theorem RL.take {S:Nat→Prop} {dom:Nat→Prop} {cs:List C} {us:List Value} (h:RL w S m dom cs us) (k:Nat):RL w S m dom (cs.take k) (us.take k):=by
 refine ⟨by simp [h.1],fun i x v hx hv=>?_⟩
 rw [List.getElem?_take] at hx hv
 split at hx
 ·rename_i hi
  rw [if_pos hi] at hv
  exact h.2 i x v hx hv
 ·cases hx
theorem run_first {t2 e:TypeId} {x:Value} {k n:Nat} {news:List Value} (hs:Src P w t2 e x k news) (hl:news.length=k*szOf P e) (hn:n≤k):(Builtin.lenOf x).run P w= .ok k w∧(Builtin.firstCells (szOf P e) n x).run P w= .ok (news.take (n*szOf P e)).toArray w:=by
 rcases hs with ⟨_,A,c,rfl,h⟩|⟨_,h3,st,rfl,rfl,rfl⟩
 ·refine ⟨rfl,?_⟩
  rcases h with ⟨rfl,rfl⟩|⟨ad,rfl,hc⟩
  ·obtain rfl:n=0:=by omega
   cases A with
   | none=>simp [Builtin.firstCells]
   | some ad=>simp [Builtin.firstCells,loadCells,loadCellsFrom]
  ·have hlen:(news.take (n*szOf P e)).length=n*szOf P e:=by
    rw [List.length_take,hl]
    exact Nat.min_eq_left (Nat.mul_le_mul_right _ hn)
   have:=run_loadCells_list (P:=P) w ad (news.take (n*szOf P e)) fun j v hj=>by
    rw [List.getElem?_take] at hj
    split at hj
    ·exact hc j v hj
    ·cases hj
   rw [hlen] at this
   exact this
 ·refine ⟨rfl,?_⟩
  rw [h3.2.1,Nat.mul_one]
  simp only [Builtin.firstCells,Sem.run_pure]
  congr 1
  apply Array.ext'
  simp [Lib.strCells,List.map_take,List.extract_eq_take_drop]
theorem ok_copy {t t2 ty:TypeId} {x y:Operand} (hR:Rel K F m s a w) (hd: ∀ d,o.dst=some d→d<F.n) (hx:execOp a.eval o=(do pure (Next.value (← Builtin.copy_ #[t,t2] ty #[a.eval x,a.eval y])))) (hcx:constOk x=true) (hcy:constOk y=true) :
  QOk P K F s o a w (copyQ P t t2 (evl G s.sl x) (evl G s.sl y)):=by
 have hv:=evl_ok hR x hcx
 unfold copyQ
 split
 ·rename_i e r sz off n cap hk ex
  rw [ex] at hv
  obtain ⟨hdm,A,c,hu,hnc,hcm,hcap⟩:=rs_row hv
  rw [hu] at hx
  refine .obj fun ob hob=>ok_src hR hcy fun k vs news hs hl hn=> .need fun ⟨ht,hfr,hsz,h0,hle⟩=>?_
  obtain ⟨i,z,T⟩:=tyok_spec ht
  obtain ⟨hvd,rfl⟩:=cap_addr hcap hnc h0
  subst hsz
  have hmin:min k n*szOf P e≤n*szOf P e:=Nat.mul_le_mul_right _ (Nat.min_le_right _ _)
  have hmin2:min k n*szOf P e≤k*szOf P e:=Nat.mul_le_mul_right _ (Nat.min_le_left _ _)
  have hlt:=hl.take (min k n*szOf P e)
  have h1:=hl.1
  have hvl:(vs.take (min k n*szOf P e)).length=min k n*szOf P e:=by
   rw [List.length_take]
   omega
  obtain ⟨arr,g1,g2,g3⟩:=hR.set (dst:=o.dst) (v:= .a (.c (.d (.v (.int .i64 (min k n:Nat)))))) (u:= .int .i64 (min k n:Nat)) hob hfr hvd hlt.1 (by rw [hvl];exact Nat.le_trans (Nat.add_le_add_left hmin off) hle) hlt.2 hd (fun _ _ _=>rd_v rfl)
  refine .done (val_goal hx ?_ ⟨m,g3⟩)
  obtain ⟨r1,r2⟩:=run_first hs hn (Nat.min_le_left k n)
  simp only [Builtin.copy_,List.getElem?_toArray,List.getElem?_cons_zero,List.getElem?_cons_succ,Sem.run_bind,run_underlying (kd_sl hk),Result.andThen_ok,r1,run_sizeOf T,Nat.min_def] at r2 ⊢
  rw [r2]
  simp only [Result.andThen_ok,Sem.run_bind]
  have:=run_storeCells_at P (m.g r) off ob.ty (news.take (min k n*szOf P e)) 0 arr w g1 (by simpa using g2) hlt.one
  simp only [Nat.add_zero,Nat.min_def] at this
  rw [this]
  simp [goInt,Nat.min_def]
 ·exact .fail
def Frozen (s:FSt) (U:List (Nat × Option AObj)):Prop:= ∀ p∈U,∃ x,s.ob p.1=some (some x)∧p.2=some { x with fr:=true }
def CvOk (K:Ctx G) (m:NM) (s:FSt) (w:World) (U:List (Nat × Option AObj)) (R:(Nat→Prop)→Prop):Prop:=
 Frozen s U∧ ∀ H',HRel K m H' w→(∀ p∈U,H' p.1=some p.2)→(∀ b,Vis K m s.ob w b→Vis K m H' w b)→R (Vis K m H' w)
theorem dOnly_spec {S:Nat→Prop} {dom:Nat→Prop}: ∀ {cs:List C} {ds:List D},dOnly cs=some ds→ds.length=cs.length∧ ∀ (i:Nat) x y u,cs[i]?=some x→ds[i]?=some y→RC w S m dom x u→RD w S y u
 | [],ds,h=>by
  simp only [dOnly,Option.some.injEq] at h
  subst h
  exact ⟨rfl,fun i x y u hx=>by simp at hx⟩
 | c :: cs,ds,h=>by
  simp only [dOnly] at h
  split at h
  ·rename_i y l h1 h2
   injection h with h
   subst h
   obtain ⟨ih1,ih2⟩:=dOnly_spec (S:=S) (dom:=dom) h2
   refine ⟨by simp [ih1],fun i x y' u hx hy hr=>?_⟩
   cases i with
   | zero =>
    simp at hx hy
    subst hx hy
    unfold dOf at h1
    split at h1
    ·injection h1 with h1
     subst h1
     exact hr
    ·injection h1 with h1
     subst h1
     have hr:u= .slice none 0 0:=hr
     subst hr
     exact RD.nil none 0 (by omega)
    ·cases h1
   | succ i=>exact ih2 i x y' u (by simpa using hx) (by simpa using hy) hr
  ·cases h
theorem frozen_cells {H':Hp} {r:Nat} {x:AObj} {ds:List D} (h:HRel K m H' w) (ho:H' r=some (some { x with fr:=true })) (hv:m.vd r=false) (hd:dOnly x.cs=some ds) :
  Vis K m H' w (m.g r)∧ ∃ us:Nat→Value,(∀ (i:Nat) y,ds[i]?=some y→w.cell? ⟨m.g r,i,none⟩=some (us i))∧ ∀ (i:Nat) y,ds[i]?=some y→RD w (Vis K m H' w) y (us i):=by
 refine ⟨h.fz r _ ho rfl hv,?_⟩
 rcases (h.obj r _ ho).row with ⟨h1,_⟩|⟨_,arr,h1,h2,h3,h4,h5⟩
 ·rw [hv] at h1
  cases h1
 obtain ⟨hl,hc⟩:=dOnly_spec (w:=w) (m:=m) (S:=Vis K m H' w) (dom:=H'.dom) hd
 have key: ∀ (i:Nat) y,ds[i]?=some y→w.cell? ⟨m.g r,i,none⟩=some (arr[i]?.getD undef)∧RD w (Vis K m H' w) y (arr[i]?.getD undef):=fun i y hy=>by
  have hlt:i<x.cs.length:=by
   rw [← hl]
   exact (List.getElem?_eq_some_iff.1 hy).1
  obtain ⟨u,hu,hr⟩:=h5 i _ (List.getElem?_eq_getElem hlt)
  rw [cell_arr h1,hu]
  exact ⟨rfl,hc i _ y u (List.getElem?_eq_getElem hlt) hy hr⟩
 exact ⟨fun i=>arr[i]?.getD undef,fun i y hy=>(key i y hy).1,fun i y hy=>(key i y hy).2⟩
theorem part_idx {cap:Cap} {ds:List D} {off k i:Nat} {y:D} (h:(cap.part ds off k)[i]?=some y) (hg: ∀ c,cap=c→c= .grow→off=0):ds[off+i]?=some y:=by
 cases cap with
 | grow =>
  rw [hg _ rfl rfl,Nat.zero_add]
  exact h
 | ex n =>
  simp only [Cap.part] at h
  rw [List.getElem?_take] at h
  split at h
  ·rw [List.getElem?_drop] at h
   exact h
  ·cases h
 | any =>
  simp only [Cap.part] at h
  rw [List.getElem?_take] at h
  split at h
  ·rw [List.getElem?_drop] at h
   exact h
  ·cases h
theorem CvOk.mono {U:List (Nat × Option AObj)} {R R':(Nat→Prop)→Prop} (h:CvOk K m s w U R) (hr: ∀ S,R S→R' S):CvOk K m s w U R':=⟨h.1,fun H' h1 h2 h3=>hr _ (h.2 H' h1 h2 h3)⟩
theorem CvOk.and {U V:List (Nat × Option AObj)} {R R':(Nat→Prop)→Prop} (h:CvOk K m s w U R) (k:CvOk K m s w V R'):CvOk K m s w (U++V) (fun S=>R S∧R' S):=
 ⟨fun p hp=>(List.mem_append.1 hp).elim (h.1 p) (k.1 p),fun H' h1 h2 h3=>⟨h.2 H' h1 (fun p hp=>h2 p (List.mem_append_left _ hp)) h3,k.2 H' h1 (fun p hp=>h2 p (List.mem_append_right _ hp)) h3⟩⟩
theorem cv_ptr {r off:Nat} {x:AObj} {ds:List D} (hx:s.ob r=some (some x)) (hvd:m.vd r=false) (hds:dOnly x.cs=some ds) :
  CvOk K m s w [(r,some { x with fr:=true })] (fun S=>RD w S (.ptr ds off) (.pointer (some ⟨m.g r,off,none⟩))):=by
 refine ⟨fun p hp=>?_,fun H' hH hU hs=>?_⟩
 ·simp at hp
  subst hp
  exact ⟨x,hx,rfl⟩
 ·obtain ⟨h1,us,h2,h3⟩:=frozen_cells hH (hU _ (List.mem_singleton.2 rfl)) hvd hds
  have:=RD.ptr (w:=w) (S:=Vis K m H' w) off (m.g r) 0 ds us h1 (fun i y hy=>by rw [Nat.zero_add];exact h2 i y hy) h3
  rwa [Nat.zero_add] at this
theorem ok_cvCaps {Good:Out→Prop}: ∀ {caps:List (Nat × Nat)} {k:List D→List (Nat × Option AObj)→Q} (hR:Rel K F m s a w) (hv: ∀ p∈caps,s.ob.dom p.1∧m.vd p.1=false)
  (h: ∀ ds U,CvOk K m s w U (fun S=>ds.length=caps.length∧ ∀ (i:Nat) y p,ds[i]?=some y→caps[i]?=some p→RD w S y (.pointer (some ⟨m.g p.1,p.2,none⟩)))→QG s Good (k ds U)),QG s Good (cvCaps caps k)
 | [],k,hR,hv,h=>h [] [] ⟨(fun p hp=>by cases hp),fun H' _ _ _=>⟨rfl,fun i y p hy=>by simp at hy⟩⟩
 | (r, off)::caps,k,hR,hv,h=>by
  refine .obj fun x hx=>?_
  split
  ·rename_i ds hds
   refine ok_cvCaps hR (fun p hp=>hv p (List.mem_cons_of_mem _ hp)) fun ys V hys=>h _ _ (((cv_ptr (off:=off) hx (hv _ (List.mem_cons_self ..)).2 hds).and hys).mono fun S ⟨h1,h2,h3⟩=>⟨by simp [h2],fun i y p hy hp=>?_⟩)
   cases i with
   | zero =>
    simp at hy hp
    subst hy hp
    exact h1
   | succ i=>exact h3 i y p (by simpa using hy) (by simpa using hp)
  ·exact .fail
def OkL (hR:Rel K F m s a w) (f:List C→(List D→List (Nat × Option AObj)→Q)→Q):Prop:= ∀ {Good:Out→Prop} {cs:List C} {us:List Value} {k:List D→List (Nat × Option AObj)→Q} (hv:RL w (Vis K m s.ob w) m s.ob.dom cs us)
  (h: ∀ ys U,CvOk K m s w U (fun S=>us.length=ys.length∧ ∀ (i:Nat) y v,ys[i]?=some y→us[i]?=some v→RD w S y v)→QG s Good (k ys U)),QG s Good (f cs k)
def OkC (hR:Rel K F m s a w) (f:C→(D→List (Nat × Option AObj)→Q)→Q):Prop:= ∀ {Good:Out→Prop} {x:C} {u:Value} {k:D→List (Nat × Option AObj)→Q} (hv:RC w (Vis K m s.ob w) m s.ob.dom x u)
  (h: ∀ y U,CvOk K m s w U (fun S=>RD w S y u)→QG s Good (k y U)),QG s Good (f x k)
theorem okIn {inner:List C→(List D→List (Nat × Option AObj)→Q)→Q} (hR:Rel K F m s a w) (hi:OkL hR inner):OkL hR (cvIn inner):=by
 intro Good cs us k hv h
 unfold cvIn
 split
 ·rename_i ds hds
  obtain ⟨h1,h2⟩:=dOnly_spec (w:=w) (m:=m) (S:=Vis K m s.ob w) (dom:=s.ob.dom) hds
  refine h _ _ ⟨(fun p hp=>by cases hp),fun H' _ _ hs=>⟨by rw [h1];exact hv.1,fun i y v hy hv'=>?_⟩⟩
  have hlt:i<cs.length:=by
   rw [← h1]
   exact (List.getElem?_eq_some_iff.1 hy).1
  exact RD.mono hs (fun _ _=>rfl) (h2 i _ y v (List.getElem?_eq_getElem hlt) hy (hv.2 i _ v (List.getElem?_eq_getElem hlt) hv'))
 ·exact hi hv h
theorem okF (hR:Rel K F m s a w):OkL hR cvF:=fun _ _=> .fail
theorem okLS {f:C→(D→List (Nat × Option AObj)→Q)→Q} (hR:Rel K F m s a w) (hf:OkC hR f):OkL hR (cvLS f):=by
 intro Good cs
 induction cs with
 | nil=>exact fun {us k} hv h=>h [] [] ⟨(fun p hp=>by cases hp),fun H' _ _ _=>⟨by simpa using hv.1,fun i y v hy=>by simp at hy⟩⟩
 | cons c cs ih =>
  intro us k hv h
  cases us with
  | nil=>have:=hv.1;simp at this
  | cons u us =>
   refine hf (hv.2 0 c u rfl rfl) fun y U hy=>ih (us:=us) ⟨by simpa using hv.1,fun i x v hx hv'=>hv.2 (i+1) x v (by simpa using hx) (by simpa using hv')⟩ fun ys V hys=>h _ _ ((hy.and hys).mono fun S ⟨h1,h2,h3⟩=>⟨by simp [h2],fun i y' v hy' hv'=>?_⟩)
   cases i with
   | zero =>
    simp at hy' hv'
    subst hy' hv'
    exact h1
   | succ i=>exact h3 i y' v (by simpa using hy') (by simpa using hv')
theorem obj_cells {r:Nat} {x:AObj} (hR:Rel K F m s a w) (hx:s.ob r=some (some x)): ∃ us:List Value,RL w (Vis K m s.ob w) m s.ob.dom x.cs us∧(m.vd r=false→ ∀ i,i<us.length→w.cell? ⟨m.g r,i,none⟩=us[i]?):=by
 rcases (hR.heap.obj r x hx).row with ⟨_,h1,_⟩|⟨hv,arr,h1,h2,h3,h4,h5⟩
 ·exact ⟨[],by rw [h1];exact ⟨rfl,fun i x v hx=>by simp at hx⟩,fun _ i hi=>by simp at hi⟩
 ·refine ⟨arr.toList.take x.cs.length,⟨by simp only [List.length_take,Array.length_toList];omega,fun i y v hy hv'=>?_⟩,fun _ i hi=>?_⟩
  ·obtain ⟨u,hu,hr⟩:=h5 i y hy
   rw [List.getElem?_take] at hv'
   split at hv'
   ·have hv':arr[i]?=some v:=by simpa using hv'
    rw [hu] at hv'
    injection hv' with hv'
    subst hv'
    exact hr
   ·cases hv'
  ·rw [cell_arr h1,List.getElem?_take,if_pos (by simp only [List.length_take] at hi;omega)]
   simp
theorem okS {inner:List C→(List D→List (Nat × Option AObj)→Q)→Q} (hR:Rel K F m s a w) (hi:OkL hR inner):OkC hR (cvW inner):=by
 intro Good x u k hv h
 cases x with
 | d x=>exact h x [] ⟨(fun p hp=>by cases hp),fun H' _ _ hs=>RD.mono hs (fun _ _=>rfl) hv⟩
 | nil =>
  have hv:u= .slice none 0 0:=hv
  subst hv
  exact h _ [] ⟨(fun p hp=>by cases hp),fun H' _ _ hs=>RD.nil _ _ (by omega)⟩
 | fn f caps =>
  obtain ⟨rfl,hn⟩:=hv
  refine ok_cvCaps hR hn fun ds U hc=>h _ _ (hc.mono fun S ⟨h1,h2⟩=>?_)
  refine RD.fn f ds (caps.map fun p=>Value.pointer (some ⟨m.g p.1,p.2,none⟩)) (by simp [h1]) fun i x u hx hu=>?_
  rw [List.getElem?_map] at hu
  cases hq:caps[i]? with
  | none=>rw [hq] at hu;cases hu
  | some p =>
   rw [hq] at hu
   simp at hu
   subst hu
   exact h2 i x p hx hq
 | ptr r off =>
  obtain ⟨hdm,hvd,rfl⟩:=hv
  refine .obj fun x hx=>?_
  obtain ⟨us,hus,hcell⟩:=obj_cells hR hx
  refine okIn hR hi hus fun ds V hds=>h _ _ ⟨fun p hp=>?_,fun H' hH hU hs=>?_⟩
  ·rcases List.mem_cons.1 hp with rfl|hp
   ·exact ⟨x,hx,rfl⟩
   ·exact hds.1 p hp
  ·obtain ⟨g1,g2⟩:=hds.2 H' hH (fun p hp=>hU p (List.mem_cons_of_mem _ hp)) hs
   have hz:=hH.fz r _ (hU _ (List.mem_cons_self ..)) rfl hvd
   have:=RD.ptr (w:=w) (S:=Vis K m H' w) off (m.g r) 0 ds (fun i=>us[i]?.getD undef) hz (fun i y hy=>?_) (fun i y hy=>?_)
   ·rwa [Nat.zero_add] at this
   all_goals
    have hlt:i<us.length:=by
     rw [g1]
     exact (List.getElem?_eq_some_iff.1 hy).1
   ·rw [Nat.zero_add,hcell hvd i hlt,List.getElem?_eq_getElem hlt]
    rfl
   ·rw [List.getElem?_eq_getElem hlt]
    exact g2 i y _ hy (List.getElem?_eq_getElem hlt)
 | row r sz off n cap =>
  obtain ⟨hdm,A,c,rfl,hnc,hcm,hcap⟩:=hv
  refine .obj fun x hx=>?_
  obtain ⟨us,hus,hcell⟩:=obj_cells hR hx
  refine okIn hR hi hus fun ds V hds=>h _ _ ⟨fun p hp=>?_,fun H' hH hU hs=>?_⟩
  ·rcases List.mem_cons.1 hp with rfl|hp
   ·exact ⟨x,hx,rfl⟩
   ·exact hds.1 p hp
  ·obtain ⟨g1,g2⟩:=hds.2 H' hH (fun p hp=>hU p (List.mem_cons_of_mem _ hp)) hs
   have hgo: ∀ c,cap=c→c= .grow→off=0:=fun c h1 h2=>by
    subst h1
    subst h2
    exact hcap.1
   have hH0:=hU _ (List.mem_cons_self ..)
   have void:m.vd r=true→ds=[]:=fun hvd=>by
    rcases (hH.obj r _ hH0).row with ⟨_,h1,_⟩|⟨h1,_⟩
    ·have h1:x.cs=[]:=h1
     have h2:=hus.1
     rw [h1] at h2
     exact List.eq_nil_of_length_eq_zero (by rw [← g1];simpa using h2)
    ·rw [hvd] at h1
     cases h1
   by_cases hn:n=0∧cap.part ds off (n*sz)=[]
   ·show RD w _ (.sl n (cap.part ds off (n*sz))) (.slice A n c)
    rw [hn.2,hn.1]
    exact RD.nil _ _ hcm
   ·have hvA:m.vd r=false∧A=some ⟨m.g r,off,none⟩:=by
     rcases Nat.eq_zero_or_pos n with h0|h0
     ·have hne:cap.part ds off (n*sz)≠[]:=fun e=>hn ⟨h0,e⟩
      cases cap with
      | grow =>
       obtain ⟨hoff,⟨h1,_⟩|⟨h1,h2,_⟩⟩:=hcap
       ·exact absurd (by simp [Cap.part,void h1]) hne
       ·exact ⟨h1,by rw [h2,hoff]⟩
      | ex k=>exact absurd (by simp [Cap.part,h0]) hne
      | any=>exact absurd (by simp [Cap.part,h0]) hne
     ·exact cap_addr hcap hnc h0
    obtain ⟨hvd,rfl⟩:=hvA
    have hz:=hH.fz r _ hH0 rfl hvd
    refine RD.sl n c (m.g r) off _ (fun i=>us[off+i]?.getD undef) hnc hcm hz (fun i y hy=>?_) fun i y hy=>?_
    all_goals
     have hy':=part_idx hy hgo
     have hlt:off+i<us.length:=by
      rw [g1]
      exact (List.getElem?_eq_some_iff.1 hy').1
    ·rw [hcell hvd _ hlt,List.getElem?_eq_getElem hlt]
     rfl
    ·rw [List.getElem?_eq_getElem hlt]
     exact g2 _ y _ hy' (List.getElem?_eq_getElem hlt)
theorem ok_cv {Good:Out→Prop} {x:C} {u:Value} {k:D→List (Nat × Option AObj)→Q} (hR:Rel K F m s a w) (hv:RC w (Vis K m s.ob w) m s.ob.dom x u)
  (h: ∀ y U,CvOk K m s w U (fun S=>RD w S y u)→QG s Good (k y U)):QG s Good (cvQ x k):=
 okS hR (okLS hR (okS hR (okLS hR (okS hR (okLS hR (okS hR (okLS hR (okS hR (okF hR))))))))) hv h
theorem ok_cvL {Good:Out→Prop}: ∀ {cs:List C} {us:List Value} {k:List D→List (Nat × Option AObj)→Q} (hR:Rel K F m s a w) (hv:RL w (Vis K m s.ob w) m s.ob.dom cs us)
  (h: ∀ ys U,CvOk K m s w U (fun S=>us.length=ys.length∧ ∀ (i:Nat) y v,ys[i]?=some y→us[i]?=some v→RD w S y v)→QG s Good (k ys U)),QG s Good (cvL cs k)
 | [],us,k,hR,hv,h=>h [] [] ⟨(fun p hp=>by cases hp),fun H' _ _ _=>⟨by simpa using hv.1,fun i y v hy=>by simp at hy⟩⟩
 | c :: cs,us,k,hR,hv,h=>by
  cases us with
  | nil=>have:=hv.1;simp at this
  | cons u us =>
   refine ok_cv hR (hv.2 0 c u rfl rfl) fun y U hy=>ok_cvL (us:=us) hR ⟨by simpa using hv.1,fun i x v hx hv'=>hv.2 (i+1) x v (by simpa using hx) (by simpa using hv')⟩ fun ys V hys=>h _ _ ((hy.and hys).mono fun S ⟨h1,h2,h3⟩=>⟨by simp [h2],fun i y' v hy' hv'=>?_⟩)
   cases i with
   | zero =>
    simp at hy' hv'
    subst hy' hv'
    exact h1
   | succ i=>exact h3 i y' v (by simpa using hy') (by simpa using hv')
theorem ok_cvA {Good:Out→Prop} {x:AV} {u:Value} {k:DV→List (Nat × Option AObj)→Q} (hR:Rel K F m s a w) (hv:RA w (Vis K m s.ob w) m s.ob.dom x u)
  (h: ∀ y U,CvOk K m s w U (fun S=>DRd w S y u)→QG s Good (k y U)):QG s Good (cvA x k):=by
 cases x with
 | c x=>exact ok_cv hR hv fun y U hy=>h (.c y) U hy
 | agg cs =>
  obtain ⟨us,rfl,hl,hc⟩:=hv
  unfold cvA
  dsimp only
  split
  ·rename_i ds hds
   refine h _ _ ⟨(fun p hp=>by cases hp),fun H' _ _ hs=>?_⟩
   obtain ⟨h1,h2⟩:=dOnly_spec (w:=w) (m:=m) (S:=Vis K m s.ob w) (dom:=s.ob.dom) hds
   refine ⟨us,rfl,by rw [hl,h1],fun i y v hy hv=>?_⟩
   have hlt:i<cs.length:=by
    rw [← h1]
    exact (List.getElem?_eq_some_iff.1 hy).1
   exact RD.mono hs (fun _ _=>rfl) (h2 i _ y v (List.getElem?_eq_getElem hlt) hy (hc i _ v (List.getElem?_eq_getElem hlt) hv))
  ·exact ok_cvL hR ⟨hl,hc⟩ fun ys U hys=>h _ _ (hys.mono fun S ⟨h1,h2⟩=>⟨us,rfl,h1,h2⟩)
theorem ok_cvArgs {Good:Out→Prop}: ∀ {xs:List SV} {us:List Value} {k:List DV→List (Nat × Option AObj)→Q} (hR:Rel K F m s a w) (hl:us.length=xs.length) (hv: ∀ (i:Nat) x v,xs[i]?=some x→us[i]?=some v→RS w (Vis K m s.ob w) m s.ob.dom x v)
  (h: ∀ ys U,CvOk K m s w U (fun S=>DArgs w S ys us)→QG s Good (k ys U)),QG s Good (cvArgs xs k)
 | [],us,k,hR,hl,hv,h=>h [] [] ⟨(fun p hp=>by cases hp),fun H' _ _ _=>⟨by simpa using hl,fun i y v hy=>by simp at hy⟩⟩
 | x :: xs,us,k,hR,hl,hv,h=>by
  cases us with
  | nil=>simp at hl
  | cons u us =>
   have h0:=hv 0 x u rfl rfl
   cases x with
   | a x =>
    refine ok_cvA hR h0 fun y U hy=>ok_cvArgs (us:=us) hR (by simpa using hl) (fun i x v hx hv'=>hv (i+1) x v (by simpa using hx) (by simpa using hv')) fun ys V hys=>h _ _ ((hy.and hys).mono fun S ⟨h1,h2,h3⟩=>⟨by simp [h2],fun i y' v hy' hv'=>?_⟩)
    cases i with
    | zero =>
     simp at hy' hv'
     subst hy' hv'
     exact h1
    | succ i=>exact h3 i y' v (by simpa using hy') (by simpa using hv')
   | bot=>exact .fail
   | undef=>exact .fail
   | tup l=>exact .fail
theorem Rel.freezeAll: ∀ (U:List (Nat × Option AObj)) (s':FSt),Rel K F m s' a w→s'.sl=s.sl→(∀ r x,s.ob r=some (some x)→s'.ob r=some (some x)∨s'.ob r=some (some { x with fr:=true }))→Frozen s U→(∀ b,Vis K m s.ob w b→Vis K m s'.ob w b) →
  Rel K F m ⟨s.sl,updO s'.ob U⟩ a w∧(∀ p∈U,updO s'.ob U p.1=some p.2)∧(∀ b,Vis K m s.ob w b→Vis K m (updO s'.ob U) w b)∧ ∀ r x,s'.ob r=some (some { x with fr:=true })→s.ob r=some (some x)→updO s'.ob U r=some (some { x with fr:=true })
 | [],s',h,hsl,hs,hf,hv=>⟨by rw [← hsl];exact h,(fun p hp=>by cases hp),hv,fun r x h1 _=>h1⟩
 | (r, q)::U,s',h,hsl,hs,hf,hv=>by
  obtain ⟨x,hx,rfl⟩:=hf (r,q) (by simp)
  have key: ∃ x',s'.ob r=some (some x')∧({ x' with fr:=true }:AObj)={ x with fr:=true }:=by
   rcases hs r x hx with e|e
   ·exact ⟨x,e,rfl⟩
   ·exact ⟨_,e,rfl⟩
  obtain ⟨x',hx',e⟩:=key
  have hfz:=h.freeze hx'
  rw [e] at hfz
  obtain ⟨h1,h2⟩:=hfz
  have hvis: ∀ b,Vis K m s'.ob w b→Vis K m (upd s'.ob r (some (some { x with fr:=true }))) w b:=fun b hb=>⟨hb.1,hb.2.1,fun r' ⟨o',g1,g2⟩ hv'=>by
   by_cases er:r'=r
   ·subst er
    rw [upd_same] at g1
    injection g1 with g1
    injection g1 with g1
    subst g1
    cases g2
   ·rw [upd_ne er] at g1
    exact hb.2.2 r' ⟨o',g1,g2⟩ hv'⟩
  obtain ⟨g1,g2,g3,g4⟩:=Rel.freezeAll U ⟨s'.sl,upd s'.ob r (some (some { x with fr:=true }))⟩ h1 hsl (fun r' y hy=>by
   by_cases er:r'=r
   ·subst er
    rw [hx] at hy
    injection hy with hy
    injection hy with hy
    subst hy
    exact .inr upd_same
   ·show upd s'.ob r _ r'=_∨upd s'.ob r _ r'=_
    rw [upd_ne er]
    exact hs r' y hy) (fun p hp=>hf p (List.mem_cons_of_mem _ hp)) (fun b hb=>hvis b (hv b hb))
  refine ⟨g1,fun p hp=>?_,g3,fun r' y hy1 hy2=>g4 r' y ?_ hy2⟩
  ·rcases List.mem_cons.1 hp with rfl|hp
   ·exact g4 r x upd_same hx
   ·exact g2 p hp
  ·show upd s'.ob r _ r'=_
   by_cases er:r'=r
   ·subst er
    rw [hx] at hy2
    injection hy2 with hy2
    injection hy2 with hy2
    subst hy2
    exact upd_same
   ·rw [upd_ne er]
    exact hy1
theorem ra_of_drd {S:Nat→Prop} {dom:Nat→Prop} {x:DV} {u:Value} (h:DRd w S x u):RA w S m dom x.av u:=by
 cases x with
 | c x=>exact h
 | g cs =>
  obtain ⟨us,rfl,hl,hc⟩:=h
  refine ⟨us,rfl,by simpa using hl,fun i x v hx hv=>?_⟩
  rw [List.getElem?_map] at hx
  cases hq:cs[i]? with
  | none=>rw [hq] at hx;cases hx
  | some q =>
   rw [hq] at hx
   simp at hx
   subst hx
   exact hc i q v hq hv
theorem args_at {args:Array Operand} (hR:Rel K F m s a w) (hca:args.all constOk=true): ∀ (i:Nat) x v,(args.toList.map (evl G s.sl))[i]?=some x→(args.toList.map a.eval)[i]?=some v→RS w (Vis K m s.ob w) m s.ob.dom x v:=by
 intro i x v hx hv
 rw [List.getElem?_map] at hx hv
 cases hq:args.toList[i]? with
 | none=>rw [hq] at hx;cases hx
 | some q =>
  rw [hq] at hx hv
  simp at hx hv
  subst hx hv
  refine evl_ok hR q ?_
  rw [Array.all_eq_true'] at hca
  exact hca q (by simpa using List.mem_of_getElem? hq)
theorem goal_call0 {f:FuncId} {ds:List DV} {r:DR} {U:List (Nat × Option AObj)} {vs:List Value} (hR:Rel K F m s a w) (hd: ∀ d,o.dst=some d→d<F.n) (hexec:(execOp a.eval o).run P w= .ok (.enter f vs.toArray) w)
  (hp:r.plain=true) (hspec:Spec0 P G f ds r) (hcv:CvOk K m s w U (fun S=>DArgs w S ds vs)):QOk P K F s o a w (r.out o.dst U):=by
 obtain ⟨hf1,hf2⟩:=hcv
 obtain ⟨g1,g2,g3,_⟩:=Rel.freezeAll (s:=s) U s hR rfl (fun r x hx=> .inl hx) hf1 (fun b hb=>hb)
 have hargs:=hf2 _ g1.heap g2 g3
 have hc:=hspec w (Vis K m (updO s.ob U) w) vs (fun b hb=>hb.2.1) (fun g cs hg=>g1.heap.glob g cs hg) hargs
 have ret: ∀ (v:SV) (u:Value) (w1:World),Ev (fun _=>False) w w1→RS w1 (Vis K m (updO s.ob U) w1) m (updO s.ob U).dom v u→ ∃ m',Rel K F m' (s.app o.dst v U) (a.put o.dst u) w1:=fun v u w1 he hv=>⟨m,g1.later he hd hv⟩
 have vis: ∀ w1,Ev (fun _=>False) w w1→ ∀ b,(Vis K m (updO s.ob U) w b∨(w.heap.size≤b∧b<w1.heap.size))→Vis K m (updO s.ob U) w1 b:=fun w1 he b hb=>by
  rcases hb with hb|⟨h1,h2⟩
  ·exact ⟨hb.1,Nat.lt_of_lt_of_le hb.2.1 he.size,hb.2.2⟩
  ·exact vis_new g1 he h1 h2
 cases r with
 | one x =>
  refine .done fun Q=>?_
  unfold Oper.wp
  rw [hexec,Oper.upon_enter]
  refine hc.mono fun en w1 ⟨he,u,hen,hx⟩=>?_
  subst hen
  refine ret _ u w1 he (ra_of_drd ?_)
  cases x with
  | c x=>exact RD.mono (vis w1 he) (fun _ _=>rfl) hx
  | g cs =>
   obtain ⟨us,rfl,hl,hcc⟩:=hx
   exact ⟨us,rfl,hl,fun i x v hx hv=>RD.mono (vis w1 he) (fun _ _=>rfl) (hcc i x v hx hv)⟩
 | many l =>
  refine .done fun Q=>?_
  unfold Oper.wp
  rw [hexec,Oper.upon_enter]
  refine hc.mono fun en w1 ⟨he,us,hen,hl,hx⟩=>?_
  subst hen
  refine ret _ _ w1 he ⟨us,rfl,by simpa using hl,fun i x v hx' hv=>?_⟩
  rw [List.getElem?_map] at hx'
  cases hq:l[i]? with
  | none=>rw [hq] at hx';cases hx'
  | some q =>
   rw [hq] at hx'
   simp at hx'
   subst hx'
   have hx0:=hx i q v hq hv
   refine ra_of_drd ?_
   cases q with
   | c x=>exact RD.mono (vis w1 he) (fun _ _=>rfl) hx0
   | g cs =>
    obtain ⟨us',rfl,hl',hcc⟩:=hx0
    exact ⟨us',rfl,hl',fun i x v hx hv=>RD.mono (vis w1 he) (fun _ _=>rfl) (hcc i x v hx hv)⟩
 | pan v =>
  refine .pan ?_
  show o.wp P a w _ _
  unfold Oper.wp
  rw [hexec,Oper.upon_enter]
  refine hc.mono fun en w1 ⟨he,hen⟩=>?_
  have hen:en= .panicked [{ v,recovered:=false }]:=hen
  subst hen
  exact ⟨rfl,m,by
   have:=hR.later (dst:=none) (v:= .bot) (u:=undef) he (fun _ e=>by cases e) trivial
   exact this⟩
 | obj r v ob=>cases hp
theorem run_enter {f:FuncId} {fo:Operand} {caps:List Value} {args:Array Operand} {tys:Array TypeId} (ho:o.op= .call { callee:= .value fo,args:=args,argTypes:=tys }) (hfn:funcOk P f=true) (hu:a.eval fo= .func (.func f) #[] caps.toArray) :
  (execOp a.eval o).run P w= .ok (.enter f (args.toList.map a.eval++caps).toArray) w:=by
 unfold funcOk at hfn
 split at hfn
 ·rename_i g hg
  simp only [Bool.and_eq_true,bne_iff_ne,ne_eq] at hfn
  obtain ⟨hn,hb⟩:=hfn
  have hb':g.body.isNone=false:=by
   cases hq:g.body<;>simp_all
  simp only [execOp,ho,resolve,Deferred.ofValue,hu,Sem.run_bind,Sem.run_pure,Result.andThen_ok,invoke,callFunc,program,Sem.run,hg]
  rw [if_neg (by simpa using hn),hb']
  simp
 ·cases hfn
theorem DArgs.app {S:Nat→Prop} {ds es:List DV} {vs us:List Value} (h:DArgs w S ds vs) (k:DArgs w S es us):DArgs w S (ds++es) (vs++us):=by
 refine ⟨by simp [h.1,k.1],fun i x v hx hv=>?_⟩
 rw [List.getElem?_append] at hx hv
 rw [h.1] at hv
 split at hx
 ·rename_i hi
  rw [if_pos hi] at hv
  exact h.2 i x v hx hv
 ·rename_i hi
  rw [if_neg hi] at hv
  exact k.2 _ x v hx hv
def CapsR (K:Ctx G) (m:NM) (s:FSt) (w:World) (caps:List D) (us:List Value):Prop:=us.length=caps.length∧ ∀ (i:Nat) x u,caps[i]?=some x→us[i]?=some u→RD w (Vis K m s.ob w) x u
theorem CapsR.cv {caps:List D} {us:List Value} (h:CapsR K m s w caps us):CvOk K m s w [] (fun S=>DArgs w S (caps.map DV.c) us):=
 ⟨(fun p hp=>by cases hp),fun H' _ _ hs=>⟨by simp [h.1],fun i x v hx hv=>by
  rw [List.getElem?_map] at hx
  cases hq:caps[i]? with
  | none=>rw [hq] at hx;cases hx
  | some q =>
   rw [hq] at hx
   simp at hx
   subst hx
   exact RD.mono hs (fun _ _=>rfl) (h.2 i q v hq hv)⟩⟩
end
theorem updO_names {H:Hp} {U:List (Nat × Option AObj)} {r:Nat} (h: ∀ p∈U,p.1≠r):updO H U r=H r:=by
 induction U generalizing H with
 | nil=>rfl
 | cons p U ih =>
  obtain ⟨r',o⟩:=p
  rw [updO,ih fun p hp=>h p (List.mem_cons_of_mem _ hp)]
  exact upd_ne fun e=>h _ (List.mem_cons_self ..) e.symm
theorem updO_append {H:Hp} {U V:List (Nat × Option AObj)}:updO H (U++V)=updO (updO H U) V:=by
 induction U generalizing H with
 | nil=>rfl
 | cons p U ih=>obtain ⟨r,o⟩:=p;exact ih
theorem updO_mem {H:Hp} {U:List (Nat × Option AObj)} {p:Nat × Option AObj} (hp:p∈U) (hn:(U.map (·.1)).Nodup):updO H U p.1=some p.2:=by
 induction U generalizing H with
 | nil=>cases hp
 | cons q U ih =>
  obtain ⟨r',o⟩:=q
  rw [List.map_cons,List.nodup_cons] at hn
  rcases List.mem_cons.1 hp with rfl|hp
  ·rw [updO,updO_names fun q hq e=>hn.1 (by rw [← e];exact List.mem_map_of_mem hq)]
   exact upd_same
  ·exact ih hp hn.2
theorem updO_old {H:Hp} {U:List (Nat × Option AObj)} {r:Nat} (h:H r≠none):updO H U r≠none:=by
 induction U generalizing H with
 | nil=>exact h
 | cons q U ih =>
  obtain ⟨r',o⟩:=q
  refine ih ?_
  by_cases e:r=r'
  ·subst e
   rw [upd_same]
   simp
  ·rw [upd_ne e]
   exact h
section
variable {G:Nat→Option (List D)} {P:Program} {K:Ctx G} {F:Fr} {s:FSt} {o:Oper} {a:Act} {w w':World} {m:NM}
def AvR (w:World) (m:NM) (os:List (Nat × Nat × AObj)) (S:Nat→Prop):AV→Value→Prop
 | .c (.ptr i off),v=> ∃ r x,(i,r,x)∈os∧m.vd r=false∧v= .pointer (some ⟨m.g r,off,none⟩)
 | .c (.row i sz off n cap),v=> ∃ r x,(i,r,x)∈os∧ ∃ A c,v= .slice A n c∧n≤c∧c≤9223372036854775807∧cap.ok A (m.g r) (m.N r) (m.vd r) sz off n c
 | .c (.d x),v=>RD w S x v
 | .agg cs,v=> ∃ ds:List D,cs=ds.map C.d∧DRd w S (.g ds) v
 | _,_=>False
theorem AvR.more {os os':List (Nat × Nat × AObj)} {S:Nat→Prop} {x:AV} {v:Value} (h:AvR w m os S x v) (ho: ∀ p∈os,p∈os'):AvR w m os' S x v:=by
 unfold AvR at h ⊢
 split at h
 ·obtain ⟨r,x,h1,h2⟩:=h
  exact ⟨r,x,ho _ h1,h2⟩
 ·obtain ⟨r,x,h1,h2⟩:=h
  exact ⟨r,x,ho _ h1,h2⟩
 ·exact h
 ·exact h
 ·exact h.elim
theorem av_data {os:List (Nat × Nat × AObj)} {S:Nat→Prop} {y:DV} {v:Value} (h:DRd w S y v):AvR w m os S y.av v:=by
 cases y with
 | c x=>exact h
 | g cs=>exact ⟨cs,rfl,h⟩
def OsOk (s:FSt) (os:List (Nat × Nat × AObj)):Prop:= ∀ p∈os,s.ob p.2.1=some (some p.2.2)∧p.2.2.fr=false∧(dOnly p.2.2.cs).isSome=true
theorem ok_ownArgs {Good:Out→Prop} {own:List Nat}: ∀ {xs:List SV} {us:List Value} {i0:Nat} {k:List AV→List (Nat × Nat × AObj)→List (Nat × Option AObj)→Q} (hR:Rel K F m s a w) (hl:us.length=xs.length)
  (hv: ∀ (i:Nat) x v,xs[i]?=some x→us[i]?=some v→RS w (Vis K m s.ob w) m s.ob.dom x v)
  (h: ∀ avs os U,OsOk s os→CvOk K m s w U (fun S=>us.length=avs.length∧ ∀ (i:Nat) x v,avs[i]?=some x→us[i]?=some v→AvR w m os S x v)→QG s Good (k avs os U)),QG s Good (ownArgs own i0 xs k)
 | [],us,i0,k,hR,hl,hv,h=>h [] [] [] (fun p hp=>by cases hp) ⟨(fun p hp=>by cases hp),fun H' _ _ _=>⟨by simpa using hl,fun i y v hy=>by simp at hy⟩⟩
 | x :: xs,us,i0,k,hR,hl,hv,h=>by
  cases us with
  | nil=>simp at hl
  | cons u us =>
   have h0:=hv 0 x u rfl rfl
   have recur:=fun (k':List AV→List (Nat × Nat × AObj)→List (Nat × Option AObj)→Q) (h': ∀ avs os U,OsOk s os→CvOk K m s w U (fun S=>us.length=avs.length∧ ∀ (i:Nat) x v,avs[i]?=some x→us[i]?=some v→AvR w m os S x v)→QG s Good (k' avs os U)) =>
    ok_ownArgs (own:=own) (i0:=i0+1) (us:=us) hR (by simpa using hl) (fun i x v hx hv'=>hv (i+1) x v (by simpa using hx) (by simpa using hv')) h'
   have obj: ∀ (x1:AV) (r:Nat) (ob:AObj),s.ob r=some (some ob)→ob.fr=false→(dOnly ob.cs).isSome=true→(∀ os S,(i0,r,ob)∈os→AvR w m os S x1 u) →
     QG s Good (ownArgs own (i0+1) xs fun avs os U=>k (x1::avs) ((i0,r,ob)::os) U):=fun x1 r ob g1 g2 g3 g4=>recur _ fun avs os U hos hcv=>h _ _ _ (fun p hp=>by
      rcases List.mem_cons.1 hp with rfl|hp
      ·exact ⟨g1,g2,g3⟩
      ·exact hos p hp) (hcv.mono fun S ⟨h1,h2⟩=>⟨by simp [h1],fun i y v hy hv'=>by
      cases i with
      | zero =>
       simp at hy hv'
       subst hy hv'
       exact g4 _ _ (List.mem_cons_self ..)
      | succ i=>exact (h2 i y v (by simpa using hy) (by simpa using hv')).more fun p hp=>List.mem_cons_of_mem _ hp⟩)
   have data: ∀ (y:DV) (V:List (Nat × Option AObj)),CvOk K m s w V (fun S=>DRd w S y u)→QG s Good (ownArgs own (i0+1) xs fun avs os U=>k (y.av::avs) os (V++U)):=fun y V hy=>recur _ fun avs os U hos hcv=>h _ _ _ hos ((hy.and hcv).mono fun S ⟨h1,h2,h3⟩=>⟨by simp [h2],fun i x v hx hv'=>by
         cases i with
         | zero =>
          simp at hx hv'
          subst hx hv'
          exact av_data h1
         | succ i=>exact h3 i x v (by simpa using hx) (by simpa using hv')⟩)
   cases x with
   | bot=>exact (show QG s Good .fail from .fail)
   | undef=>exact (show QG s Good .fail from .fail)
   | tup l=>exact (show QG s Good .fail from .fail)
   | a x =>
    cases x with
    | agg cs =>
     simp only [ownArgs]
     exact ok_cvA hR h0 fun y V hy=>data y V hy
    | c x =>
     cases x with
     | d x =>
      simp only [ownArgs]
      exact ok_cvA hR h0 fun y V hy=>data y V hy
     | nil =>
      simp only [ownArgs]
      exact ok_cvA hR h0 fun y V hy=>data y V hy
     | fn f caps =>
      simp only [ownArgs]
      exact ok_cvA hR h0 fun y V hy=>data y V hy
     | ptr r off =>
      simp only [ownArgs]
      obtain ⟨hdm,hvd,rfl⟩:=rs_ptr h0
      refine .obj fun ob hob=>?_
      split
      ·rename_i ds hds
       exact .need fun hfr=>obj _ r ob hob hfr (by rw [hds];rfl) fun os S hm=>⟨r,ob,hm,hvd,rfl⟩
      ·exact .fail
     | row r sz off n cap =>
      simp only [ownArgs]
      split
      ·obtain ⟨hdm,A,c,rfl,g1,g2,g3⟩:=rs_row h0
       refine .obj fun ob hob=>?_
       split
       ·rename_i ds hds
        exact .need fun hfr=>obj _ r ob hob hfr (by rw [hds];rfl) fun os S hm=>⟨r,ob,hm,A,c,rfl,g1,g2,g3⟩
       ·exact .fail
      ·exact ok_cv hR h0 fun y V hy=>data (.c y) V hy
theorem renN_mem {os:List (Nat × Nat × AObj)} {d i r:Nat} {x:AObj} (hn:(os.map fun p=>p.1).Nodup) (h:(i,r,x)∈os):renN (os.map fun p=>(p.1,p.2.1)) d i=r:=by
 induction os with
 | nil=>cases h
 | cons q os ih =>
  obtain ⟨i',r',x'⟩:=q
  rw [List.map_cons,List.nodup_cons] at hn
  unfold renN
  rw [List.map_cons,List.find?_cons]
  rcases List.mem_cons.1 h with h|h
  ·injection h with h1 h2
   injection h2 with h2 h3
   subst h1 h2
   simp
  ·have hne:(i'==i)=false:=by
    simp only [beq_eq_false_iff_ne,ne_eq]
    rintro rfl
    exact hn.1 (List.mem_map.2 ⟨_,h,rfl⟩)
   simp only [hne]
   exact ih hn.2 h
theorem renN_none {os:List (Nat × Nat × AObj)} {d i:Nat} (h: ∀ p∈os,p.1≠i):renN (os.map fun p=>(p.1,p.2.1)) d i=d:=by
 unfold renN
 rw [List.find?_eq_none.2]
 ·rfl
 ·intro q hq
  obtain ⟨p,hp,rfl⟩:=List.mem_map.1 hq
  simpa using h p hp
theorem dOnly_cell {S S':Nat→Prop} {m m':NM} {dom dom':Nat→Prop}: ∀ {cs:List C},(dOnly cs).isSome=true→(∀ b,S b→S' b)→ ∀ x∈cs,∀ u,RC w S m dom x u→RC w S' m' dom' x u
 | [],_,_,x,hx,_,_=>by cases hx
 | c :: cs,h,hS,x,hx,u,hr=>by
  simp only [dOnly] at h
  split at h
  ·rename_i y l h1 h2
   rcases List.mem_cons.1 hx with rfl|hx
   ·unfold dOf at h1
    split at h1
    ·exact RD.mono hS (fun _ _=>rfl) hr
    ·exact hr
    ·cases h1
   ·exact dOnly_cell (by rw [h2];rfl) hS x hx u hr
  ·cases h
theorem OR.data {S S':Nat→Prop} {m m':NM} {dom dom':Nat→Prop} {r r':Nat} {x:AObj} (h:OR w S m dom r x) (hd:(dOnly x.cs).isSome=true) (hS: ∀ b,S b→S' b) (hg:m'.g r'=m.g r) (hN:m'.N r'=m.N r) (hv:m'.vd r'=m.vd r):OR w S' m' dom' r' x:=by
 refine ⟨?_⟩
 rcases h.row with ⟨h1,h2⟩|⟨h1,arr,h2,h3,h4,h5,h6⟩
 ·exact .inl ⟨by rw [hv];exact h1,h2⟩
 ·exact .inr ⟨by rw [hv];exact h1,arr,by rw [hg];exact h2,by rw [hN];exact h3,h4,h5,fun i y hy=>by
   obtain ⟨u,hu,hr⟩:=h6 i y hy
   exact ⟨u,hu,dOnly_cell hd hS y (List.mem_of_getElem? hy) u hr⟩⟩
theorem someO_mem {H:List (Nat × AObj)} {i:Nat} {x:Option AObj} (h:lkO (someO H) i=some x): ∃ y,x=some y∧(i,y)∈H:=by
 have h1:=lkO_mem h
 unfold someO at h1
 obtain ⟨p,hp,e⟩:=List.mem_map.1 h1
 injection e with e1 e2
 subst e1
 exact ⟨p.2,e2.symm,hp⟩
theorem lkO_nodup {l:List (Nat × Option AObj)} {p:Nat × Option AObj} (hn:(l.map (·.1)).Nodup) (h:p∈l):lkO l p.1=some p.2:=by
 induction l with
 | nil=>cases h
 | cons q l ih =>
  obtain ⟨i,x⟩:=q
  rw [List.map_cons,List.nodup_cons] at hn
  simp only [lkO]
  rcases List.mem_cons.1 h with rfl|h
  ·simp
  ·have h5:p.1∈l.map (·.1):=List.mem_map_of_mem h
   rw [if_neg fun e=>hn.1 (by rw [← e];exact h5)]
   exact ih hn.2 h
end
end Go.Proofs.YtfammdfpgccnfaaGreatDoor
