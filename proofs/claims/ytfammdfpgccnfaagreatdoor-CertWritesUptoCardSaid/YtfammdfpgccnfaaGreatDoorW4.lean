/- Parts of the proof, laid together. -/
import Derived.Test.YtfammdfpgccnfaaGreatDoorW3
import Derived.Shelf.Strings.Builder1
import Derived.Shelf.Small.Wraps
import Derived.Shelf.Strings.BuilderF
import Derived.Shelf.Strings.BuilderK
import Derived.Shelf.Strconv.Itoa0
import Derived.Shelf.Strconv.Itoa1
import Derived.Shelf.LaysM
import Derived.Shelf.Strconv.Itoa2
import Derived.Shelf.Strconv.Itoa3
import Derived.Shelf.Strings.Search1
import Derived.Shelf.Strings.BuilderCap
import Derived.Shelf.Slices.Turned
import Derived.Ground.Names2Prog
import Derived.Shelf.Slices.SearchI
import Derived.Shelf.Bytes.SlIndexSmall
import Derived.Shelf.Bytes.SlIndexAt
import Derived.Shelf.Bytes.SlSearch0
import Derived.Shelf.Bytes.SlSearch1
import Derived.Shelf.Bytes.SlSearch2
import Derived.Shelf.Bytes.SlIndexWhole
import Derived.Ground.SlbCloneProg
import Derived.Shelf.Bytes.SlClone
import Derived.Shelf.Bytes.SlSmallAll
import Derived.Shelf.Bytes.SlEqualAll
import Derived.Ground.SlbtProg
import Derived.Shelf.Bytes.SlCut
import Derived.Shelf.Bytes.Small
import Derived.Shelf.Bytes.IndexByte
import Derived.Test.YtfammdfpgccnfaaGreatDoorProg
import Derived.Lib.AppendIntMem
import Derived.Test.YtfammdfpgccnfaaGreatDoorCards
import Derived.Test.YtfammdfpgccnfaaGreatDoorTie
import Derived.WalkKit
import Derived.ProofKit
import Derived.OpenShut
import Derived.Deep.DeepHandedRow
import Derived.Lib.LaidTab
import Derived.Stop.LaidErr
import Derived.PinnedBridge
import Derived.Lib.BytesEntry
import Derived.Lib.OthersKept
set_option linter.unusedVariables false
set_option linter.unusedSimpArgs false
set_option maxRecDepth 100000
set_option maxHeartbeats 8000000
namespace Go.Proofs.YtfammdfpgccnfaaGreatDoor
open Go.RowKit
def CellsR (w:World) (S:Nat→Prop) (ds:List D) (cs:List Value):Prop:=cs.length=ds.length∧ ∀ (i:Nat) x u,ds[i]?=some x→cs[i]?=some u→RD w S x u
def CellsOf {α:Type} (r:Rep α) (f:α→List D):Prop:= ∀ {w:World} {S:Nat→Prop} {cs:List Value} {y:α},r.rd w S cs y→CellsR w S (f y) cs
theorem cellsR_nil {w:World} {S:Nat→Prop}:CellsR w S [] []:=⟨rfl,fun i x u hx=>by simp at hx⟩
theorem cellsR_cons {w:World} {S:Nat→Prop} {x:D} {u:Value} {ds:List D} {cs:List Value} (h:RD w S x u) (k:CellsR w S ds cs):CellsR w S (x::ds) (u::cs):=
 ⟨by simp [k.1],fun i y v hy hv=>by
  cases i with
  | zero =>
   simp at hy hv
   subst hy hv
   exact h
  | succ i=>exact k.2 i y v (by simpa using hy) (by simpa using hv)⟩
theorem cellsR_app {w:World} {S:Nat→Prop} {ds es:List D} {cs us:List Value} (h:CellsR w S ds cs) (k:CellsR w S es us):CellsR w S (ds++es) (cs++us):=
 ⟨by simp [h.1,k.1],fun i y v hy hv=>by
  rw [List.getElem?_append] at hy hv
  rw [h.1] at hv
  split at hy
  ·rename_i hi
   rw [if_pos hi] at hv
   exact h.2 i y v hy hv
  ·rename_i hi
   rw [if_neg hi] at hv
   exact k.2 _ y v hy hv⟩
theorem cells_at {α:Type} {f:α→List D} {n:Nat} (hf: ∀ x,(f x).length=n) (hn:0<n) {l:List α} {k:Nat} {d:D} (h:(l.flatMap f)[k]?=some d): ∃ x,l[k/n]?=some x∧(f x)[k%n]?=some d:=by
 have hk:=(List.getElem?_eq_some_iff.1 h).1
 rw [flat_len hf] at hk
 have hq:k/n<l.length:=Nat.div_lt_of_lt_mul (by rw [Nat.mul_comm];exact hk)
 refine ⟨l[k/n],List.getElem?_eq_getElem hq,?_⟩
 have h1:=flat_at hf (List.getElem?_eq_getElem hq)
 have h2:(((l.flatMap f).drop (k/n*n)).take n)[k%n]?=some d:=by
  rw [List.getElem?_take,if_pos (Nat.mod_lt _ hn),List.getElem?_drop,Nat.div_add_mod']
  exact h
 rw [h1] at h2
 exact h2
theorem rd_slice {α:Type} {w:World} {S:Nat→Prop} {r:Rep α} {f:α→List D} {A:Option Addr} {n c:Nat} {l:List α} (hlen: ∀ x,(f x).length=r.size)
  (hc: ∀ {es:List Value} {y:α},y∈l→r.rd w S es y→CellsR w S (f y) es) (h:r.sl w S A n c l):RD w S (.sl l.length (l.flatMap f)) (.slice A n c):=by
 obtain ⟨rfl,hnc,hcm,hh⟩:=h
 by_cases h0:0<l.length
 ·obtain ⟨b,o,rfl,hb,hr⟩:=hh h0
  have key: ∀ (k:Nat) d,(l.flatMap f)[k]?=some d→w.cell? ⟨b,o+k,none⟩=some ((w.cell? ⟨b,o+k,none⟩).getD undef)∧RD w S d ((w.cell? ⟨b,o+k,none⟩).getD undef):=fun k d hd=>by
   obtain ⟨x,hx,hxd⟩:=cells_at hlen r.pos hd
   obtain ⟨es,he,hce⟩:=hr _ x hx
   obtain ⟨g1,g2⟩:=hc (List.mem_of_getElem? hx) he
   have hlt:k%r.size<es.length:=by rw [g1,hlen];exact Nat.mod_lt _ r.pos
   have h1:=hce _ _ (List.getElem?_eq_getElem hlt)
   rw [Nat.add_assoc,Nat.div_add_mod'] at h1
   rw [h1]
   exact ⟨rfl,g2 _ d _ hxd (List.getElem?_eq_getElem hlt)⟩
  exact .sl _ c b o _ _ hnc hcm hb (fun k d hd=>(key k d hd).1) fun k d hd=>(key k d hd).2
 ·have:l=[]:=List.eq_nil_of_length_eq_zero (by omega)
  subst this
  exact .nil A c hcm
theorem cellsOf_u8:CellsOf Rep.u8 (fun b=>[bD b]):=by
 rintro w S cs y h
 have h:cs=_:=h
 subst h
 exact cellsR_cons (.v _ rfl) cellsR_nil
theorem flatMap_one: ∀ l:List UInt8,l.flatMap (fun b=>[bD b])=l.map bD
 | []=>rfl
 | x::l=>by rw [List.flatMap_cons,flatMap_one l];rfl
theorem rd_bytes {w:World} {S:Nat→Prop} {A:Option Addr} {n c:Nat} {l:List UInt8} (h:Rep.u8.sl w S A n c l):RD w S (bytesD l) (.slice A n c):=by
 have h9:=rd_slice (f:=fun b=>[bD b]) (fun _=>rfl) (fun _ hr=>cellsOf_u8 hr) h
 rw [flatMap_one] at h9
 exact h9
theorem drd_g {w:World} {S:Nat→Prop} {ds:List D} {cs:List Value} (h:CellsR w S ds cs):DRd w S (.g ds) (.agg cs.toArray):=⟨cs,rfl,h.1,h.2⟩
theorem dargs_nil {w:World} {S:Nat→Prop}:DArgs w S [] []:=⟨rfl,fun i x u hx=>by simp at hx⟩
theorem dargs_cons {w:World} {S:Nat→Prop} {x:DV} {u:Value} {ds:List DV} {cs:List Value} (h:DRd w S x u) (k:DArgs w S ds cs):DArgs w S (x::ds) (u::cs):=
 ⟨by simp [k.1],fun i y v hy hv=>by
  cases i with
  | zero =>
   simp at hy hv
   subst hy hv
   exact h
  | succ i=>exact k.2 i y v (by simpa using hy) (by simpa using hv)⟩
theorem law_calls {P:Program} {G:Nat→Option (List D)} {f:FuncId} {args:List DV} {vs:List Value} {W:World} (h:Spec P G f args (.one (.c (.v (.bool true))))) (hT:Tables G W (fun b=>b<W.heap.size)) (hA:DArgs W (fun b=>b<W.heap.size) args vs) :
  Calls P f vs.toArray W fun e W'=>e= .returned (.bool true)∧Below W.heap.size W W':=by
 refine Calls.mono (h W _ vs (fun b hb=>hb) hT hA) ?_
 rintro e W1 ⟨hE,u,rfl,hu⟩
 have hu:RD W1 _ (.v (.bool true)) u:=hu
 cases hu
 exact ⟨rfl,below_ev hE⟩
theorem form_m {G:Nat→Option (List D)}: ∀ t:Tree,∀ cs:List D,treeC t=cs→t.wt≤30000000→Spec Tryz.prog G 54 [.g cs] (.one (.c (bytesD t.form))):=Tree.ind fun t ih cs hcs hw=>by
 subst hcs
 have hf:=Tree.form_wt t hw
 refine spec_of Tryz.func54 rfl rfl rfl (by kernel_rfl) rfl fun K=>?_
 rw [treeC_eq]
 cases hl:t.list with
 | false =>
  have hlh:=t.wt_hint
  have hld:=t.wt_data
  have h1:=textB_len (b:=t.hint) (n:=30000000) (by omega) (by omega)
  have h2:=textB_len (b:=t.data) (n:=30000000) (by omega) (by omega)
  (repeat' (first|with_reducible (first|refine zA fun Kn hK=>?_|refine zU ?_|refine Nx.go ?_|go_step)|(refine ⟨_,text_m t.hint (by omega),?_⟩)|(refine ⟨_,text_m t.data (by omega),?_⟩)|with_reducible (first|refine zI ?_|refine zV ?_)|simp (maxSteps:=9^9) (disch:=omega) only [wq]|with_reducible refine zM (fun hb=>?_) (fun hb=>?_)<;>try simp only [hb]|with_reducible refine And.intro (by first|omega|(simp;done)|(simp;omega)) ?_|simp (maxSteps:=9^9) -implicitDefEqProofs only [go_sem,List.length_map]))
  all_goals
   rw [t.form_eq,hl]
   simp only [Tree.atomF,hb]
   simp [bytesD,bD,Nat.add_comm,Nat.add_left_comm,Nat.add_assoc]
 | true =>
  have hfe:=t.form_eq
  rw [hl] at hfe
  have hfl: ∀ k,(((t.kids.take k).map Tree.form).flatten).length≤t.form.length:=fun k=>by
   rw [hfe]
   simp only [if_true,List.length_append,List.length_flatten,List.map_map,Function.comp_def]
   have:=sum_upto (l:=t.kids) (k:=k) fun x=>x.form.length
   omega
  (repeat' (first|with_reducible (first|refine zA fun Kn hK=>?_|refine zU ?_|refine Nx.go ?_|go_step)|with_reducible (first|refine zI ?_|refine zV ?_)|simp (maxSteps:=9^9) (disch:=omega) only [wq]|with_reducible refine zM (fun hb=>?_) (fun hb=>?_)<;>try simp only [hb]|with_reducible refine And.intro (by first|omega|(simp;done)|(simp;omega)) ?_|simp (maxSteps:=9^9) -implicitDefEqProofs only [go_sem,true_and]))
  refine sound_loopR (fun x:{k:Nat // k≤t.kids.length}=>⟨[(1,vP 1 0),(3,vR 1000 1 (1+(((t.kids.take x.1).map Tree.form).flatten).length)),(13,vI t.kids.length),(14,vI x.1)],[(1,some ⟨45,treeK t,true,false⟩),(1000,some ⟨5,((40::((t.kids.take x.1).map Tree.form).flatten).map bD).map C.d,false,false⟩)]⟩) (fun x=>t.kids.length-x.1) ⟨0,by omega⟩ [(1000,10)] (by (iterate 2 ((try simp (maxSteps:=9^9) -implicitDefEqProofs only [go_sem,hl]);(try simp (maxSteps:=9^9) (disch:=omega) only [wq])));simp [bD,C.ren]) (fun ⟨k,hk⟩=>?_)
  have h5:=t.wt_kids
  have h6:=hfl k
  by_cases hlt:k<t.kids.length
  ·obtain ⟨x,hx⟩: ∃ x,t.kids[k]?=some x:=⟨_,List.getElem?_eq_getElem hlt⟩
   have hb:decide ((k:Int)<(t.kids.length:Int))=true:=by simpa using hlt
   have hm:=List.mem_of_getElem? hx
   have hxw:=Tree.wt_kid hm
   have h7:=Tree.form_wt x (by omega)
   (repeat' (first|with_reducible (first|refine zA fun Kn hK=>?_|refine zU ?_|refine Nx.go ?_|go_step)|(refine ⟨_,ih x hm _ rfl (by omega),?_⟩)|with_reducible (first|refine zI ?_|refine zV ?_)|simp (maxSteps:=9^9) (disch:=omega) only [wq]|with_reducible refine zM (fun hb=>?_) (fun hb=>?_)<;>try simp only [hb]|with_reducible refine And.intro (by first|omega|(simp;done)|(simp;omega)) ?_|simp (maxSteps:=9^9) -implicitDefEqProofs only [go_sem,hb,flat_at treeC_len hx,List.length_map]))
   refine ⟨[(1000,24)],⟨k+1,hlt⟩,?_⟩
   have h8:((t.kids.take (k+1)).map Tree.form).flatten=((t.kids.take k).map Tree.form).flatten++x.form:=by
    rw [List.take_add_one,hx]
    simp
   (iterate 2 ((try simp (maxSteps:=9^9) -implicitDefEqProofs only [go_sem,h8]);(try simp (maxSteps:=9^9) (disch:=omega) only [wq])))
   simp [Nat.add_assoc]
   omega
  ·have hb:decide ((k:Int)<(t.kids.length:Int))=false:=by simpa using hlt
   obtain rfl:k=t.kids.length:=by omega
   rw [List.take_length] at h6
   (repeat' (first|with_reducible (first|refine zA fun Kn hK=>?_|refine zU ?_|refine Nx.go ?_|go_step)|with_reducible (first|refine zI ?_|refine zV ?_)|simp (maxSteps:=9^9) (disch:=omega) only [wq]|with_reducible refine zM (fun hb=>?_) (fun hb=>?_)<;>try simp only [hb]|with_reducible refine And.intro (by first|omega|(simp;done)|(simp;omega)) ?_|simp (maxSteps:=9^9) -implicitDefEqProofs only [go_sem,hb,List.take_length,List.length_map]))
   rw [hfe]
   simp [bD,Nat.add_comm]
theorem most_at {l:List Tree} {k:Nat} {x:Tree} (h:l[k]?=some x):most ((l.take (k+1)).map Tree.deep)=max (most ((l.take k).map Tree.deep)) x.deep:=by
 rw [List.take_add_one,h]
 simp [most_snoc]
theorem most_take {l:List Tree} {k n:Nat} (h: ∀ x∈l,x.deep≤n):most ((l.take k).map Tree.deep)≤n:=by
 rw [most_le]
 intro j hj
 obtain ⟨x,hx,rfl⟩:=List.mem_map.1 hj
 exact h x (List.mem_of_mem_take hx)
theorem deep_m {G:Nat→Option (List D)}: ∀ t:Tree,∀ cs:List D,treeC t=cs→t.wt≤1000000000→Spec Tryz.prog G 74 [.g cs] (.one (.c (.v (.int .i64 t.deep)))):=Tree.ind fun t ih cs hcs hw=>by
 subst hcs
 refine spec_of Tryz.func74 rfl rfl rfl (by kernel_rfl) rfl fun K=>?_
 rw [treeC_eq]
 cases hl:t.list with
 | false =>
  (repeat' (first|with_reducible (first|refine zA fun Kn hK=>?_|refine zU ?_|refine Nx.go ?_|go_step)|with_reducible (first|refine zI ?_|refine zV ?_)|simp (maxSteps:=9^9) (disch:=omega) only [wq]|with_reducible refine zM (fun hb=>?_) (fun hb=>?_)<;>try simp only [hb]|with_reducible refine And.intro (by first|omega|(simp;done)|(simp;omega)) ?_|simp (maxSteps:=9^9) -implicitDefEqProofs only [go_sem,hl]))
  rw [t.deep_eq,hl]
  rfl
 | true =>
  (repeat' (first|with_reducible (first|refine zA fun Kn hK=>?_|refine zU ?_|refine Nx.go ?_|go_step)|with_reducible (first|refine zI ?_|refine zV ?_)|simp (maxSteps:=9^9) (disch:=omega) only [wq]|with_reducible refine zM (fun hb=>?_) (fun hb=>?_)<;>try simp only [hb]|with_reducible refine And.intro (by first|omega|(simp;done)|(simp;omega)) ?_|simp (maxSteps:=9^9) -implicitDefEqProofs only [go_sem,hl]))
  refine sound_loopR (fun x:{k:Nat // k≤t.kids.length}=>⟨[(1,vP 1 0),(3,vI (most ((t.kids.take x.1).map Tree.deep):Nat)),(10,vI t.kids.length),(11,vI x.1)],[(1,some ⟨45,treeK t,true,false⟩)]⟩) (fun x=>t.kids.length-x.1) ⟨0,by omega⟩ [] (by (iterate 2 ((try simp (maxSteps:=9^9) -implicitDefEqProofs only [go_sem,hl]);(try simp (maxSteps:=9^9) (disch:=omega) only [wq])));simp [most]) (fun ⟨k,hk⟩=>?_)
  have h5:=t.wt_kids
  have h6:most ((t.kids.take k).map Tree.deep)≤1000000000:=most_take fun x hx=>by have:=x.deep_wt;have:=Tree.wt_kid hx;omega
  by_cases hlt:k<t.kids.length
  ·obtain ⟨x,hx⟩: ∃ x,t.kids[k]?=some x:=⟨_,List.getElem?_eq_getElem hlt⟩
   have hb:decide ((k:Int)<(t.kids.length:Int))=true:=by simpa using hlt
   have hm:=List.mem_of_getElem? hx
   (repeat' (first|with_reducible (first|refine zA fun Kn hK=>?_|refine zU ?_|refine Nx.go ?_|go_step)|(refine ⟨_,ih x hm _ rfl (by have:=Tree.wt_kid hm;omega),?_⟩)|with_reducible (first|refine zI ?_|refine zV ?_)|simp (maxSteps:=9^9) (disch:=omega) only [wq]|with_reducible refine zM (fun hb=>?_) (fun hb=>?_)<;>try simp only [hb]|with_reducible refine And.intro (by first|omega|(simp;done)|(simp;omega)) ?_|simp (maxSteps:=9^9) -implicitDefEqProofs only [go_sem,hb,flat_at treeC_len hx]))
   refine ⟨[],⟨k+1,hlt⟩,?_⟩
   have h7:=most_at hx
   (iterate 2 ((try simp (maxSteps:=9^9) -implicitDefEqProofs only [go_sem,hl]);(try simp (maxSteps:=9^9) (disch:=omega) only [wq])))
   (simp only [ijq,true_and,and_true];first|done|omega|(split<;>omega)|(simp;done)|(simp;omega))
  ·have hb:decide ((k:Int)<(t.kids.length:Int))=false:=by simpa using hlt
   obtain rfl:k=t.kids.length:=by omega
   rw [List.take_length] at h6
   (repeat' (first|with_reducible (first|refine zA fun Kn hK=>?_|refine zU ?_|refine Nx.go ?_|go_step)|with_reducible (first|refine zI ?_|refine zV ?_)|simp (maxSteps:=9^9) (disch:=omega) only [wq]|with_reducible refine zM (fun hb=>?_) (fun hb=>?_)<;>try simp only [hb]|with_reducible refine And.intro (by first|omega|(simp;done)|(simp;omega)) ?_|simp (maxSteps:=9^9) -implicitDefEqProofs only [go_sem,hb,List.take_length]))
   rw [t.deep_eq,hl]
   rfl
theorem may_m {G:Nat→Option (List D)} (t:Tree) {cs:List D} (hcs:treeC t=cs) (hw:t.wt≤30000000):Spec Tryz.prog G 34 [.g cs] (.one (.c (.v (.bool t.may)))):=by
 subst hcs
 refine spec_of Tryz.func34 rfl rfl rfl (by kernel_rfl) rfl fun K=>?_
 rw [treeC_eq]
 have e1:decide ((t.nodes:Int)≤512)=decide (t.nodes≤512):=by rw [decide_eq_decide];omega
 have e2:decide ((t.deep:Int)≤16)=decide (t.deep≤16):=by rw [decide_eq_decide];omega
 have e3:decide ((t.form.length:Int)≤4096)=decide (t.form.length≤4096):=by rw [decide_eq_decide];omega
 (repeat' (first|with_reducible (first|refine zA fun Kn hK=>?_|refine zU ?_|refine Nx.go ?_|go_step)|(refine ⟨_,clean_m t _ (by first|rfl|(rw [treeC_eq];first|rfl|(simp only [go_sem, *];done))) (by omega),?_⟩)|(refine ⟨_,nodes_m t _ (by first|rfl|(rw [treeC_eq];first|rfl|(simp only [go_sem, *];done))) (by omega),?_⟩)|(refine ⟨_,deep_m t _ (by first|rfl|(rw [treeC_eq];first|rfl|(simp only [go_sem, *];done))) (by omega),?_⟩)|(refine ⟨_,form_m t _ (by first|rfl|(rw [treeC_eq];first|rfl|(simp only [go_sem, *];done))) (by omega),?_⟩)|with_reducible (first|refine zI ?_|refine zV ?_)|simp (maxSteps:=9^9) (disch:=omega) only [wq]|with_reducible refine zM (fun hb=>?_) (fun hb=>?_)<;>try simp only [hb]|with_reducible refine And.intro (by first|omega|(simp;done)|(simp;omega)) ?_|simp (maxSteps:=9^9) -implicitDefEqProofs only [go_sem,e1,e2,e3]))
 all_goals (rw [Tree.may];simp only [*];rfl)
end Go.Proofs.YtfammdfpgccnfaaGreatDoor
namespace Go.Proofs
open Go.Shelf
def Tryz.lays169_ren:Go.Shelf.Ren:=⟨fun|169=>158|n=>n,fun|70=>180|9=>9|0=>0|72=>182|37=>22|127=>204|3=>3|5=>5|n=>n,fun|n=>n⟩
theorem Tryz.lays169:Go.Proofs.Lays.n169 Tryz.prog Tryz.lays169_ren:={
 mixed:=by kernel_rfl
 f169:=Tryz.func158.trans (congrArg some (by kernel_rfl))
 t0:=Tryz.underlying0
 a0:=Tryz.isAgg0
 z0:=Tryz.sizeOf0
 v0:=Tryz.zeroValue0
 t3:=Tryz.underlying3
 a3:=Tryz.isAgg3
 z3:=Tryz.sizeOf3
 v3:=Tryz.zeroValue3
 t9:=Tryz.underlying9
 a9:=Tryz.isAgg9
 z9:=Tryz.sizeOf9
 v9:=Tryz.zeroValue9
 t37:=Tryz.underlying22
 a37:=Tryz.isAgg22
 z37:=Tryz.sizeOf22
 v37:=Tryz.zeroValue22
 t70:=Tryz.underlying180
 a70:=Tryz.isAgg180
 z70:=Tryz.sizeOf180
 v70:=Tryz.zeroValue180
 t72:=Tryz.underlying182
 a72:=Tryz.isAgg182
 z72:=Tryz.sizeOf182
 v72:=Tryz.zeroValue182
 t127:=Tryz.underlying204
 a127:=Tryz.isAgg204
 z127:=Tryz.sizeOf204
 v127:=Tryz.zeroValue204 }
theorem Tryz.Builder_Extra_169:Builder.Extra Tryz.prog Tryz.lays169_ren:={
 sizeBuilder:=by kernel_rfl
 liesBuilder:=by kernel_rfl
 t5:=Tryz.underlying5
 a5:=Tryz.isAgg5
 z5:=Tryz.sizeOf5
 v5:=Tryz.zeroValue5
 infoByte:=by kernel_rfl
 cellsByte:=by kernel_rfl
 sizeByte:=by kernel_rfl
 neB5:=by decide }
open Go.RowKit in
theorem Tryz.Builder_String_any (B b:Nat) (l:List UInt8) (w:World) (h:Lib.IsBuilder 182 5 B b (Lib.byteCells l) w) (hBw:B≤w.heap.size) :
  Calls Tryz.prog 158 #[.pointer (some ⟨b,0,none⟩)] w fun e w'=>e= .returned (.string ⟨l.toArray⟩)∧Below B w w':=Any.Builder_String_any Tryz.lays169 Tryz.Builder_Extra_169 B b l w h hBw
def Tryz.laysM171_ren:Go.Shelf.Ren:=⟨fun|171=>156|243=>175|246=>183|283=>187|284=>188|285=>189|286=>190|129=>199|317=>198|318=>200|319=>201|320=>202|337=>218|338=>219|n=>n,fun|3=>3|9=>9|2=>2|4=>4|171=>216|0=>0|53=>217|37=>22|5=>5|173=>220|212=>227|51=>228|20=>20|213=>229|46=>230|232=>256|233=>257|n=>n,fun|17=>0|18=>2|19=>3|n=>n⟩
theorem Tryz.laysM171:Go.Proofs.LaysM.n171 Tryz.prog Tryz.laysM171_ren:={
 mixed:=by kernel_rfl
 f129:=Tryz.func199.trans (congrArg some (by kernel_rfl))
 f171:=Tryz.func156.trans (congrArg some (by kernel_rfl))
 f243:=Tryz.func175.trans (congrArg some (by kernel_rfl))
 f246:=Tryz.func183.trans (congrArg some (by kernel_rfl))
 f283:=Tryz.func187.trans (congrArg some (by kernel_rfl))
 f284:=Tryz.func188.trans (congrArg some (by kernel_rfl))
 f285:=Tryz.func189.trans (congrArg some (by kernel_rfl))
 f286:=Tryz.func190.trans (congrArg some (by kernel_rfl))
 f317:=Tryz.func198.trans (congrArg some (by kernel_rfl))
 f318:=Tryz.func200.trans (congrArg some (by kernel_rfl))
 f319:=Tryz.func201.trans (congrArg some (by kernel_rfl))
 f320:=Tryz.func202.trans (congrArg some (by kernel_rfl))
 f337:=Tryz.func218.trans (congrArg some (by kernel_rfl))
 f338:=Tryz.func219.trans (congrArg some (by kernel_rfl))
 t0:=Tryz.underlying0
 a0:=Tryz.isAgg0
 z0:=Tryz.sizeOf0
 v0:=Tryz.zeroValue0
 t2:=Tryz.underlying2
 a2:=Tryz.isAgg2
 z2:=Tryz.sizeOf2
 v2:=Tryz.zeroValue2
 t3:=Tryz.underlying3
 a3:=Tryz.isAgg3
 z3:=Tryz.sizeOf3
 v3:=Tryz.zeroValue3
 t4:=Tryz.underlying4
 a4:=Tryz.isAgg4
 z4:=Tryz.sizeOf4
 v4:=Tryz.zeroValue4
 t5:=Tryz.underlying5
 a5:=Tryz.isAgg5
 z5:=Tryz.sizeOf5
 v5:=Tryz.zeroValue5
 t9:=Tryz.underlying9
 a9:=Tryz.isAgg9
 z9:=Tryz.sizeOf9
 v9:=Tryz.zeroValue9
 t20:=Tryz.underlying20
 a20:=Tryz.isAgg20
 z20:=Tryz.sizeOf20
 v20:=Tryz.zeroValue20
 t37:=Tryz.underlying22
 a37:=Tryz.isAgg22
 z37:=Tryz.sizeOf22
 v37:=Tryz.zeroValue22
 t46:=Tryz.underlying230
 a46:=Tryz.isAgg230
 z46:=Tryz.sizeOf230
 v46:=Tryz.zeroValue230
 t51:=Tryz.underlying228
 a51:=Tryz.isAgg228
 z51:=Tryz.sizeOf228
 v51:=Tryz.zeroValue228
 t53:=Tryz.underlying217
 a53:=Tryz.isAgg217
 z53:=Tryz.sizeOf217
 v53:=Tryz.zeroValue217
 t171:=Tryz.underlying216
 a171:=Tryz.isAgg216
 z171:=Tryz.sizeOf216
 v171:=Tryz.zeroValue216
 t173:=Tryz.underlying220
 a173:=Tryz.isAgg220
 z173:=Tryz.sizeOf220
 v173:=Tryz.zeroValue220
 t212:=Tryz.underlying227
 a212:=Tryz.isAgg227
 z212:=Tryz.sizeOf227
 v212:=Tryz.zeroValue227
 t213:=Tryz.underlying229
 a213:=Tryz.isAgg229
 z213:=Tryz.sizeOf229
 t232:=Tryz.underlying256
 a232:=Tryz.isAgg256
 z232:=Tryz.sizeOf256
 v232:=Tryz.zeroValue256
 t233:=Tryz.underlying257
 a233:=Tryz.isAgg257
 z233:=Tryz.sizeOf257
 v233:=Tryz.zeroValue257
 g17:=by kernel_rfl
 g18:=by kernel_rfl
 g19:=by kernel_rfl
 i0:=by kernel_rfl
 i2:=by kernel_rfl
 i3:=by kernel_rfl
 i4:=by kernel_rfl
 i5:=by kernel_rfl
 i9:=by kernel_rfl
 i20:=by kernel_rfl
 i37:=by kernel_rfl
 i46:=by kernel_rfl
 i51:=by kernel_rfl
 i53:=by kernel_rfl
 i171:=by kernel_rfl
 i173:=by kernel_rfl
 i212:=by kernel_rfl
 i232:=by kernel_rfl
 i233:=by kernel_rfl
 m17:=by kernel_rfl
 m18:=by kernel_rfl
 m19:=by kernel_rfl }
open Go.RowKit Go.Sort Go.Lib in
theorem Tryz.strconv_Itoa (n : Int) (h0 : -9223372036854775808 ≤ n) (h1 : n ≤ 9223372036854775807) (w : World) (htab : Lib.TabIs Tryz.prog w "internal/strconv.uint64pow10" .u64 Lib.pow10Tab) :
  Calls Tryz.prog 156 #[.int .i64 n] w fun e w'=>e= .returned (.string ⟨(Lib.itoa n).toArray⟩)∧ ∃ k os,w'=grow (w.drewN k) os:=Any.strconv_Itoa Tryz.laysM171 n h0 h1 w htab
end Go.Proofs
namespace Go.Proofs.YtfammdfpgccnfaaGreatDoor
open Go.RowKit
theorem dec_libM (n:Nat):Lib.decDigits n=dec n:=by
 induction n using Nat.strongRecOn with
 | _ n ih =>
  rw [Lib.decDigits,dec]
  split
  ·rfl
  ·rw [ih _ (by omega)]
theorem itoa_libM (n:Nat):Lib.itoa (n:Int)=dec n:=by
 rw [Lib.itoa,if_neg (by omega),← dec_libM]
 rfl
def powD:List D:=Lib.pow10Tab.map fun z=> .v (.int .u64 z)
theorem powG_ok : Tryz.prog.globalNamed "internal/strconv.uint64pow10" = some 0 := by kernel_rfl
theorem tab_is {w : World} {S : Nat → Prop} (h : Tab w S 0 powD) : Lib.TabIs Tryz.prog w "internal/strconv.uint64pow10" .u64 Lib.pow10Tab := by
 obtain ⟨h1,h2,arr,ty,fz,h3,h4⟩:=h
 unfold Lib.TabIs World.var?
 rw [powG_ok,Option.bind_some,h3]
 show some arr=_
 refine congrArg some (Array.ext ?_ ?_)
 ·rw [h4]
  simp [powD]
 ·intro i hi hj
  have hi':i<powD.length:=by omega
  generalize hp:Value.pointer (some ⟨0,0,none⟩)=u at h1
  cases h1 with
  | ptr off b o cs us hb hw hr =>
   injection hp with hp
   injection hp with hp
   injection hp with hp1 hp2
   subst hp1
   have ho:o=0:=by omega
   subst ho
   have g0:powD[i]?=some powD[i]:=List.getElem?_eq_getElem hi'
   have g1:=hw i _ g0
   have g2:=hr i _ g0
   have g3:powD[i]= .v (.int .u64 (Lib.pow10Tab[i]'(by simpa [powD] using hi'))):=by simp [powD]
   rw [g3] at g2
   generalize us i=q at g1 g2
   cases g2
   have hq:i<arr.size:=by rw [h4];exact hi'
   simp only [World.cell?,h3,Nat.zero_add,Array.getElem?_eq_getElem hq,Option.some.injEq] at g1
   simp
   injection g1
theorem itoa_m {G:Nat→Option (List D)} (hG:G 0=some powD) (n:Nat) (hn:n≤9223372036854775807):Spec Tryz.prog G 156 [.c (.v (.int .i64 n))] (.one (.c (.v (.string ⟨(dec n).toArray⟩)))):=by
 intro w S vs hS hT hA
 obtain ⟨hl,hc⟩:=hA
 match vs,hl with
 | [u],_ =>
  obtain rfl:u= .int .i64 n:=by
   have h:=hc 0 _ _ rfl rfl
   have h:RD w S (.v (.int .i64 n)) u:=h
   cases h
   rfl
  refine Calls.mono (Tryz.strconv_Itoa n (by omega) (by omega) w (tab_is (hT _ _ hG))) ?_
  rintro e w1 ⟨rfl,k,os,rfl⟩
  rw [itoa_libM]
  have hB:=Lib.below_grow w.heap.size w (Nat.le_refl _) k os
  exact ⟨⟨hB.os,hB.tape,hB.output,hB.size,fun k hk _=>hB.block k hk⟩,_,rfl,.v _ rfl⟩
theorem putlen_m {G:Nat→Option (List D)} (hG:G 0=some powD) (n:Nat) (hn:n≤9223372036854775807):Spec Tryz.prog G 130 [.c (.v (.int .i64 n))] (.one (.c (.v (.string ⟨(dec n).toArray⟩)))):=by
 refine spec_of Tryz.func130 rfl rfl rfl (by kernel_rfl) rfl fun K=>?_
 (repeat' (first|with_reducible (first|refine zA fun Kn hK=>?_|refine zU ?_|refine Nx.go ?_|go_step)|refine ⟨_,itoa_m hG n hn,?_⟩|with_reducible (first|refine zI ?_|refine zV ?_)|simp (maxSteps:=9^9) (disch:=omega) only [wq]|with_reducible refine zM (fun hb=>?_) (fun hb=>?_)<;>try simp only [hb]|with_reducible refine And.intro (by first|omega|(simp;done)|(simp;omega)) ?_|simp (maxSteps:=9^9) -implicitDefEqProofs only [go_sem,true_and]))
end Go.Proofs.YtfammdfpgccnfaaGreatDoor
namespace Go.Proofs.YtfammdfpgccnfaaGreatDoor
open Go.ChangeShapes Go.WideShapes Go.ChangeAt Go.RowKit
theorem ownK:ownKnob Tryz.prog.godebug=none:=by kernel_rfl
theorem laidK:laidOutB Tryz.prog=true:=by kernel_rfl
theorem gPow : Tryz.prog.globalNamed "internal/strconv.uint64pow10" = some 0 := by kernel_rfl
theorem gPowType:(Tryz.prog.globals[0]?).map (·.type)=some 227:=by kernel_rfl
def laid3 : List (String × DataW Unit) := [("math/bits.deBruijn32tab", Rows.laid_math_bits_deBruijn32tab), ("math/bits.deBruijn64tab", Rows.laid_math_bits_deBruijn64tab), ("internal/strconv.uint64pow10", Rows.laid_internal_strconv_uint64pow10), ("unicode/utf8.acceptRanges", Rows.laid_unicode_utf8_acceptRanges), ("unicode/utf8.first", Rows.laid_unicode_utf8_first)]
def tabG (g:Nat):Option (List D):=if g=0 then some powD else none
theorem tabG_pow:tabG 0=some powD:=rfl
theorem tab_of {w : World} (h : Lib.TabIs Tryz.prog w "internal/strconv.uint64pow10" .u64 Lib.pow10Tab) : Tab w (fun b => b < w.heap.size) 0 powD := by
 unfold Lib.TabIs World.var? at h
 rw [powG_ok,Option.bind_some] at h
 split at h
 ·rename_i arr ty fz h3
  injection h with h
  subst h
  refine ⟨?_,(Array.getElem?_eq_some_iff.1 h3).1,_,_,_,h3,by simp [powD]⟩
  refine .ptr 0 _ 0 _ (fun i=>((Lib.pow10Tab.map fun z=>Value.int .u64 z)[i]?).getD undef) (Array.getElem?_eq_some_iff.1 h3).1 (fun i x hx=>?_) fun i x hx=>?_
  all_goals
   simp only [powD,List.getElem?_map] at hx
   cases hq:Lib.pow10Tab[i]? with
   | none=>rw [hq] at hx;cases hx
   | some z =>
    rw [hq] at hx
    have hx:some (D.v (.int .u64 z))=some x:=hx
    injection hx with hx
    subst hx
    have e:(Lib.pow10Tab.map fun z=>Value.int .u64 z)[i]?=some (.int .u64 z):=by simp [hq]
    rw [e]
    first
     | exact .v _ rfl
     | (rw [Nat.zero_add]
        simp [World.cell?,h3,hq])
 ·cases h
theorem tables_of_laid {W:World} (h:laidMetH Tryz.prog laid3 W):Tables tabG W (fun b=>b<W.heap.size):=by
 have h3 : laidMet Tryz.prog (("internal/strconv.uint64pow10", Lib.tabData .u64 Lib.pow10Tab) :: [("unicode/utf8.acceptRanges", Rows.laid_unicode_utf8_acceptRanges), ("unicode/utf8.first", Rows.laid_unicode_utf8_first)]) W := laidMet.tail (laidMet.tail (h))
 intro g cs hg
 unfold tabG at hg
 split at hg
 ·rename_i e
  subst e
  injection hg with hg
  subst hg
  exact tab_of (Lib.tabIs_of_head (rest := [("unicode/utf8.acceptRanges", Rows.laid_unicode_utf8_acceptRanges), ("unicode/utf8.first", Rows.laid_unicode_utf8_first)]) gPow gPowType Tryz.underlying227 Tryz.underlying217 (by kernel_rfl) (by kernel_rfl) h3)
 ·cases hg
def laidAt (k:IntKind) (zs:List Int):Obj→Obj
 | .cells _ t frozen=> .cells (zs.map fun z=> .int k z).toArray t frozen
 | o=>o
def ints {H:Type}:DataW H→List Int
 | .agg l=>l.flatMap fun
  | .lit (.int _ z)=>[z]
  | .agg m=>m.map fun| .lit (.int _ z)=>z|_=>0
  | _=>[0]
 | _=>[]
noncomputable def laidWorld (os:Os):World:=
 { World.holding Tryz.prog os ⟨#[], #[],[]⟩ with heap:=((((((World.holding Tryz.prog os ⟨#[], #[],[]⟩).heap).modify 2 (laidAt .u8 (ints (H:=Unit) Rows.laid_math_bits_deBruijn32tab))).modify 3 (laidAt .u8 (ints (H:=Unit) Rows.laid_math_bits_deBruijn64tab))).modify 0 (laidAt .u64 (ints (H:=Unit) Rows.laid_internal_strconv_uint64pow10))).modify 6 (laidAt .u8 (ints (H:=Unit) Rows.laid_unicode_utf8_acceptRanges))).modify 5 (laidAt .u8 (ints (H:=Unit) Rows.laid_unicode_utf8_first)) }
theorem laid_met (os:Os) (args:Array Value):laidMet Tryz.prog laid3 ((laidWorld os).forCall (fun _ _=>0) ⟨#[],args,[]⟩).memory:=
 laidMet_of_run' 8 (by kernel_rfl) (by kernel_rfl)
theorem bulk_le {H:Type} {l:List (DataW H)} (hk:Rows.uptoSmall H l=true):Rows.uptoBulkAll l≤1048576:=of_decide_eq_true hk
end Go.Proofs.YtfammdfpgccnfaaGreatDoor
namespace Go.Proofs.YtfammdfpgccnfaaGreatDoor
open Go.RowKit
structure Bd where
 is:Bool
 opn:Bool
 txt:List UInt8
deriving DecidableEq
inductive Tg where
 | mk (kind:UInt8) (data:List UInt8) (kids:List Tg) (ord:UInt8) (lo hi:Bd)
def Tg.kind:Tg→UInt8| .mk k _ _ _ _ _=>k
def Tg.data:Tg→List UInt8| .mk _ d _ _ _ _=>d
def Tg.kids:Tg→List Tg| .mk _ _ k _ _ _=>k
def Tg.ord:Tg→UInt8| .mk _ _ _ o _ _=>o
def Tg.lo:Tg→Bd| .mk _ _ _ _ b _=>b
def Tg.hi:Tg→Bd| .mk _ _ _ _ _ b=>b
theorem Tg.kid_lt {t x:Tg} (h:x∈t.kids):SizeOf.sizeOf x<SizeOf.sizeOf t:=by
 cases t
 have:=List.sizeOf_lt_of_mem h
 simp only [Tg.kids] at this
 simp only [Tg.mk.sizeOf_spec]
 omega
theorem Tg.ind {P:Tg→Prop} (h: ∀ t,(∀ x∈t.kids,P x)→P t) (t:Tg):P t:=
 h t fun x hx=>Tg.ind h x
termination_by SizeOf.sizeOf t
decreasing_by exact Tg.kid_lt hx
def u8V (x:UInt8):Value:= .int .u8 (x.toNat:Int)
def Tg.rd (w:World) (S:Nat→Prop) (cs:List Value) (t:Tg):Prop:=
 ∃ A1 n1 c1 A2 n2 c2 A3 n3 c3 A4 n4 c4,cs=[u8V t.kind,.slice A1 n1 c1,.slice A2 n2 c2,u8V t.ord,.bool t.lo.is,.bool t.lo.opn,.slice A3 n3 c3,.bool t.hi.is,.bool t.hi.opn,.slice A4 n4 c4]∧Rep.u8.sl w S A1 n1 c1 t.data∧Rep.u8.sl w S A3 n3 c3 t.lo.txt∧Rep.u8.sl w S A4 n4 c4 t.hi.txt ∧
  t.kids.length=n2∧n2≤c2∧c2≤9223372036854775807∧(0<n2→ ∃ b o,A2=some ⟨b,o,none⟩∧S b ∧
   ∀ i x,(hx:t.kids[i]?=some x)→ ∃ es,Tg.rd w S es x∧ ∀ j u,es[j]?=some u→w.cell? ⟨b,o+i*10+j,none⟩=some u)
termination_by SizeOf.sizeOf t
decreasing_by exact Tg.kid_lt (List.mem_of_getElem? hx)
theorem Tg.rd_len {w:World} {S:Nat→Prop} {cs:List Value} {t:Tg} (h:Tg.rd w S cs t):cs.length=10:=by
 rw [Tg.rd] at h
 obtain ⟨_,_,_,_,_,_,_,_,_,_,_,_,rfl,_⟩:=h
 rfl
theorem Tg.rd_keep {w w':World} {S:Nat→Prop} (hk: ∀ p:Addr,S p.block→w'.cell? p=w.cell? p): ∀ (t:Tg) {cs:List Value},Tg.rd w S cs t→Tg.rd w' S cs t:=by
 refine Tg.ind fun t ih cs h=>?_
 rw [Tg.rd] at h ⊢
 obtain ⟨A1,n1,c1,A2,n2,c2,A3,n3,c3,A4,n4,c4,rfl,h1,h2,h7,h3,h4,h5,h6⟩:=h
 refine ⟨A1,n1,c1,A2,n2,c2,A3,n3,c3,A4,n4,c4,rfl,Rep.sl_keep h1 hk,Rep.sl_keep h2 hk,Rep.sl_keep h7 hk,h3,h4,h5,fun hn=>?_⟩
 obtain ⟨b,o,rfl,hb,hr⟩:=h6 hn
 refine ⟨b,o,rfl,hb,fun i x hx=>?_⟩
 obtain ⟨es,he,hc⟩:=hr i x hx
 exact ⟨es,ih x (List.mem_of_getElem? hx) he,fun j u hu=>by rw [hk _ hb];exact hc j u hu⟩
theorem Tg.rd_more {w:World} {S S':Nat→Prop} (hS: ∀ b,S b→S' b): ∀ (t:Tg) {cs:List Value},Tg.rd w S cs t→Tg.rd w S' cs t:=by
 refine Tg.ind fun t ih cs h=>?_
 rw [Tg.rd] at h ⊢
 obtain ⟨A1,n1,c1,A2,n2,c2,A3,n3,c3,A4,n4,c4,rfl,h1,h2,h7,h3,h4,h5,h6⟩:=h
 refine ⟨A1,n1,c1,A2,n2,c2,A3,n3,c3,A4,n4,c4,rfl,Rep.sl_more h1 hS,Rep.sl_more h2 hS,Rep.sl_more h7 hS,h3,h4,h5,fun hn=>?_⟩
 obtain ⟨b,o,rfl,hb,hr⟩:=h6 hn
 refine ⟨b,o,rfl,hS _ hb,fun i x hx=>?_⟩
 obtain ⟨es,he,hc⟩:=hr i x hx
 exact ⟨es,ih x (List.mem_of_getElem? hx) he,hc⟩
def Rep.tag:Rep Tg where
 size:=10
 pos:=by omega
 rd:=Tg.rd
 len:=Tg.rd_len
 keep:=fun h hk=>Tg.rd_keep hk _ h
 more:=fun h hS=>Tg.rd_more hS _ h
 one:=fun h u hu=>by
  rw [Tg.rd] at h
  obtain ⟨_,_,_,_,_,_,_,_,_,_,_,_,rfl,_⟩:=h
  simp only [List.mem_cons,List.not_mem_nil,or_false] at hu
  rcases hu with rfl|rfl|rfl|rfl|rfl|rfl|rfl|rfl|rfl|rfl<;>rfl
def Tg.wt (t:Tg):Nat:=1+t.data.length+t.lo.txt.length+t.hi.txt.length+(t.kids.attach.map fun x=>Tg.wt x.1).sum
termination_by SizeOf.sizeOf t
decreasing_by exact Tg.kid_lt x.2
theorem Tg.wt_eq (t:Tg):t.wt=1+t.data.length+t.lo.txt.length+t.hi.txt.length+(t.kids.map Tg.wt).sum:=by
 rw [Tg.wt]
 congr 2
 simp
theorem tsum_mem {l:List Tg} {x:Tg} (f:Tg→Nat) (h:x∈l):f x≤(l.map f).sum:=by
 induction l with
 | nil=>cases h
 | cons y l ih =>
  simp only [List.map_cons,List.sum_cons]
  rcases List.mem_cons.1 h with rfl|h
  ·omega
  ·have:=ih h;omega
theorem Tg.wt_kid {t x:Tg} (h:x∈t.kids):x.wt<t.wt:=by
 rw [Tg.wt_eq t]
 have:=tsum_mem Tg.wt h
 omega
theorem Tg.wt_kids (t:Tg):t.kids.length≤t.wt:=by
 rw [Tg.wt_eq t]
 have: ∀ l:List Tg,l.length≤(l.map Tg.wt).sum:=by
  intro l
  induction l with
  | nil=>simp
  | cons y l ih =>
   have:1≤y.wt:=by rw [Tg.wt_eq];omega
   simp only [List.map_cons,List.sum_cons,List.length_cons]
   omega
 have:=this t.kids
 omega
end Go.Proofs.YtfammdfpgccnfaaGreatDoor
namespace Go.Proofs.YtfammdfpgccnfaaGreatDoor
open Go.RowKit Go.ChangeShapes Go.WideShapes Go.Deep
section
variable {P:Program} {t e:TypeId}
theorem field_at {H:Type} {enc:TypeId × Value→H} {w:World} {sp:Nat→Bool} {held:Bool} {n:Nat} {cs:List Value} {x:DataW H × List MemPlace} {fs:Array Field} (ht:P.underlying t=some (.struct fs)) (h:DataW.trod enc P w 0 sp held n t cs=some x) {L:List (Nat × Nat)} (hf:fs.toList.map (fun f=>(f.type,f.offset))=L) :
  ∃ (m:Nat) (xs:List (DataW H × List MemPlace)),n=m+1∧x.1= .agg (xs.map (·.1))∧xs.length=L.length∧cs.length=P.cellsOf t∧ ∀ (i:Nat) (p:Nat × Nat) y,L[i]?=some p→xs[i]?=some y→DataW.trod enc P w 0 sp held m p.1 ((cs.drop p.2).take (P.cellsOf p.1))=some y:=by
 obtain ⟨xs,m,rfl,rfl,hcl,hlx,hg⟩:=DataW.trod_struct ht h
 refine ⟨m,xs,rfl,rfl,by rw [hlx,← hf,List.length_map,Array.length_toList],hcl,fun i p y hp hy=>?_⟩
 rw [← hf,List.getElem?_map,Option.map_eq_some_iff] at hp
 obtain ⟨f,h1,rfl⟩:=hp
 have h1':fs[i]?=some f:=by simpa using h1
 rw [hg i f h1',hy]
theorem bytes_at {H:Type} {enc:TypeId × Value→H} {w:World} {sp:Nat→Bool} {held:Bool} {n:Nat} {cs:List Value} {x:DataW H × List MemPlace} {tB ty:TypeId} (hB:P.underlying tB=some (.slice ty)) (hy:P.underlying ty=some (.int .u8)) (cy:P.cellsOf ty=1) (h:DataW.trod enc P w 0 sp held n tB cs=some x) :
  ∃ (y:List UInt8) (A:Option Addr) (k c:Nat),cs=[.slice A k c]∧Rep.u8.sl w (fun b=>b<w.heap.size) A k c y∧y.length+1≤Rows.uptoBulk x.1:=by
 obtain ⟨y,⟨A,k,c,q,s⟩,hw⟩:=opensN_slice (r:=Rep.u8) (wt:=fun _=>1) n hB cy (fun m _=>opensN_u8 m hy cy) _ _ _ _ _ _ _ h
 simp only [sum_ones] at hw
 exact ⟨y,A,k,c,q,s,hw⟩
end
section
variable {P:Program} {t e:TypeId}
theorem open_u8 {H:Type} {enc:TypeId × Value→H} {w:World} {sp:Nat→Bool} {held:Bool} {n:Nat} {cs:List Value} {x:DataW H × List MemPlace} {ty:TypeId} (hy:P.underlying ty=some (.int .u8)) (h:DataW.trod enc P w 0 sp held n ty cs=some x): ∃ b:UInt8,cs=[u8V b]:=by
 obtain ⟨z,hz,_,hw⟩:=DataW.trod_int hy h
 have hb:0≤z∧z≤255:=bounds_u8 hw
 refine ⟨UInt8.ofNat z.toNat,?_⟩
 rw [hz,u8V,UInt8.toNat_ofNat_of_lt' (by simp only [UInt8.size];omega)]
 congr 2
 omega
theorem end_at {H:Type} {enc:TypeId × Value→H} {w:World} {sp:Nat→Bool} {held:Bool} {n:Nat} {cs:List Value} {x:DataW H × List MemPlace} {tE tb tB ty:TypeId} {fs:Array Field} (ht:P.underlying tE=some (.struct fs)) (hf:fs.toList.map (fun f=>(f.type,f.offset))=[(tb,0),(tb,1),(tB,2)]) (hc:P.cellsOf tE=3) (hb:P.underlying tb=some .bool) (cb:P.cellsOf tb=1)
  (hB:P.underlying tB=some (.slice ty)) (cB:P.cellsOf tB=1) (hy:P.underlying ty=some (.int .u8)) (cy:P.cellsOf ty=1) (h:DataW.trod enc P w 0 sp held n tE cs=some x) :
  ∃ (b:Bd) (A:Option Addr) (k c:Nat),cs=[.bool b.is,.bool b.opn,.slice A k c]∧Rep.u8.sl w (fun b=>b<w.heap.size) A k c b.txt∧b.txt.length≤Rows.uptoBulk x.1:=by
 obtain ⟨m,xs,_,hx,hl,hcl,hg⟩:=field_at ht h hf
 rw [hc] at hcl
 match xs,hl,cs,hcl with
 | [x0,x1,x2],_,[c0,c1,c2],_ =>
  have e0:=hg 0 _ _ rfl rfl
  have e1:=hg 1 _ _ rfl rfl
  have e2:=hg 2 _ _ rfl rfl
  dsimp only at e0 e1 e2
  rw [cb] at e0 e1
  rw [cB] at e2
  obtain ⟨b0,q0,_⟩:=DataW.trod_bool hb e0
  obtain ⟨b1,q1,_⟩:=DataW.trod_bool hb e1
  obtain ⟨y,A,k,c,q2,s,hw⟩:=bytes_at hB hy cy e2
  simp only [List.drop_zero,List.drop_succ_cons,List.take_succ_cons,List.take_zero,List.cons.injEq,and_true] at q0 q1 q2
  subst q0 q1 q2
  refine ⟨⟨b0,b1,y⟩,A,k,c,rfl,s,?_⟩
  rw [hx]
  simp only [Rows.uptoBulk,Rows.uptoBulkAll,List.map_cons,List.map_nil]
  omega
theorem opensN_tag {tk tB tl tR tE tb ty:TypeId} {fs fr fe:Array Field} (ht:P.underlying t=some (.struct fs)) (hf:fs.toList.map (fun f=>(f.type,f.offset))=[(tk,0),(tB,1),(tl,2),(tR,3)]) (hc:P.cellsOf t=10)
  (hr:P.underlying tR=some (.struct fr)) (hfr:fr.toList.map (fun f=>(f.type,f.offset))=[(tk,0),(tE,1),(tE,4)]) (cR:P.cellsOf tR=7)
  (he:P.underlying tE=some (.struct fe)) (hfe:fe.toList.map (fun f=>(f.type,f.offset))=[(tb,0),(tb,1),(tB,2)]) (cE:P.cellsOf tE=3)
  (hk:P.underlying tk=some (.int .u8)) (ck:P.cellsOf tk=1) (hb:P.underlying tb=some .bool) (hB:P.underlying tB=some (.slice ty)) (hy:P.underlying ty=some (.int .u8)) (hl:P.underlying tl=some (.slice t))
  (cb:P.cellsOf tb=1) (cB:P.cellsOf tB=1) (cy:P.cellsOf ty=1) (cl:P.cellsOf tl=1): ∀ fuel,OpensN P fuel t Rep.tag Tg.wt:=by
 intro fuel
 induction fuel using Nat.strongRecOn with
 | _ fuel ih =>
 intro H enc w sp held cs x h
 obtain ⟨m,xs,rfl,hx,hlx,hcl,hg⟩:=field_at ht h hf
 rw [hc] at hcl
 match xs,hlx,cs,hcl with
 | [x0,x1,x2,x3],_,[c0,c1,c2,c3,c4,c5,c6,c7,c8,c9],_ =>
  have e0:=hg 0 _ _ rfl rfl
  have e1:=hg 1 _ _ rfl rfl
  have e2:=hg 2 _ _ rfl rfl
  have e3:=hg 3 _ _ rfl rfl
  dsimp only at e0 e1 e2 e3
  rw [ck] at e0
  rw [cB] at e1
  rw [cl] at e2
  rw [cR] at e3
  obtain ⟨k0,q0⟩:=open_u8 hk e0
  obtain ⟨y1,A1,n1,k1,q1,s1,w1⟩:=bytes_at hB hy cy e1
  obtain ⟨y2,⟨A2,n2,k2,q2,s2⟩,w2⟩:=opensN_slice (r:=Rep.tag) (wt:=Tg.wt) m hl hc (fun j hj=>ih j (by omega)) _ _ _ _ _ _ _ e2
  obtain ⟨m3,zs,_,hz,hlz,hcz,hgz⟩:=field_at hr e3 hfr
  simp only [List.drop_zero,List.drop_succ_cons,List.take_succ_cons,List.take_zero,List.cons.injEq,and_true] at q0 q1 q2 hgz
  match zs,hlz with
  | [z0,z1,z2],_ =>
   have g0:=hgz 0 _ _ rfl rfl
   have g1:=hgz 1 _ _ rfl rfl
   have g2:=hgz 2 _ _ rfl rfl
   dsimp only at g0 g1 g2
   rw [ck] at g0
   rw [cE] at g1 g2
   obtain ⟨o0,p0⟩:=open_u8 hk g0
   obtain ⟨b1,B1,l1,j1,p1,t1,v1⟩:=end_at he hfe cE hb cb hB cB hy cy g1
   obtain ⟨b2,B2,l2,j2,p2,t2,v2⟩:=end_at he hfe cE hb cb hB cB hy cy g2
   simp only [List.drop_zero,List.drop_succ_cons,List.take_succ_cons,List.take_zero,List.cons.injEq,and_true] at p0 p1 p2
   obtain ⟨p1a,p1b,p1c⟩:=p1
   obtain ⟨p2a,p2b,p2c⟩:=p2
   subst q0 q1 q2 p0 p1a p1b p1c p2a p2b p2c
   refine ⟨.mk k0 y1 y2 o0 b1 b2,?_,?_⟩
   ·show Tg.rd w _ _ (.mk k0 y1 y2 o0 b1 b2)
    rw [Tg.rd]
    exact ⟨A1,n1,k1,A2,n2,k2,B1,l1,j1,B2,l2,j2,rfl,s1,t1,t2,s2.1,s2.2.1,s2.2.2.1,s2.2.2.2⟩
   ·rw [Tg.wt_eq,hx]
    simp only [Rows.uptoBulk,Rows.uptoBulkAll,List.map_cons,List.map_nil,Tg.data,Tg.kids,Tg.lo,Tg.hi]
    have w2':(y2.map Tg.wt).sum+1≤Rows.uptoBulk x2.1:=w2
    have v3:b1.txt.length+b2.txt.length≤Rows.uptoBulk x3.1:=by
     rw [hz]
     simp only [Rows.uptoBulk,Rows.uptoBulkAll,List.map_cons,List.map_nil]
     omega
    omega
end
end Go.Proofs.YtfammdfpgccnfaaGreatDoor
namespace Go.Proofs.YtfammdfpgccnfaaGreatDoor
open Go.RowKit
def iD (n:Nat):DV:= .c (.v (.int .i64 (n:Int)))
def longB (y:Nat):Bool:=decide (y%4=0)&&(!decide (y%100=0)||decide (y%400=0))
def daysN (y m:Nat):Nat:=if m=2 then (if longB y=true then 29 else 28) else if m=4∨m=6∨m=9∨m=11 then 30 else 31
theorem tm (y k:Nat):(y:Int).tmod (k:Int)=((y%k:Nat):Int):=by rw [Int.tmod_eq_emod_of_nonneg (by omega)];rfl
theorem tq (y k:Nat):(y:Int).tdiv (k:Int)=((y/k:Nat):Int):=by rw [Int.tdiv_eq_ediv_of_nonneg (by omega)];rfl
theorem nbeq (a b:Nat):(((a:Int))==((b:Int)))=decide (a=b):=by rw [Bool.eq_iff_iff];simp [Int.ofNat_inj]
section
variable {G:Nat→Option (List D)}
theorem long_m (y:Nat):Spec Tryz.prog G 167 [iD y] (.one (.c (.v (.bool (longB y))))):=by
 have t4:(y:Int).tmod 4=((y%4:Nat):Int):=tm y 4
 have t100:(y:Int).tmod 100=((y%100:Nat):Int):=tm y 100
 have t400:(y:Int).tmod 400=((y%400:Nat):Int):=tm y 400
 have e4:(((y%4:Nat):Int)==0)=decide (y%4=0):=nbeq _ 0
 have e100:(((y%100:Nat):Int)==0)=decide (y%100=0):=nbeq _ 0
 have e400:(((y%400:Nat):Int)==0)=decide (y%400=0):=nbeq _ 0
 unfold longB iD
 generalize decide (y%4=0)=p at *
 generalize decide (y%100=0)=q at *
 generalize decide (y%400=0)=r at *
 refine spec_of Tryz.func167 rfl rfl rfl (by kernel_rfl) rfl fun K=>?_
 (repeat' (first|with_reducible (first|refine zA fun Kn hK=>?_|refine zU ?_|refine Nx.go ?_|go_step)|with_reducible (first|refine zI ?_|refine zV ?_)|simp (maxSteps:=9^9) (disch:=omega) only [wq]|with_reducible refine zM (fun hb=>?_) (fun hb=>?_)<;>try simp only [hb]|with_reducible refine And.intro (by first|omega|(simp;done)|(simp;omega)) ?_|simp (maxSteps:=9^9) -implicitDefEqProofs only [go_sem,t4,t100,t400,e4,e100,e400,bne]))
 all_goals simp_all
theorem days_m (y m:Nat):Spec Tryz.prog G 141 [iD y,iD m] (.one (iD (daysN y m))):=by
 have h2:((m:Int)==2)=decide (m=2):=nbeq m 2
 have h4:((m:Int)==4)=decide (m=4):=nbeq m 4
 have h6:((m:Int)==6)=decide (m=6):=nbeq m 6
 have h9:((m:Int)==9)=decide (m=9):=nbeq m 9
 have h11:((m:Int)==11)=decide (m=11):=nbeq m 11
 unfold daysN iD
 by_cases c2:m=2
 ·rw [decide_eq_true c2] at h2
  rw [if_pos c2]
  cases hl:longB y
  all_goals
   have hl':=long_m (G:=G) y
   rw [hl] at hl'
  ·refine spec_of Tryz.func141 rfl rfl rfl (by kernel_rfl) rfl fun K=>?_
   (repeat' (first|with_reducible (first|refine zA fun Kn hK=>?_|refine zU ?_|refine Nx.go ?_|go_step)|refine ⟨_,hl',?_⟩|with_reducible (first|refine zI ?_|refine zV ?_)|simp (maxSteps:=9^9) (disch:=omega) only [wq]|with_reducible refine zM (fun hb=>?_) (fun hb=>?_)<;>try simp only [hb]|with_reducible refine And.intro (by first|omega|(simp;done)|(simp;omega)) ?_|simp (maxSteps:=9^9) -implicitDefEqProofs only [go_sem,h2]))
   try rfl
  ·refine spec_of Tryz.func141 rfl rfl rfl (by kernel_rfl) rfl fun K=>?_
   (repeat' (first|with_reducible (first|refine zA fun Kn hK=>?_|refine zU ?_|refine Nx.go ?_|go_step)|refine ⟨_,hl',?_⟩|with_reducible (first|refine zI ?_|refine zV ?_)|simp (maxSteps:=9^9) (disch:=omega) only [wq]|with_reducible refine zM (fun hb=>?_) (fun hb=>?_)<;>try simp only [hb]|with_reducible refine And.intro (by first|omega|(simp;done)|(simp;omega)) ?_|simp (maxSteps:=9^9) -implicitDefEqProofs only [go_sem,h2]))
   try rfl
 ·have f2:=decide_eq_false c2
  rw [f2] at h2
  rw [if_neg c2]
  generalize g4:decide (m=4)=p4 at *
  generalize g6:decide (m=6)=p6 at *
  generalize g9:decide (m=9)=p9 at *
  generalize g11:decide (m=11)=p11 at *
  refine spec_of Tryz.func141 rfl rfl rfl (by kernel_rfl) rfl fun K=>?_
  (repeat' (first|with_reducible (first|refine zA fun Kn hK=>?_|refine zU ?_|refine Nx.go ?_|go_step)|with_reducible (first|refine zI ?_|refine zV ?_)|simp (maxSteps:=9^9) (disch:=omega) only [wq]|with_reducible refine zM (fun hb=>?_) (fun hb=>?_)<;>try simp only [hb]|with_reducible refine And.intro (by first|omega|(simp;done)|(simp;omega)) ?_|simp (maxSteps:=9^9) -implicitDefEqProofs only [go_sem,h2,h4,h6,h9,h11]))
  all_goals simp_all
def aheadN (y:Nat):Nat:=y*365+(if y=0 then 0 else (y-1)/4-(y-1)/100+(y-1)/400+1)
theorem ahead_m (y:Nat) (hy:y≤10000):Spec Tryz.prog G 142 [iD y] (.one (iD (aheadN y))):=by
 unfold aheadN iD
 by_cases h0:y=0
 ·have h:decide ((y:Int)>0)=false:=decide_eq_false (by omega)
  subst h0
  refine spec_of Tryz.func142 rfl rfl rfl (by kernel_rfl) rfl fun K=>?_
  (repeat' (first|with_reducible (first|refine zA fun Kn hK=>?_|refine zU ?_|refine Nx.go ?_|go_step)|with_reducible (first|refine zI ?_|refine zV ?_)|simp (maxSteps:=9^9) (disch:=omega) only [wq]|with_reducible refine zM (fun hb=>?_) (fun hb=>?_)<;>try simp only [hb]|with_reducible refine And.intro (by first|omega|(simp;done)|(simp;omega)) ?_|simp (maxSteps:=9^9) -implicitDefEqProofs only [go_sem,h]))
  try rfl
 ·have h:decide ((y:Int)>0)=true:=decide_eq_true (by omega)
  have e:(y:Int)-1=((y-1:Nat):Int):=by omega
  have q4:((y-1:Nat):Int).tdiv 4=(((y-1)/4:Nat):Int):=tq _ 4
  have q100:((y-1:Nat):Int).tdiv 100=(((y-1)/100:Nat):Int):=tq _ 100
  have q400:((y-1:Nat):Int).tdiv 400=(((y-1)/400:Nat):Int):=tq _ 400
  rw [if_neg h0]
  refine spec_of Tryz.func142 rfl rfl rfl (by kernel_rfl) rfl fun K=>?_
  (repeat' (first|with_reducible (first|refine zA fun Kn hK=>?_|refine zU ?_|refine Nx.go ?_|go_step)|with_reducible (first|refine zI ?_|refine zV ?_)|simp (maxSteps:=9^9) (disch:=omega) only [wq]|with_reducible refine zM (fun hb=>?_) (fun hb=>?_)<;>try simp only [hb]|with_reducible refine And.intro (by first|omega|(simp;done)|(simp;omega)) ?_|simp (maxSteps:=9^9) -implicitDefEqProofs only [go_sem,h,e,q4,q100,q400]))
  congr 4
  omega
def isDg (c:UInt8):Bool:=decide (48≤c.toNat∧c.toNat≤57)
def numV (l:List UInt8):Nat:=l.foldl (fun n c=>10*n+(c.toNat-48)) 0
theorem numV_take {l:List UInt8} {k:Nat} {x:UInt8} (h:l[k]?=some x):numV (l.take (k+1))=10*numV (l.take k)+(x.toNat-48):=by
 unfold numV
 rw [List.take_add_one,h,List.foldl_append]
 rfl
theorem numV_lt: ∀ (l:List UInt8),(∀ c∈l,isDg c=true)→numV l<10^l.length:=by
 intro l h
 have key: ∀ (l:List UInt8) (n k:Nat),(∀ c∈l,isDg c=true)→n<10^k→l.foldl (fun n c=>10*n+(c.toNat-48)) n<10^(k+l.length):=by
  intro l
  induction l with
  | nil=>intro n k _ h;exact h
  | cons c l ih =>
   intro n k hd hn
   have hc:48≤c.toNat∧c.toNat≤57:=of_decide_eq_true (hd c (by simp))
   have h2:=ih (10*n+(c.toNat-48)) (k+1) (fun x hx=>hd x (by simp [hx])) (by rw [Nat.pow_succ];omega)
   rw [List.foldl_cons,List.length_cons]
   have e:k+1+l.length=k+(l.length+1):=by omega
   rw [e] at h2
   exact h2
 have:=key l 0 0 h (by decide)
 rw [Nat.zero_add] at this
 exact this
theorem digits_m (b:List UInt8) (n:Nat) (lb:b.length=n) (hn:n≤9) (hb: ∀ c∈b,isDg c=true):Spec Tryz.prog G 140 [.c (.sl n (b.map bD))] (.one (iD (numV b))):=by
 unfold iD
 refine spec_of Tryz.func140 rfl rfl rfl (by kernel_rfl) rfl fun K=>?_
 (repeat' (first|with_reducible (first|refine zA fun Kn hK=>?_|refine zU ?_|refine Nx.go ?_|go_step)|with_reducible (first|refine zI ?_|refine zV ?_)|simp (maxSteps:=9^9) (disch:=omega) only [wq]|with_reducible refine zM (fun hb=>?_) (fun hb=>?_)<;>try simp only [hb]|with_reducible refine And.intro (by first|omega|(simp;done)|(simp;omega)) ?_|simp (maxSteps:=9^9) -implicitDefEqProofs only [go_sem,true_and]))
 refine sound_loopR (fun x:{m:Nat // m≤n}=>⟨[(0,vD (.sl n (b.map bD))),(3,vI (numV (b.take x.1))),(6,vD (.sl n (b.map bD))),(7,vI n),(8,vI x.1)],[]⟩) (fun x=>n-x.1) ⟨0,by omega⟩ [] (by (iterate 2 ((try simp (maxSteps:=9^9) -implicitDefEqProofs only [go_sem,true_and]);(try simp (maxSteps:=9^9) (disch:=omega) only [wq])));try simp [numV]) (fun ⟨m,hm⟩=>?_)
 by_cases h:m<n
 ·have h1:decide ((m:Int)<(n:Int))=true:=decide_eq_true (by omega)
  obtain ⟨x,hx⟩: ∃ x,b[m]?=some x:=⟨_,List.getElem?_eq_getElem (by omega)⟩
  have hg:(b.map bD)[m]?=some (bD x):=by rw [List.getElem?_map,hx];rfl
  have hd:48≤x.toNat∧x.toNat≤57:=of_decide_eq_true (hb x (List.mem_of_getElem? hx))
  have hv:=numV_take hx
  have hlt:=numV_lt (b.take (m+1)) (fun c hc=>hb c (List.mem_of_mem_take hc))
  have hp:10^(b.take (m+1)).length≤10^9:=Nat.pow_le_pow_right (by omega) (by rw [List.length_take];omega)
  have hs:numV (b.take (m+1))<1000000000:=Nat.lt_of_lt_of_le hlt hp
  (repeat' (first|with_reducible (first|refine zA fun Kn hK=>?_|refine zU ?_|refine Nx.go ?_|go_step)|with_reducible (first|refine zI ?_|refine zV ?_)|simp (maxSteps:=9^9) (disch:=omega) only [wq]|with_reducible refine zM (fun hb=>?_) (fun hb=>?_)<;>try simp only [hb]|with_reducible refine And.intro (by first|omega|(simp;done)|(simp;omega)) ?_|simp (maxSteps:=9^9) -implicitDefEqProofs only [go_sem,h1,hg,bD,List.length_map,lb]))
  refine ⟨[],⟨m+1,by omega⟩,?_⟩
  (iterate 2 ((try simp (maxSteps:=9^9) -implicitDefEqProofs only [go_sem,true_and,hv]);(try simp (maxSteps:=9^9) (disch:=omega) only [wq])))
  try (simp only [ijq,true_and,and_true];first|done|omega|(split<;>omega)|(simp;done)|(simp;omega))
  try omega
 ·have h1:decide ((m:Int)<(n:Int))=false:=decide_eq_false (by omega)
  have e:b.take m=b:=List.take_of_length_le (by omega)
  (repeat' (first|with_reducible (first|refine zA fun Kn hK=>?_|refine zU ?_|refine Nx.go ?_|go_step)|with_reducible (first|refine zI ?_|refine zV ?_)|simp (maxSteps:=9^9) (disch:=omega) only [wq]|with_reducible refine zM (fun hb=>?_) (fun hb=>?_)<;>try simp only [hb]|with_reducible refine And.intro (by first|omega|(simp;done)|(simp;omega)) ?_|simp (maxSteps:=9^9) -implicitDefEqProofs only [go_sem,h1,e]))
end
section
variable {G:Nat→Option (List D)}
theorem nanI_m (x:Nat):Spec Tryz.prog G 231 [iD x] (.one (.c (.v (.bool false)))):=by
 have h:((x:Int)==(x:Int))=true:=beq_self_eq_true _
 unfold iD
 refine spec_of Tryz.func231 rfl rfl rfl (by kernel_rfl) rfl fun K=>?_
 (repeat' (first|with_reducible (first|refine zA fun Kn hK=>?_|refine zU ?_|refine Nx.go ?_|go_step)|with_reducible (first|refine zI ?_|refine zV ?_)|simp (maxSteps:=9^9) (disch:=omega) only [wq]|with_reducible refine zM (fun hb=>?_) (fun hb=>?_)<;>try simp only [hb]|with_reducible refine And.intro (by first|omega|(simp;done)|(simp;omega)) ?_|simp (maxSteps:=9^9) -implicitDefEqProofs only [go_sem,h,bne,Bool.not_true]))
theorem cmpI_m (x:Nat):Spec Tryz.prog G 216 [iD x,iD x] (.one (iD 0)):=by
 have h:=nanI_m (G:=G) x
 have h1:decide ((x:Int)<(x:Int))=false:=decide_eq_false (by omega)
 have h2:decide ((x:Int)>(x:Int))=false:=decide_eq_false (by omega)
 unfold iD at *
 refine spec_of Tryz.func216 rfl rfl rfl (by kernel_rfl) rfl fun K=>?_
 (repeat' (first|with_reducible (first|refine zA fun Kn hK=>?_|refine zU ?_|refine Nx.go ?_|go_step)|refine ⟨_,h,?_⟩|with_reducible (first|refine zI ?_|refine zV ?_)|simp (maxSteps:=9^9) (disch:=omega) only [wq]|with_reducible refine zM (fun hb=>?_) (fun hb=>?_)<;>try simp only [hb]|with_reducible refine And.intro (by first|omega|(simp;done)|(simp;omega)) ?_|simp (maxSteps:=9^9) -implicitDefEqProofs only [go_sem,h1,h2]))
 try rfl
theorem nanL_m (x:Nat):Spec Tryz.prog G 226 [iD x] (.one (.c (.v (.bool false)))):=by
 have h:((x:Int)==(x:Int))=true:=beq_self_eq_true _
 unfold iD
 refine spec_of Tryz.func226 rfl rfl rfl (by kernel_rfl) rfl fun K=>?_
 (repeat' (first|with_reducible (first|refine zA fun Kn hK=>?_|refine zU ?_|refine Nx.go ?_|go_step)|with_reducible (first|refine zI ?_|refine zV ?_)|simp (maxSteps:=9^9) (disch:=omega) only [wq]|with_reducible refine zM (fun hb=>?_) (fun hb=>?_)<;>try simp only [hb]|with_reducible refine And.intro (by first|omega|(simp;done)|(simp;omega)) ?_|simp (maxSteps:=9^9) -implicitDefEqProofs only [go_sem,h,bne,Bool.not_true]))
theorem cmpL_m (x:Nat):Spec Tryz.prog G 213 [iD x,iD x] (.one (iD 0)):=by
 have h:=nanL_m (G:=G) x
 have h1:decide ((x:Int)<(x:Int))=false:=decide_eq_false (by omega)
 have h2:decide ((x:Int)>(x:Int))=false:=decide_eq_false (by omega)
 unfold iD at *
 refine spec_of Tryz.func213 rfl rfl rfl (by kernel_rfl) rfl fun K=>?_
 (repeat' (first|with_reducible (first|refine zA fun Kn hK=>?_|refine zU ?_|refine Nx.go ?_|go_step)|refine ⟨_,h,?_⟩|with_reducible (first|refine zI ?_|refine zV ?_)|simp (maxSteps:=9^9) (disch:=omega) only [wq]|with_reducible refine zM (fun hb=>?_) (fun hb=>?_)<;>try simp only [hb]|with_reducible refine And.intro (by first|omega|(simp;done)|(simp;omega)) ?_|simp (maxSteps:=9^9) -implicitDefEqProofs only [go_sem,h1,h2]))
 try rfl
def fnV (f:FuncId):D:= .v (.func (.func f) #[] #[])
theorem numL_m (f:FuncId):Spec Tryz.prog G 195 [.c (fnV f)] (.one (.c (.fn 212 [.ptr [fnV f] 0]))):=by
 unfold fnV
 refine spec_of Tryz.func195 rfl rfl rfl (by kernel_rfl) rfl fun K=>?_
 (repeat' (first|with_reducible (first|refine zA fun Kn hK=>?_|refine zU ?_|refine Nx.go ?_|go_step)|with_reducible (first|refine zI ?_|refine zV ?_)|simp (maxSteps:=9^9) (disch:=omega) only [wq]|with_reducible refine zM (fun hb=>?_) (fun hb=>?_)<;>try simp only [hb]|with_reducible refine And.intro (by first|omega|(simp;done)|(simp;omega)) ?_|simp (maxSteps:=9^9) -implicitDefEqProofs only [go_sem,true_and,List.mapM_cons,List.mapM_nil,Option.bind_eq_bind,Option.bind_some,Option.pure_def]))
theorem byL_m (f:FuncId) (n:Nat) (b:List D) (o:Option Nat) (hf:funcOk Tryz.prog f=true) (h:Spec Tryz.prog G f [.c (.sl n b)] (.many [iD (o.getD 0),.c (.v (.bool o.isSome))])) :
  Spec Tryz.prog G 212 [.c (.sl n b),.c (.sl n b),.c (.ptr [fnV f] 0)] (.many [iD 0,.c (.v (.bool o.isSome))]):=by
 unfold fnV
 rcases o with _|x
 ·unfold iD at *
  refine spec_of Tryz.func212 rfl rfl rfl (by kernel_rfl) rfl fun K=>?_
  (repeat' (first|with_reducible (first|refine zA fun Kn hK=>?_|refine zU ?_|refine Nx.go ?_|go_step)|refine ⟨_,h,?_⟩|with_reducible (first|refine zI ?_|refine zV ?_)|simp (maxSteps:=9^9) (disch:=omega) only [wq]|with_reducible refine zM (fun hb=>?_) (fun hb=>?_)<;>try simp only [hb]|with_reducible refine And.intro (by first|omega|(simp;done)|(simp;omega)) ?_|simp (maxSteps:=9^9) -implicitDefEqProofs only [go_sem,hf]))
  try rfl
 ·have hc:=cmpL_m (G:=G) x
  have e:((x:Int)==(x:Int))=true:=beq_self_eq_true _
  simp only [Option.getD_some,Option.isSome_some] at h
  unfold iD at *
  refine spec_of Tryz.func212 rfl rfl rfl (by kernel_rfl) rfl fun K=>?_
  (repeat' (first|with_reducible (first|refine zA fun Kn hK=>?_|refine zU ?_|refine Nx.go ?_|go_step)|refine ⟨_,h,?_⟩|refine ⟨_,hc,?_⟩|with_reducible (first|refine zI ?_|refine zV ?_)|simp (maxSteps:=9^9) (disch:=omega) only [wq]|with_reducible refine zM (fun hb=>?_) (fun hb=>?_)<;>try simp only [hb]|with_reducible refine And.intro (by first|omega|(simp;done)|(simp;omega)) ?_|simp (maxSteps:=9^9) -implicitDefEqProofs only [go_sem,hf,e,bne,Bool.not_true]))
  try rfl
end
def bareL:List UInt8→List UInt8
 | []=>[]
 | x::l=>if x=0 then bareL l else x::l
theorem bareL_le: ∀ l:List UInt8,(bareL l).length≤l.length
 | []=>Nat.le_refl _
 | x :: l=>by
  rw [bareL]
  split
  ·have:=bareL_le l
   simp only [List.length_cons]
   omega
  ·exact Nat.le_refl _
section
variable {G:Nat→Option (List D)}
theorem orI_m:Spec Tryz.prog G 215 [.c (.sl 2 [.v (.int .i64 0),.v (.int .i64 0)])] (.one (iD 0)):=by
 unfold iD
 refine spec_of Tryz.func215 rfl rfl rfl (by kernel_rfl) rfl fun K=>?_
 (repeat' (first|with_reducible (first|refine zA fun Kn hK=>?_|refine zU ?_|refine Nx.go ?_|go_step)|with_reducible (first|refine zI ?_|refine zV ?_)|simp (maxSteps:=9^9) (disch:=omega) only [wq]|with_reducible refine zM (fun hb=>?_) (fun hb=>?_)<;>try simp only [hb]|with_reducible refine And.intro (by first|omega|(simp;done)|(simp;omega)) ?_|simp (maxSteps:=9^9) -implicitDefEqProofs only [go_sem,true_and]))
 refine sound_loopR (fun x:{k:Nat // k≤2}=>⟨[(0,vD (.sl 2 [.v (.int .i64 0),.v (.int .i64 0)])),(3,vI 0),(6,vD (.sl 2 [.v (.int .i64 0),.v (.int .i64 0)])),(7,vI 2),(8,vI x.1)],[]⟩) (fun x=>2-x.1) ⟨0,by omega⟩ [] (by (iterate 2 ((try simp (maxSteps:=9^9) -implicitDefEqProofs only [go_sem,true_and]);(try simp (maxSteps:=9^9) (disch:=omega) only [wq])));try simp) (fun ⟨k,hk⟩=>?_)
 by_cases h:k<2
 ·have h1:decide ((k:Int)<2)=true:=decide_eq_true (by omega)
  have hg:([.v (.int .i64 0),.v (.int .i64 0)]:List D)[k]?=some (.v (.int .i64 0)):=by
   match k,h with
   | 0,_=>rfl
   | 1,_=>rfl
  (repeat' (first|with_reducible (first|refine zA fun Kn hK=>?_|refine zU ?_|refine Nx.go ?_|go_step)|with_reducible (first|refine zI ?_|refine zV ?_)|simp (maxSteps:=9^9) (disch:=omega) only [wq]|with_reducible refine zM (fun hb=>?_) (fun hb=>?_)<;>try simp only [hb]|with_reducible refine And.intro (by first|omega|(simp;done)|(simp;omega)) ?_|simp (maxSteps:=9^9) -implicitDefEqProofs only [go_sem,h1,hg,bne]))
  refine ⟨[],⟨k+1,by omega⟩,?_⟩
  (iterate 2 ((try simp (maxSteps:=9^9) -implicitDefEqProofs only [go_sem,true_and]);(try simp (maxSteps:=9^9) (disch:=omega) only [wq])))
  try (simp only [ijq,true_and,and_true];first|done|omega|(split<;>omega)|(simp;done)|(simp;omega))
  try omega
 ·have h1:decide ((k:Int)<2)=false:=decide_eq_false (by omega)
  (repeat' (first|with_reducible (first|refine zA fun Kn hK=>?_|refine zU ?_|refine Nx.go ?_|go_step)|with_reducible (first|refine zI ?_|refine zV ?_)|simp (maxSteps:=9^9) (disch:=omega) only [wq]|with_reducible refine zM (fun hb=>?_) (fun hb=>?_)<;>try simp only [hb]|with_reducible refine And.intro (by first|omega|(simp;done)|(simp;omega)) ?_|simp (maxSteps:=9^9) -implicitDefEqProofs only [go_sem,h1]))
  try rfl
theorem trimB_m (b:List UInt8) (hn:b.length≤1000000000):Spec Tryz.prog G 227 [.c (.sl b.length (b.map bD)),.c (.v (.int .u8 0))] (.one (.c (.sl (bareL b).length ((bareL b).map bD)))):=by
 obtain ⟨R,hR⟩: ∃ R,bareL b=R:=⟨_,rfl⟩
 rw [hR]
 refine spec_of Tryz.func227 rfl rfl rfl (by kernel_rfl) rfl fun K=>?_
 (repeat' (first|with_reducible (first|refine zA fun Kn hK=>?_|refine zU ?_|refine Nx.go ?_|go_step)|with_reducible (first|refine zI ?_|refine zV ?_)|simp (maxSteps:=9^9) (disch:=omega) only [wq]|with_reducible refine zM (fun hb=>?_) (fun hb=>?_)<;>try simp only [hb]|with_reducible refine And.intro (by first|omega|(simp;done)|(simp;omega)) ?_|simp (maxSteps:=9^9) -implicitDefEqProofs only [go_sem,true_and]))
 refine sound_loopR (fun x:{l:List UInt8 // bareL l=R∧l.length≤b.length}=>⟨[(0,vD (.sl x.1.length (x.1.map bD))),(1,vD (.v (.int .u8 0)))],[]⟩) (fun x=>x.1.length) ⟨b,hR,Nat.le_refl _⟩ [] (by (iterate 2 ((try simp (maxSteps:=9^9) -implicitDefEqProofs only [go_sem,true_and]);(try simp (maxSteps:=9^9) (disch:=omega) only [wq])));try simp) (fun ⟨l,hl,hle⟩=>?_)
 cases l with
 | nil =>
  have hl':R=[]:=hl.symm
  have h1:decide (((0:Nat):Int)>0)=false:=rfl
  have h2:(((0:Nat):Int)==0)=true:=rfl
  subst hl'
  (repeat' (first|with_reducible (first|refine zA fun Kn hK=>?_|refine zU ?_|refine Nx.go ?_|go_step)|with_reducible (first|refine zI ?_|refine zV ?_)|simp (maxSteps:=9^9) (disch:=omega) only [wq]|with_reducible refine zM (fun hb=>?_) (fun hb=>?_)<;>try simp only [hb]|with_reducible refine And.intro (by first|omega|(simp;done)|(simp;omega)) ?_|simp (maxSteps:=9^9) -implicitDefEqProofs only [go_sem,List.length_nil,h1,h2]))
  try rfl
 | cons x l =>
  have hlc:(x::l).length=l.length+1:=rfl
  rw [hlc] at hle
  have h1:decide (((l.length+1:Nat):Int)>0)=true:=decide_eq_true (by omega)
  have h0:(0:Int)<((l.length+1:Nat):Int):=by omega
  have hx:((x.toNat:Int)==0)=decide (x=0):=by
   rw [Bool.eq_iff_iff]
   simp only [beq_iff_eq,decide_eq_true_eq,← UInt8.toNat_inj,UInt8.toNat_ofNat]
   omega
  have h2:(((l.length+1:Nat):Int)==0)=false:=by rw [beq_eq_false_iff_ne];omega
  have hm:(x::l).map bD=bD x::l.map bD:=rfl
  have ht:(l.map bD).take l.length=l.map bD:=List.take_of_length_le (by rw [List.length_map];omega)
  by_cases c:x=0
  ·rw [decide_eq_true c] at hx
   have hl2:bareL l=R:=by rw [← hl,bareL,if_pos c]
   (repeat' (first|with_reducible (first|refine zA fun Kn hK=>?_|refine zU ?_|refine Nx.go ?_|go_step)|with_reducible (first|refine zI ?_|refine zV ?_)|simp (maxSteps:=9^9) (disch:=omega) only [wq]|with_reducible refine zM (fun hb=>?_) (fun hb=>?_)<;>try simp only [hb]|with_reducible refine And.intro (by first|omega|(simp;done)|(simp;omega)) ?_|simp (maxSteps:=9^9) -implicitDefEqProofs only [go_sem,decide_true,hlc,h1,h0,hx,hm,ht,bD,Nat.add_sub_cancel]))
   refine ⟨[],⟨l,hl2,by omega⟩,?_⟩
   (iterate 2 ((try simp (maxSteps:=9^9) -implicitDefEqProofs only [go_sem,true_and]);(try simp (maxSteps:=9^9) (disch:=omega) only [wq])))
   try (simp only [ijq,true_and,and_true];first|done|omega|(split<;>omega)|(simp;done)|(simp;omega))
   try omega
  ·rw [decide_eq_false c] at hx
   have hl2:bareL (x::l)=x::l:=by rw [bareL,if_neg c]
   (repeat' (first|with_reducible (first|refine zA fun Kn hK=>?_|refine zU ?_|refine Nx.go ?_|go_step)|with_reducible (first|refine zI ?_|refine zV ?_)|simp (maxSteps:=9^9) (disch:=omega) only [wq]|with_reducible refine zM (fun hb=>?_) (fun hb=>?_)<;>try simp only [hb]|with_reducible refine And.intro (by first|omega|(simp;done)|(simp;omega)) ?_|simp (maxSteps:=9^9) -implicitDefEqProofs only [go_sem,decide_true,hlc,h1,h0,hx,hm,h2,bD]))
   rw [← hl,hl2]
   rfl
end
section
variable {G:Nat→Option (List D)}
theorem trim_m (b:List UInt8) (hn:b.length≤1000000000):Spec Tryz.prog G 214 [.c (.sl b.length (b.map bD)),.c (.v (.string ⟨#[0]⟩))] (.one (.c (.sl (bareL b).length ((bareL b).map bD)))):=by
 have T:=trimB_m (G:=G) b hn
 cases b with
 | nil =>
  have h2:(((0:Nat):Int)==0)=true:=rfl
  refine spec_of Tryz.func214 rfl rfl rfl (by kernel_rfl) rfl fun K=>?_
  (repeat' (first|with_reducible (first|refine zA fun Kn hK=>?_|refine zU ?_|refine Nx.go ?_|go_step)|with_reducible (first|refine zI ?_|refine zV ?_)|simp (maxSteps:=9^9) (disch:=omega) only [wq]|with_reducible refine zM (fun hb=>?_) (fun hb=>?_)<;>try simp only [hb]|with_reducible refine And.intro (by first|omega|(simp;done)|(simp;omega)) ?_|simp (maxSteps:=9^9) -implicitDefEqProofs only [go_sem,List.length_nil,h2,decide_true]))
  all_goals try rfl
 | cons x l =>
  have h2:(((l.length+1:Nat):Int)==0)=false:=by rw [beq_eq_false_iff_ne];omega
  have hlc:(x::l).length=l.length+1:=rfl
  rw [hlc] at T ⊢
  generalize (x::l).map bD=L at *
  have s1:((⟨#[0]⟩:ByteArray)==⟨#[]⟩)=false:=by decide +kernel
  have s2:(⟨#[0]⟩:ByteArray).size=1:=rfl
  have s3:(([0]:List UInt8)==[])=false:=rfl
  have s4:(((1:Nat):Int)==1)=true:=rfl
  have s5:decide (((UInt8.toNat 0:Nat):Int)<128)=true:=by decide
  have s6:((UInt8.toNat 0:Nat):Int)=0:=by decide
  refine spec_of Tryz.func214 rfl rfl rfl (by kernel_rfl) rfl fun K=>?_
  (repeat' (first|with_reducible (first|refine zA fun Kn hK=>?_|refine zU ?_|refine Nx.go ?_|go_step)|refine ⟨_,T,?_⟩|with_reducible (first|refine zI ?_|refine zV ?_)|simp (maxSteps:=9^9) (disch:=omega) only [wq]|with_reducible refine zM (fun hb=>?_) (fun hb=>?_)<;>try simp only [hb]|with_reducible refine And.intro (by first|omega|(simp;done)|(simp;omega)) ?_|simp (maxSteps:=9^9) -implicitDefEqProofs only [go_sem,h2,s1,s2,s3,s4,s5,s6,decide_true]))
  all_goals try rfl
end
theorem bytes_back (b:List UInt8):Lib.bytesOf (b.map fun x=>(x.toNat:Int))=b:=by
 induction b with
 | nil=>rfl
 | cons x l ih =>
  simp only [Lib.bytesOf,List.map_cons,List.map_map] at ih ⊢
  rw [ih]
  simp
theorem run_bytes {P:Program} {w:World} {S:Nat→Prop} {A:Option Addr} {n c:Nat} {b:List UInt8} (h:Rep.u8.sl w S A n c b):(Extern.Bytes.bytesOf (.slice A n c)).run P w= .ok ⟨b.toArray⟩ w:=by
 have hl:=h.1
 cases A with
 | none =>
  cases b with
  | nil=>rfl
  | cons x l =>
   obtain ⟨_,_,_,_,hA,_⟩:=Rep.sl_at h (k:=0) (by simp at hl;omega)
   cases hA
 | some a =>
  have key:=Lib.run_loadBytesX (P:=P) w (b.map fun x=>(x.toNat:Int)) a .empty (fun j x hx=>by
   rw [List.getElem?_map,Option.map_eq_some_iff] at hx
   obtain ⟨y,hy,rfl⟩:=hx
   have hj:=(List.getElem?_eq_some_iff.1 hy).1
   obtain ⟨bb,o,z,es,hA,_,hz,hes,hc⟩:=Rep.sl_at h (k:=j) (by omega)
   obtain rfl:es=[.int .u8 (z.toNat:Int)]:=hes
   rw [hy] at hz
   injection hz with hz
   subst hz
   injection hA with hA
   subst hA
   have h1:=hc 0 _ rfl
   have e1:Rep.u8.size=1:=rfl
   rw [e1,Nat.mul_one,Nat.add_zero] at h1
   rw [Addr.add_lit]
   exact h1)
  rw [List.length_map,bytes_back] at key
  rw [show n=b.length by omega]
  show (Extern.Bytes.loadBytes a b.length .empty).run P w=_
  rw [key]
  congr 1
  apply ByteArray.ext
  show (#[]:Array UInt8)++b.toArray=b.toArray
  simp
theorem cmp_self (x:ByteArray):Extern.BytealgCompare.cmp x x=0:=by
 unfold Extern.BytealgCompare.cmp
 have h:((List.range (min x.size x.size)).find? fun i=>x[i]! != x[i]!)=none:=List.find?_eq_none.2 (by simp)
 rw [h]
 simp
theorem cmpB_m {G:Nat→Option (List D)} (b:List UInt8) (hn:b.length≤1000000000):Spec Tryz.prog G 203 [.c (.sl b.length (b.map bD)),.c (.sl b.length (b.map bD))] (.one (iD 0)):=by
 intro w S vs hS hT hA
 obtain ⟨hl,hc⟩:=hA
 match vs,hl with
 | [u, v],_ =>
  obtain ⟨A,c,rfl,hs⟩:=bytes_sl (hc 0 _ _ rfl rfl) rfl
  obtain ⟨A2,c2,rfl,hs2⟩:=bytes_sl (hc 1 _ _ rfl rfl) rfl
  have hx:(callFunc 220 #[.slice A b.length c,.slice A2 b.length c2]).run Tryz.prog w= .ok (.value (.int .i64 0)) w:=by
   rw [run_callFunc_extern Tryz.func220 (by kernel_rfl) (by kernel_rfl) (by kernel_rfl) (e:=Extern.BytealgCompare.compare) (by kernel_rfl)]
   have h0:(Extern.BytealgCompare.compare #[.slice A b.length c,.slice A2 b.length c2]).run Tryz.prog w= .ok (.int .i64 0) w:=by
    show Sem.run _ (do pure (goInt (Extern.BytealgCompare.cmp (← Extern.Bytes.bytesOf (.slice A b.length c)) (← Extern.Bytes.bytesOf (.slice A2 b.length c2))))) w=_
    simp only [Sem.run_bind,run_bytes hs,run_bytes hs2,Result.andThen_ok,cmp_self]
    rfl
   rw [h0]
   rfl
  clear hc hT hS hs hs2
  generalize b.length=n at *
  go_enter Tryz.func203,Tryz.ntmps203
  go_wp2
  go_ret
  exact ⟨Ev.refl _ _,_,rfl,RD.v (.int .i64 0) rfl⟩
section
variable {G:Nat→Option (List D)}
theorem alpha_m (b:List UInt8) (hn:b.length≤1000000000):Spec Tryz.prog G 192 [.c (.sl b.length (b.map bD)),.c (.sl b.length (b.map bD))] (.many [iD 0,.c (.v (.bool true))]):=by
 have h:=cmpB_m (G:=G) b hn
 generalize b.map bD=L at *
 generalize b.length=n at *
 unfold iD at *
 refine spec_of Tryz.func192 rfl rfl rfl (by kernel_rfl) rfl fun K=>?_
 (repeat' (first|with_reducible (first|refine zA fun Kn hK=>?_|refine zU ?_|refine Nx.go ?_|go_step)|refine ⟨_,h,?_⟩|with_reducible (first|refine zI ?_|refine zV ?_)|simp (maxSteps:=9^9) (disch:=omega) only [wq]|with_reducible refine zM (fun hb=>?_) (fun hb=>?_)<;>try simp only [hb]|with_reducible refine And.intro (by first|omega|(simp;done)|(simp;omega)) ?_|simp (maxSteps:=9^9) -implicitDefEqProofs only [go_sem,true_and]))
 try rfl
theorem binary_m (b:List UInt8) (hn:b.length≤1000000000):Spec Tryz.prog G 196 [.c (.sl b.length (b.map bD)),.c (.sl b.length (b.map bD))] (.many [iD 0,.c (.v (.bool true))]):=by
 have h1:=trim_m (G:=G) b hn
 have hb:(bareL b).length≤1000000000:=Nat.le_trans (bareL_le b) hn
 have h2:=cmpB_m (G:=G) (bareL b) hb
 have h3:=cmpI_m (G:=G) (bareL b).length
 have h4:=orI_m (G:=G)
 generalize (bareL b).map bD=L' at *
 generalize (bareL b).length=n' at *
 generalize b.map bD=L at *
 generalize b.length=n at *
 unfold iD at *
 have z0:((0:Nat):Int)=0:=rfl
 rw [z0] at h4
 refine spec_of Tryz.func196 rfl rfl rfl (by kernel_rfl) rfl fun K=>?_
 (repeat' (first|with_reducible (first|refine zA fun Kn hK=>?_|refine zU ?_|refine Nx.go ?_|go_step)|refine ⟨none,?_⟩|refine ⟨_,h1,?_⟩|refine ⟨_,h2,?_⟩|refine ⟨_,h3,?_⟩|refine ⟨_,h4,?_⟩|with_reducible (first|refine zI ?_|refine zV ?_)|simp (maxSteps:=9^9) (disch:=omega) only [wq]|with_reducible refine zM (fun hb=>?_) (fun hb=>?_)<;>try simp only [hb]|with_reducible refine And.intro (by first|omega|(simp;done)|(simp;omega)) ?_|simp (maxSteps:=9^9) -implicitDefEqProofs only [go_sem,z0]))
 try rfl
end
def ofD (o:UInt8):D:=
 if o=1 then fnV 192
 else if o=2 then .fn 204 [.ptr [fnV 194] 0]
 else if o=3 then .fn 212 [.ptr [fnV 139] 0]
 else if o=4 then fnV 196
 else if o=5 then .fn 212 [.ptr [fnV 120] 0]
 else .v .nilFunc
section
variable {G:Nat→Option (List D)}
theorem numF_m (f:FuncId):Spec Tryz.prog G 193 [.c (fnV f)] (.one (.c (.fn 204 [.ptr [fnV f] 0]))):=by
 unfold fnV
 refine spec_of Tryz.func193 rfl rfl rfl (by kernel_rfl) rfl fun K=>?_
 (repeat' (first|with_reducible (first|refine zA fun Kn hK=>?_|refine zU ?_|refine Nx.go ?_|go_step)|with_reducible (first|refine zI ?_|refine zV ?_)|simp (maxSteps:=9^9) (disch:=omega) only [wq]|with_reducible refine zM (fun hb=>?_) (fun hb=>?_)<;>try simp only [hb]|with_reducible refine And.intro (by first|omega|(simp;done)|(simp;omega)) ?_|simp (maxSteps:=9^9) -implicitDefEqProofs only [go_sem,true_and,List.mapM_cons,List.mapM_nil,Option.bind_eq_bind,Option.bind_some,Option.pure_def]))
theorem of_m (o:UInt8):Spec Tryz.prog G 185 [.c (bD o)] (.one (.c (ofD o))):=by
 have n2:=numF_m (G:=G) 194
 have n3:=numL_m (G:=G) 139
 have n5:=numL_m (G:=G) 120
 have eq: ∀ k:Nat,k<256→((o.toNat:Int)==(k:Int))=decide (o=UInt8.ofNat k):=fun k hk=>by
  rw [Bool.eq_iff_iff]
  simp only [beq_iff_eq,decide_eq_true_eq,← UInt8.toNat_inj,UInt8.toNat_ofNat']
  omega
 have e1:((o.toNat:Int)==1)=decide (o=1):=eq 1 (by decide)
 have e2:((o.toNat:Int)==2)=decide (o=2):=eq 2 (by decide)
 have e3:((o.toNat:Int)==3)=decide (o=3):=eq 3 (by decide)
 have e4:((o.toNat:Int)==4)=decide (o=4):=eq 4 (by decide)
 have e5:((o.toNat:Int)==5)=decide (o=5):=eq 5 (by decide)
 unfold fnV at n2 n3 n5
 unfold ofD fnV bD
 generalize hp1:decide (o=1)=p1 at *
 generalize hp2:decide (o=2)=p2 at *
 generalize hp3:decide (o=3)=p3 at *
 generalize hp4:decide (o=4)=p4 at *
 generalize hp5:decide (o=5)=p5 at *
 refine spec_of Tryz.func185 rfl rfl rfl (by kernel_rfl) rfl fun K=>?_
 (repeat' (first|with_reducible (first|refine zA fun Kn hK=>?_|refine zU ?_|refine Nx.go ?_|go_step)|refine ⟨_,n2,?_⟩|refine ⟨_,n3,?_⟩|refine ⟨_,n5,?_⟩|with_reducible (first|refine zI ?_|refine zV ?_)|simp (maxSteps:=9^9) (disch:=omega) only [wq]|with_reducible refine zM (fun hb=>?_) (fun hb=>?_)<;>try simp only [hb]|with_reducible refine And.intro (by first|omega|(simp;done)|(simp;omega)) ?_|simp (maxSteps:=9^9) -implicitDefEqProofs only [go_sem,e1,e2,e3,e4,e5]))
 all_goals simp_all
end
def fitB (c f:UInt8):Bool:=if f.toNat=48 then isDg c else decide (c.toNat=f.toNat)
def fitsB:List UInt8→List UInt8→Bool
 | [],[]=>true
 | c::l,f::m=>fitB c f&&fitsB l m
 | _,_=>false
theorem fitsB_len: ∀ {l m:List UInt8},fitsB l m=true→l.length=m.length
 | [],[],_=>rfl
 | c::l,f::m,h=>by
  rw [fitsB,Bool.and_eq_true] at h
  simp [fitsB_len h.2]
 | [],_::_,h=>by simp [fitsB] at h
 | _::_,[],h=>by simp [fitsB] at h
theorem fitsB_step {l m:List UInt8} {k:Nat} {x y:UInt8} (hx:l[k]?=some x) (hy:m[k]?=some y):fitsB (l.drop k) (m.drop k)=(fitB x y&&fitsB (l.drop (k+1)) (m.drop (k+1))):=by
 obtain ⟨h1,h2⟩:=List.getElem?_eq_some_iff.1 hx
 obtain ⟨h3,h4⟩:=List.getElem?_eq_some_iff.1 hy
 rw [List.drop_eq_getElem_cons h1,List.drop_eq_getElem_cons h3,h2,h4,fitsB]
theorem iterPos_w {w:World} {k:Nat} {s:ByteArray} {p:Nat} (h:w.heap[k]?=some (.stringIter s p)):w.iterPos k=p:=by simp [World.iterPos,h]
theorem fits_m {G:Nat→Option (List D)} (b f:List UInt8) (hn:b.length≤1000000000) (hf:f.length≤1000000) (ha: ∀ x∈f,x.toNat<128):Spec Tryz.prog G 138 [.c (bytesD b),.c (.v (.string ⟨f.toArray⟩))] (.one (.c (.v (.bool (fitsB b f))))):=by
 intro w S vs hS hT hA
 obtain ⟨hl,hc⟩:=hA
 match vs,hl with
 | [u, v], _ =>
  obtain ⟨A,c,rfl,hs⟩:=bytes_sl (hc 0 _ _ rfl rfl) rfl
  have hv:=hc 1 _ _ rfl rfl
  cases hv
  rename_i hv
  have hsz:(⟨f.toArray⟩:ByteArray).size=f.length:=str_size f
  have hget: ∀ k (h:k<(⟨f.toArray⟩:ByteArray).size),f[k]?=some ((⟨f.toArray⟩:ByteArray)[k]'h):=fun k h=>by
   rw [hsz] at h
   rw [List.getElem?_eq_getElem h]
   rfl
  have HSB:=Lib.hid hS
  have HF:=Lib.hid ha
  have HG:=Lib.hid hget
  have HSZ:=Lib.hid hsz
  obtain ⟨n,hbl⟩: ∃ n,n=b.length:=⟨_,rfl⟩
  rw [← hbl] at hs hn ⊢
  have HL:=Lib.hid hbl
  rw [← hsz] at hf
  clear hc hT hS ha hget hbl hsz
  generalize (⟨f.toArray⟩:ByteArray)=s at *
  by_cases hnm:n=s.size
  ·subst hnm
   have hb0:Below w.heap.size w (w.iter s 0):=(Below.refl _ w).alloc (Nat.le_refl _) _
   go_enter Tryz.func138,Tryz.ntmps138
   go_wp2
   go_loopw [5] (fun _ wr=> ∃ pos:Nat,pos≤s.size∧wr.heap[w.heap.size]?=some (.stringIter s pos)∧Below w.heap.size w wr∧Hid (fitsB b f=fitsB (b.drop pos) (f.drop pos))) (fun _ wr=>s.size-wr.iterPos w.heap.size)
   case atStart=>exact ⟨0,Nat.zero_le _,World.iter_heap w s 0,hb0,rfl⟩
   case round =>
    obtain ⟨pos,hps,hk,hB,HP⟩:=hrel
    have hpos:=iterPos_w hk
    by_cases hp:pos<s.size
    ·have hg:=HG.out pos hp
     have h128:=HF.out _ (List.mem_of_getElem? hg)
     have hnext: ∀ ty,(Instr.next (.pointer (some ⟨w.heap.size,0,none⟩)) true ty).run Tryz.prog wr=_:=fun ty=>Lib.run_next_ascii_at wr w.heap.size s pos ty hk hp h128
     have hk1:=Lib.iterAt_heap wr w.heap.size s pos (pos+1) hk
     have hB1:Below w.heap.size w (wr.iterAt w.heap.size s (pos+1)):=Lib.below_iterAt hB (by omega) s (pos+1)
     generalize wr.iterAt w.heap.size s (pos+1)=w1 at *
     obtain ⟨bb,o,x,es,rfl,hbb,hx,hes,hcc⟩:=Rep.sl_at (slKeepM hs hB1 HSB.out) hp
     obtain rfl:es=[.int .u8 (x.toNat:Int)]:=hes
     have hc0:=hcc 0 _ rfl
     have e1:Rep.u8.size=1:=rfl
     rw [e1,Nat.mul_one,Nat.add_zero] at hc0
     have hst:=fitsB_step hx hg
     have HX:=Lib.hid hst
     have hxl:=UInt8.toNat_lt x
     generalize hy:s[pos]=y at *
     have HT:Hid (fitB x y=if y.toNat=48 then isDg x else decide (x.toNat=y.toNat)):=rfl
     have HI:Hid (isDg x=decide (48≤x.toNat∧x.toNat≤57)):=rfl
     clear hg hx hst hcc
     go_wp2
     all_goals try simp only [Bool.not_eq_true',beq_eq_false_iff_ne,beq_iff_eq,ne_eq,Bool.not_eq_eq_eq_not,Bool.not_true,Bool.not_false,decide_eq_true_eq,decide_eq_false_iff_not,bne_iff_ne] at *
     all_goals first
      | (have hft:fitB x y=true:=by
           rw [HT.out]
           split
           ·rw [HI.out]
            exact decide_eq_true (by omega)
           ·exact decide_eq_true (by omega)
         refine ⟨⟨pos+1,by omega,hk1,hB1,?_⟩,?_⟩
         ·show _=_
          rw [HP.out,HX.out,hft,Bool.true_and]
         ·rw [iterPos_w hk1,hpos]
          omega)
      | (have hft:fitB x y=false:=by
           rw [HT.out]
           split
           ·rw [HI.out]
            exact decide_eq_false (by omega)
           ·exact decide_eq_false (by omega)
         have e:fitsB b f=false:=by rw [HP.out,HX.out,hft,Bool.false_and]
         go_ret
         exact ⟨⟨hB1.os,hB1.tape,hB1.output,hB1.size,fun k hk _=>hB1.block k hk⟩,.bool false,rfl,by show RD _ _ (.v (.bool (fitsB b f))) _;rw [e];exact .v _ rfl⟩)
    ·have hnext: ∀ ty,(Instr.next (.pointer (some ⟨w.heap.size,0,none⟩)) true ty).run Tryz.prog wr=_:=fun ty=>Lib.run_next_end_at wr w.heap.size s pos ty hk hp
     have e:fitsB b f=true:=by
      rw [HP.out,List.drop_of_length_le (by have:=HL.out;omega),List.drop_of_length_le (by have:=HSZ.out;omega)]
      rfl
     go_wp2
     go_ret
     exact ⟨⟨hB.os,hB.tape,hB.output,hB.size,fun k hk _=>hB.block k hk⟩,.bool true,rfl,by show RD _ _ (.v (.bool (fitsB b f))) _;rw [e];exact .v _ rfl⟩
  ·have e:fitsB b f=false:=by
    cases h:fitsB b f with
    | false=>rfl
    | true =>
     have:=fitsB_len h
     have:=HL.out
     have:=HSZ.out
     omega
   rw [e]
   have hz:((n:Int)==(s.size:Int))=false:=by rw [beq_eq_false_iff_ne];omega
   go_enter Tryz.func138,Tryz.ntmps138
   go_wp2
   go_ret
   exact ⟨Ev.refl _ _,.bool false,rfl,RD.v (.bool false) rfl⟩
def resO (o:Option Nat):DR:= .many [iD (o.getD 0),.c (.v (.bool o.isSome))]
def twoO (b:List UInt8) (i:Nat):Option Nat:=match b[i]?,b[i+1]? with
 | some x,some y=>if isDg x&&isDg y then some (10*(x.toNat-48)+(y.toNat-48)) else none
 | _,_=>none
section
variable {G:Nat→Option (List D)}
theorem two_m (b:List UInt8) (n i:Nat) (lb:b.length=n) (hn:n≤1000000000) (hi:i≤1000):Spec Tryz.prog G 169 [.c (.sl n (b.map bD)),iD i] (resO (twoO b i)):=by
 unfold resO iD
 have w1:IntKind.i64.wrap ((i:Int)+2)=(i:Int)+2:=IntWalk.i64_in _ (by omega)
 have w2:IntKind.i64.wrap ((i:Int)+1)=(i:Int)+1:=IntWalk.i64_in _ (by omega)
 have t1:((i:Int)+1).toNat=i+1:=by omega
 by_cases h:i+2≤n
 ·have h1 : decide ((i:Int)+2>(n:Int))=false:=decide_eq_false (by omega)
  obtain ⟨x,hx⟩: ∃ x,b[i]?=some x:=⟨_,List.getElem?_eq_getElem (by omega)⟩
  obtain ⟨y,hy⟩: ∃ y,b[i+1]?=some y:=⟨_,List.getElem?_eq_getElem (by omega)⟩
  have gx:(b.map bD)[i]?=some (bD x):=by rw [List.getElem?_map,hx];rfl
  have gy:(b.map bD)[i+1]?=some (bD y):=by rw [List.getElem?_map,hy];rfl
  have x1:=UInt8.toNat_lt x
  have y1:=UInt8.toNat_lt y
  have e:twoO b i=if isDg x&&isDg y then some (10*(x.toNat-48)+(y.toNat-48)) else none:=by simp only [twoO,hx,hy]
  rw [e]
  have ex:isDg x=(!decide ((x.toNat:Int)<48)&& !decide ((x.toNat:Int)>57)):=by rw [Bool.eq_iff_iff];simp [isDg];omega
  have ey:isDg y=(!decide ((y.toNat:Int)<48)&& !decide ((y.toNat:Int)>57)):=by rw [Bool.eq_iff_iff];simp [isDg];omega
  rw [ex,ey]
  by_cases a1:(x.toNat:Int)<48
  ·have f1:=decide_eq_true a1
   refine spec_of Tryz.func169 rfl rfl rfl (by kernel_rfl) rfl fun K=>?_
   (repeat' (first|with_reducible (first|refine zA fun Kn hK=>?_|refine zU ?_|refine Nx.go ?_|go_step)|with_reducible (first|refine zI ?_|refine zV ?_)|simp (maxSteps:=9^9) (disch:=omega) only [wq]|with_reducible refine zM (fun hb=>?_) (fun hb=>?_)<;>try simp only [hb]|with_reducible refine And.intro (by first|omega|(simp;done)|(simp;omega)) ?_|simp (maxSteps:=9^9) -implicitDefEqProofs only [go_sem,w1,w2,t1,h1,gx,gy,bD,f1,List.length_map,lb]))
   try rfl
  ·have f1:=decide_eq_false a1
   by_cases a2:(x.toNat:Int)>57
   ·have f2:=decide_eq_true a2
    refine spec_of Tryz.func169 rfl rfl rfl (by kernel_rfl) rfl fun K=>?_
    (repeat' (first|with_reducible (first|refine zA fun Kn hK=>?_|refine zU ?_|refine Nx.go ?_|go_step)|with_reducible (first|refine zI ?_|refine zV ?_)|simp (maxSteps:=9^9) (disch:=omega) only [wq]|with_reducible refine zM (fun hb=>?_) (fun hb=>?_)<;>try simp only [hb]|with_reducible refine And.intro (by first|omega|(simp;done)|(simp;omega)) ?_|simp (maxSteps:=9^9) -implicitDefEqProofs only [go_sem,w1,w2,t1,h1,gx,gy,bD,f1,f2,List.length_map,lb]))
    try rfl
   ·have f2:=decide_eq_false a2
    by_cases a3:(y.toNat:Int)<48
    ·have f3:=decide_eq_true a3
     refine spec_of Tryz.func169 rfl rfl rfl (by kernel_rfl) rfl fun K=>?_
     (repeat' (first|with_reducible (first|refine zA fun Kn hK=>?_|refine zU ?_|refine Nx.go ?_|go_step)|with_reducible (first|refine zI ?_|refine zV ?_)|simp (maxSteps:=9^9) (disch:=omega) only [wq]|with_reducible refine zM (fun hb=>?_) (fun hb=>?_)<;>try simp only [hb]|with_reducible refine And.intro (by first|omega|(simp;done)|(simp;omega)) ?_|simp (maxSteps:=9^9) -implicitDefEqProofs only [go_sem,w1,w2,t1,h1,gx,gy,bD,f1,f2,f3,List.length_map,lb]))
     try rfl
    ·have f3:=decide_eq_false a3
     by_cases a4:(y.toNat:Int)>57
     ·have f4:=decide_eq_true a4
      refine spec_of Tryz.func169 rfl rfl rfl (by kernel_rfl) rfl fun K=>?_
      (repeat' (first|with_reducible (first|refine zA fun Kn hK=>?_|refine zU ?_|refine Nx.go ?_|go_step)|with_reducible (first|refine zI ?_|refine zV ?_)|simp (maxSteps:=9^9) (disch:=omega) only [wq]|with_reducible refine zM (fun hb=>?_) (fun hb=>?_)<;>try simp only [hb]|with_reducible refine And.intro (by first|omega|(simp;done)|(simp;omega)) ?_|simp (maxSteps:=9^9) -implicitDefEqProofs only [go_sem,w1,w2,t1,h1,gx,gy,bD,f1,f2,f3,f4,List.length_map,lb]))
      try rfl
     ·have f4:=decide_eq_false a4
      have z1:(x.toNat:Int)-48=((x.toNat-48:Nat):Int):=by omega
      have z2:(y.toNat:Int)-48=((y.toNat-48:Nat):Int):=by omega
      rw [f1,f2,f3,f4]
      refine spec_of Tryz.func169 rfl rfl rfl (by kernel_rfl) rfl fun K=>?_
      (repeat' (first|with_reducible (first|refine zA fun Kn hK=>?_|refine zU ?_|refine Nx.go ?_|go_step)|with_reducible (first|refine zI ?_|refine zV ?_)|simp (maxSteps:=9^9) (disch:=omega) only [wq]|with_reducible refine zM (fun hb=>?_) (fun hb=>?_)<;>try simp only [hb]|with_reducible refine And.intro (by first|omega|(simp;done)|(simp;omega)) ?_|simp (maxSteps:=9^9) -implicitDefEqProofs only [go_sem,w1,w2,t1,h1,gx,gy,bD,f1,f2,f3,f4,z1,z2,List.length_map,lb]))
      try rfl
 ·have h1:decide ((i:Int)+2>(n:Int))=true:=decide_eq_true (by omega)
  have e:twoO b i=none:=by
   rw [twoO,List.getElem?_eq_none (by omega:b.length≤i+1)]
   split
   ·rename_i h;cases h
   ·rfl
  rw [e]
  refine spec_of Tryz.func169 rfl rfl rfl (by kernel_rfl) rfl fun K=>?_
  (repeat' (first|with_reducible (first|refine zA fun Kn hK=>?_|refine zU ?_|refine Nx.go ?_|go_step)|with_reducible (first|refine zI ?_|refine zV ?_)|simp (maxSteps:=9^9) (disch:=omega) only [wq]|with_reducible refine zM (fun hb=>?_) (fun hb=>?_)<;>try simp only [hb]|with_reducible refine And.intro (by first|omega|(simp;done)|(simp;omega)) ?_|simp (maxSteps:=9^9) -implicitDefEqProofs only [go_sem,w1,w2,t1,h1,List.length_map,lb]))
  try rfl
end
def clk3 (h m s:Nat):Option Nat:=if 23<h∨59<m∨59<s then none else some (3600*h+60*m+s)
def clockR (b:List UInt8):Option Nat:=
 if b.length=8∧b[2]?=some 58∧b[5]?=some 58 then (match twoO b 0,twoO b 3,twoO b 6 with
  | some h,some m,some s=>clk3 h m s
  | _,_,_=>none)
 else none
theorem twoO_lt {b:List UInt8} {i v:Nat} (h:twoO b i=some v):v≤99:=by
 unfold twoO at h
 split at h
 ·rename_i x y hx hy
  split at h
  ·rename_i hd
   rw [Bool.and_eq_true] at hd
   have h1:48≤x.toNat∧x.toNat≤57:=of_decide_eq_true hd.1
   have h2:48≤y.toNat∧y.toNat≤57:=of_decide_eq_true hd.2
   injection h with h
   omega
  ·cases h
 ·cases h
theorem ubeq (x:UInt8) (k:Nat) (hk:k<256):((x.toNat:Int)==(k:Int))=decide (x=UInt8.ofNat k):=by
 rw [Bool.eq_iff_iff]
 simp only [beq_iff_eq,decide_eq_true_eq,← UInt8.toNat_inj,UInt8.toNat_ofNat']
 omega
theorem cdf {l:List D} {n:Nat} (h:l.length=n):l.take n=l∧(l.map C.d).take n=l.map C.d∧(l.map C.d).drop n=[]:=
 ⟨List.take_of_length_le (by omega),List.take_of_length_le (by rw [List.length_map];omega),List.drop_of_length_le (by rw [List.length_map];omega)⟩
section
variable {G:Nat→Option (List D)}
theorem rclock_m (b:List UInt8) (n:Nat) (lb:b.length=n) (hn:n≤1000000000):Spec Tryz.prog G 162 [.c (.sl n (b.map bD))] (resO (clockR b)):=by
 have e8:((n:Int)==8)=decide (n=8):=nbeq n 8
 by_cases h8:n=8
 ·obtain ⟨x2, hx2⟩: ∃ x,b[2]?=some x:=⟨_,List.getElem?_eq_getElem (by omega)⟩
  obtain ⟨x5,hx5⟩: ∃ x,b[5]?=some x:=⟨_,List.getElem?_eq_getElem (by omega)⟩
  have g2:(b.map bD)[2]?=some (bD x2):=by rw [List.getElem?_map,hx2];rfl
  have g5:(b.map bD)[5]?=some (bD x5):=by rw [List.getElem?_map,hx5];rfl
  have e2:((x2.toNat:Int)==58)=decide (x2=58):=ubeq x2 58 (by decide)
  have e5:((x5.toNat:Int)==58)=decide (x5=58):=ubeq x5 58 (by decide)
  rw [decide_eq_true h8] at e8
  have b2:(2:Int)<(n:Int):=by omega
  have b5:(5:Int)<(n:Int):=by omega
  by_cases c:x2=58∧x5=58
  ·have T0 := two_m (G:=G) b n 0 lb hn (by omega)
   have T3:=two_m (G:=G) b n 3 lb hn (by omega)
   have T6:=two_m (G:=G) b n 6 lb hn (by omega)
   rw [decide_eq_true c.1] at e2
   rw [decide_eq_true c.2] at e5
   have e:clockR b=(match twoO b 0,twoO b 3,twoO b 6 with
    | some h,some m,some s=>clk3 h m s
    | _,_,_=>none):=by
    rw [clockR,if_pos ⟨by omega,by rw [hx2,c.1],by rw [hx5,c.2]⟩]
   rw [e]
   have l0:= @twoO_lt b 0
   have l3:= @twoO_lt b 3
   have l6:= @twoO_lt b 6
   generalize twoO b 0=o0 at *
   generalize twoO b 3=o3 at *
   generalize twoO b 6=o6 at *
   unfold resO iD at *
   rcases o0 with _|h
   ·refine spec_of Tryz.func162 rfl rfl rfl (by kernel_rfl) rfl fun K=>?_
    (repeat' (first|with_reducible (first|refine zA fun Kn hK=>?_|refine zU ?_|refine Nx.go ?_|go_step)|refine ⟨_,T0,?_⟩|refine ⟨_,T3,?_⟩|refine ⟨_,T6,?_⟩|with_reducible (first|refine zI ?_|refine zV ?_)|simp (maxSteps:=9^9) (disch:=omega) only [wq]|with_reducible refine zM (fun hb=>?_) (fun hb=>?_)<;>try simp only [hb]|with_reducible refine And.intro (by first|omega|(simp;done)|(simp;omega)) ?_|simp (maxSteps:=9^9) -implicitDefEqProofs only [go_sem,e8,bne,g2,g5,bD,e2,e5,b2,b5,List.length_map,lb]))
    try rfl
   ·have k0 := l0 rfl
    rcases o3 with _|m
    ·refine spec_of Tryz.func162 rfl rfl rfl (by kernel_rfl) rfl fun K=>?_
     (repeat' (first|with_reducible (first|refine zA fun Kn hK=>?_|refine zU ?_|refine Nx.go ?_|go_step)|refine ⟨_,T0,?_⟩|refine ⟨_,T3,?_⟩|refine ⟨_,T6,?_⟩|with_reducible (first|refine zI ?_|refine zV ?_)|simp (maxSteps:=9^9) (disch:=omega) only [wq]|with_reducible refine zM (fun hb=>?_) (fun hb=>?_)<;>try simp only [hb]|with_reducible refine And.intro (by first|omega|(simp;done)|(simp;omega)) ?_|simp (maxSteps:=9^9) -implicitDefEqProofs only [go_sem,e8,bne,g2,g5,bD,e2,e5,b2,b5,List.length_map,lb]))
     try rfl
    ·have k3:=l3 rfl
     rcases o6 with _|s
     ·refine spec_of Tryz.func162 rfl rfl rfl (by kernel_rfl) rfl fun K=>?_
      (repeat' (first|with_reducible (first|refine zA fun Kn hK=>?_|refine zU ?_|refine Nx.go ?_|go_step)|refine ⟨_,T0,?_⟩|refine ⟨_,T3,?_⟩|refine ⟨_,T6,?_⟩|with_reducible (first|refine zI ?_|refine zV ?_)|simp (maxSteps:=9^9) (disch:=omega) only [wq]|with_reducible refine zM (fun hb=>?_) (fun hb=>?_)<;>try simp only [hb]|with_reducible refine And.intro (by first|omega|(simp;done)|(simp;omega)) ?_|simp (maxSteps:=9^9) -implicitDefEqProofs only [go_sem,e8,bne,g2,g5,bD,e2,e5,b2,b5,List.length_map,lb]))
      try rfl
     ·have k6:=l6 rfl
      have f1:decide ((h:Int)>23)=decide (23<h):=by rw [decide_eq_decide];omega
      have f2:decide ((m:Int)>59)=decide (59<m):=by rw [decide_eq_decide];omega
      have f3:decide ((s:Int)>59)=decide (59<s):=by rw [decide_eq_decide];omega
      simp only [Option.getD_some,Option.isSome_some] at T0 T3 T6
      dsimp only [clk3]
      by_cases q:23<h∨59<m∨59<s
      ·rw [if_pos q]
       generalize hq1:decide (23<h)=q1 at *
       generalize hq2:decide (59<m)=q2 at *
       generalize hq3:decide (59<s)=q3 at *
       refine spec_of Tryz.func162 rfl rfl rfl (by kernel_rfl) rfl fun K=>?_
       (repeat' (first|with_reducible (first|refine zA fun Kn hK=>?_|refine zU ?_|refine Nx.go ?_|go_step)|refine ⟨_,T0,?_⟩|refine ⟨_,T3,?_⟩|refine ⟨_,T6,?_⟩|with_reducible (first|refine zI ?_|refine zV ?_)|simp (maxSteps:=9^9) (disch:=omega) only [wq]|with_reducible refine zM (fun hb=>?_) (fun hb=>?_)<;>try simp only [hb]|with_reducible refine And.intro (by first|omega|(simp;done)|(simp;omega)) ?_|simp (maxSteps:=9^9) -implicitDefEqProofs only [go_sem,e8,bne,g2,g5,bD,e2,e5,b2,b5,f1,f2,f3,List.length_map,lb]))
       all_goals first
        | rfl
        | (exfalso;simp_all;omega)
      ·rw [if_neg q]
       rw [decide_eq_false (show ¬ 23<h by omega)] at f1
       rw [decide_eq_false (show ¬ 59<m by omega)] at f2
       rw [decide_eq_false (show ¬ 59<s by omega)] at f3
       refine spec_of Tryz.func162 rfl rfl rfl (by kernel_rfl) rfl fun K=>?_
       (repeat' (first|with_reducible (first|refine zA fun Kn hK=>?_|refine zU ?_|refine Nx.go ?_|go_step)|refine ⟨_,T0,?_⟩|refine ⟨_,T3,?_⟩|refine ⟨_,T6,?_⟩|with_reducible (first|refine zI ?_|refine zV ?_)|simp (maxSteps:=9^9) (disch:=omega) only [wq]|with_reducible refine zM (fun hb=>?_) (fun hb=>?_)<;>try simp only [hb]|with_reducible refine And.intro (by first|omega|(simp;done)|(simp;omega)) ?_|simp (maxSteps:=9^9) -implicitDefEqProofs only [go_sem,e8,bne,g2,g5,bD,e2,e5,b2,b5,f1,f2,f3,List.length_map,lb]))
       try rfl
  ·have e:clockR b=none:=by
    rw [clockR,if_neg (fun h=>c ⟨by rw [hx2] at h;exact Option.some.inj h.2.1,by rw [hx5] at h;exact Option.some.inj h.2.2⟩)]
   rw [e]
   unfold resO iD
   generalize hq1:decide (x2=58)=q1 at *
   generalize hq2:decide (x5=58)=q2 at *
   refine spec_of Tryz.func162 rfl rfl rfl (by kernel_rfl) rfl fun K=>?_
   (repeat' (first|with_reducible (first|refine zA fun Kn hK=>?_|refine zU ?_|refine Nx.go ?_|go_step)|with_reducible (first|refine zI ?_|refine zV ?_)|simp (maxSteps:=9^9) (disch:=omega) only [wq]|with_reducible refine zM (fun hb=>?_) (fun hb=>?_)<;>try simp only [hb]|with_reducible refine And.intro (by first|omega|(simp;done)|(simp;omega)) ?_|simp (maxSteps:=9^9) -implicitDefEqProofs only [go_sem,e8,bne,g2,g5,bD,e2,e5,b2,b5,List.length_map,lb]))
   all_goals first
    | rfl
    | (exfalso;simp_all)
 ·have e:clockR b=none:=by rw [clockR,if_neg (fun h=>h8 (by omega))]
  rw [decide_eq_false h8] at e8
  rw [e]
  unfold resO iD
  refine spec_of Tryz.func162 rfl rfl rfl (by kernel_rfl) rfl fun K=>?_
  (repeat' (first|with_reducible (first|refine zA fun Kn hK=>?_|refine zU ?_|refine Nx.go ?_|go_step)|with_reducible (first|refine zI ?_|refine zV ?_)|simp (maxSteps:=9^9) (disch:=omega) only [wq]|with_reducible refine zM (fun hb=>?_) (fun hb=>?_)<;>try simp only [hb]|with_reducible refine And.intro (by first|omega|(simp;done)|(simp;omega)) ?_|simp (maxSteps:=9^9) -implicitDefEqProofs only [go_sem,e8,bne,List.length_map,lb]))
  try rfl
def monL:List Nat:=[31,28,31,30,31,30,31,31,30,31,30,31]
@[go_sem ↓ high] theorem aop_mon {sl:Nat→SV} {d:Option Nat} {ty:TypeId} {pos:String} {af:Array Edge} {gd:Option (Nat × Bool)} :
  aop Tryz.prog G (evl G sl) ⟨d,.buildSlice 210 12 ⟨[(0,Operand.const (Value.int IntKind.i64 31)),(1,Operand.const (Value.int IntKind.i64 28)),(2,Operand.const (Value.int IntKind.i64 31)),(3,Operand.const (Value.int IntKind.i64 30)),(4,Operand.const (Value.int IntKind.i64 31)),(5,Operand.const (Value.int IntKind.i64 30)),(6,Operand.const (Value.int IntKind.i64 31)),(7,Operand.const (Value.int IntKind.i64 31)),(8,Operand.const (Value.int IntKind.i64 30)),(9,Operand.const (Value.int IntKind.i64 31)),(10,Operand.const (Value.int IntKind.i64 30)),(11,Operand.const (Value.int IntKind.i64 31))]⟩,ty,pos,af,gd⟩= .need (true=true) (.need (tyok Tryz.prog 3=true∧12*szOf Tryz.prog 3≤16777216) (newQ d 3 ((monL.map fun x:Nat=>D.v (.int .i64 (x:Int))).map C.d) (fun d=> .row d (szOf Tryz.prog 3) 0 12 (.ex 12)))):=by
 rw [aop_buildSlice]
 kernel_rfl
theorem rdays_m (y m:Nat) (h1:1≤m) (h2:m≤12):Spec Tryz.prog G 170 [iD y,iD m] (.one (iD (daysN y m))):=by
 have t4:(y:Int).tmod 4=((y%4:Nat):Int):=tm y 4
 have t100:(y:Int).tmod 100=((y%100:Nat):Int):=tm y 100
 have t400:(y:Int).tmod 400=((y%400:Nat):Int):=tm y 400
 have e4:(((y%4:Nat):Int)==0)=decide (y%4=0):=nbeq _ 0
 have e100:(((y%100:Nat):Int)==0)=decide (y%100=0):=nbeq _ 0
 have e400:(((y%400:Nat):Int)==0)=decide (y%400=0):=nbeq _ 0
 have em:((m:Int)==2)=decide (m=2):=nbeq m 2
 have hq:longB y=(decide (y%4=0)&&(!decide (y%100=0)||decide (y%400=0))):=rfl
 have h44:decide (y%400=0)=true→decide (y%4=0)=true:=fun h=>decide_eq_true (by have:=of_decide_eq_true h;omega)
 have w1:IntKind.i64.wrap ((m:Int)-1)=(m:Int)-1:=IntWalk.i64_in _ (by omega)
 have w2:((m:Int)-1).toNat=m-1:=by omega
 have hl:monL.length=12:=rfl
 have hg: ∀ k,1≤k→k≤12→k≠2→monL[k-1]?=some (daysN y k):=by
  intro k a b c
  unfold daysN
  rw [if_neg c]
  match k,a,b,c with
  | 1,_,_,_=>rfl
  | 3,_,_,_=>rfl
  | 4,_,_,_=>rfl
  | 5,_,_,_=>rfl
  | 6,_,_,_=>rfl
  | 7,_,_,_=>rfl
  | 8,_,_,_=>rfl
  | 9,_,_,_=>rfl
  | 10,_,_,_=>rfl
  | 11,_,_,_=>rfl
  | 12,_,_,_=>rfl
 obtain ⟨c1,c2,c3⟩:=cdf (l:=monL.map fun x:Nat=>D.v (.int .i64 (x:Int))) (n:=12) rfl
 unfold iD
 by_cases c:m=2
 ·have hd:daysN y m=if longB y=true then 29 else 28:=by rw [daysN,if_pos c]
  have g2:monL[m-1]?=some 28:=by rw [c];rfl
  have gg:((monL.map fun x:Nat=>D.v (.int .i64 (x:Int))).map C.d)[m-1]?=some (C.d (.v (.int .i64 28))):=by rw [List.getElem?_map,List.getElem?_map,g2];rfl
  rw [decide_eq_true c] at em
  rw [hd,hq]
  generalize decide (y%4=0)=p at *
  generalize decide (y%100=0)=q at *
  generalize decide (y%400=0)=r at *
  refine spec_of Tryz.func170 rfl rfl rfl (by kernel_rfl) rfl fun K=>?_
  (repeat' (first|with_reducible (first|refine zA fun Kn hK=>?_|refine zU ?_|refine Nx.go ?_|go_step)|with_reducible (first|refine zI ?_|refine zV ?_)|simp (maxSteps:=9^9) (disch:=omega) only [wq]|with_reducible refine zM (fun hb=>?_) (fun hb=>?_)<;>try simp only [hb]|with_reducible refine And.intro (by first|omega|(simp;done)|(simp;omega)) ?_|simp (maxSteps:=9^9) -implicitDefEqProofs only [go_sem,t4,t100,t400,e4,e100,e400,em,bne,w1,w2,hl,c1,c2,c3,gg,List.length_map,List.append_nil]))
  all_goals simp_all
 ·rw [decide_eq_false c] at em
  have gg:((monL.map fun x:Nat=>D.v (.int .i64 (x:Int))).map C.d)[m-1]?=some (C.d (.v (.int .i64 (daysN y m)))):=by rw [List.getElem?_map,List.getElem?_map,hg m h1 h2 c];rfl
  refine spec_of Tryz.func170 rfl rfl rfl (by kernel_rfl) rfl fun K=>?_
  (repeat' (first|with_reducible (first|refine zA fun Kn hK=>?_|refine zU ?_|refine Nx.go ?_|go_step)|with_reducible (first|refine zI ?_|refine zV ?_)|simp (maxSteps:=9^9) (disch:=omega) only [wq]|with_reducible refine zM (fun hb=>?_) (fun hb=>?_)<;>try simp only [hb]|with_reducible refine And.intro (by first|omega|(simp;done)|(simp;omega)) ?_|simp (maxSteps:=9^9) -implicitDefEqProofs only [go_sem,t4,t100,t400,e4,e100,e400,em,bne,w1,w2,hl,c1,c2,c3,gg,List.length_map,List.append_nil]))
end
def sumY (a:Nat):Nat→Nat
 | 0=>0
 | j+1=>sumY a j+337+daysN (a+j) 2
def aheadR (y:Nat):Nat:=y/400*146097+sumY (y-y%400) (y%400)
theorem daysN_le (y m:Nat):daysN y m≤31:=by
 unfold daysN
 repeat' split
 all_goals omega
theorem sumY_le (a j:Nat):sumY a j≤368*j:=by
 induction j with
 | zero=>exact Nat.le_refl _
 | succ j ih =>
  have:=daysN_le (a+j) 2
  rw [sumY]
  omega
def sumD (y:Nat):Nat→Nat
 | 0=>0
 | j+1=>sumD y j+daysN y (j+1)
theorem sumD_le (y j:Nat):sumD y j≤31*j:=by
 induction j with
 | zero=>exact Nat.le_refl _
 | succ j ih =>
  have:=daysN_le y (j+1)
  rw [sumD]
  omega
def dayO (A y m d t:Nat):Option Nat:=if m<1∨12<m∨d<1∨daysN y m<d then none else some ((A+(d-1)+sumD y (m-1))*86400+t)
def dateR (b:List UInt8):Option Nat:=
 if b.length=19∧b[4]?=some 45∧b[7]?=some 45∧b[10]?=some 95 then (match twoO b 0,twoO b 2,twoO b 5,twoO b 8,clockR (b.drop 11) with
  | some c,some e,some m,some d,some t=>dayO (aheadR (100*c+e)) (100*c+e) m d t
  | _,_,_,_,_=>none)
 else none
theorem clockR_lt {b:List UInt8} {v:Nat} (h:clockR b=some v):v<86400:=by
 unfold clockR at h
 split at h
 ·split at h
  ·unfold clk3 at h
   split at h
   ·cases h
   ·injection h with h
    omega
  ·cases h
 ·cases h
section
variable {G:Nat→Option (List D)}
theorem rahead_m (y:Nat) (hy:y≤10000):Spec Tryz.prog G 171 [iD y] (.one (iD (aheadR y))):=by
 have q400:(y:Int).tdiv 400=((y/400:Nat):Int):=tq y 400
 have t400:(y:Int).tmod 400=((y%400:Nat):Int):=tm y 400
 have es:(y:Int)-((y%400:Nat):Int)=((y-y%400:Nat):Int):=by omega
 have hr:y%400<400:=Nat.mod_lt _ (by omega)
 unfold aheadR iD
 generalize ha:y-y%400=a at *
 generalize hm:y%400=r at *
 generalize hq:y/400=q at *
 have hq2:q≤25:=by omega
 refine spec_of Tryz.func171 rfl rfl rfl (by kernel_rfl) rfl fun K=>?_
 (repeat' (first|with_reducible (first|refine zA fun Kn hK=>?_|refine zU ?_|refine Nx.go ?_|go_step)|with_reducible (first|refine zI ?_|refine zV ?_)|simp (maxSteps:=9^9) (disch:=omega) only [wq]|with_reducible refine zM (fun hb=>?_) (fun hb=>?_)<;>try simp only [hb]|with_reducible refine And.intro (by first|omega|(simp;done)|(simp;omega)) ?_|simp (maxSteps:=9^9) -implicitDefEqProofs only [go_sem,q400,t400,es]))
 refine sound_loopR (fun x:{j:Nat // j≤r}=>⟨[(0,vI y),(3,vI ((q*146097+sumY a x.1:Nat):Int)),(4,vI ((a+x.1:Nat):Int))],[]⟩) (fun x=>r-x.1) ⟨0,by omega⟩ [] (by (iterate 2 ((try simp (maxSteps:=9^9) -implicitDefEqProofs only [go_sem,true_and]);(try simp (maxSteps:=9^9) (disch:=omega) only [wq])));try simp [sumY]) (fun ⟨j,hj⟩=>?_)
 have hs:=sumY_le a j
 by_cases h:j<r
 ·have h1:decide (((a+j:Nat):Int)<(y:Int))=true:=decide_eq_true (by omega)
  have hd:=daysN_le (a+j) 2
  have D2:=rdays_m (G:=G) (a+j) 2 (by omega) (by omega)
  unfold iD at D2
  (repeat' (first|with_reducible (first|refine zA fun Kn hK=>?_|refine zU ?_|refine Nx.go ?_|go_step)|refine ⟨_,D2,?_⟩|with_reducible (first|refine zI ?_|refine zV ?_)|simp (maxSteps:=9^9) (disch:=omega) only [wq]|with_reducible refine zM (fun hb=>?_) (fun hb=>?_)<;>try simp only [hb]|with_reducible refine And.intro (by first|omega|(simp;done)|(simp;omega)) ?_|simp (maxSteps:=9^9) -implicitDefEqProofs only [go_sem,h1]))
  refine ⟨[],⟨j+1,by omega⟩,?_⟩
  (iterate 2 ((try simp (maxSteps:=9^9) -implicitDefEqProofs only [go_sem,true_and,sumY]);(try simp (maxSteps:=9^9) (disch:=omega) only [wq])))
  try (simp only [ijq,true_and,and_true];first|done|omega|(split<;>omega)|(simp;done)|(simp;omega))
  try omega
 ·have h1:decide (((a+j:Nat):Int)<(y:Int))=false:=decide_eq_false (by omega)
  obtain rfl:j=r:=by omega
  (repeat' (first|with_reducible (first|refine zA fun Kn hK=>?_|refine zU ?_|refine Nx.go ?_|go_step)|with_reducible (first|refine zI ?_|refine zV ?_)|simp (maxSteps:=9^9) (disch:=omega) only [wq]|with_reducible refine zM (fun hb=>?_) (fun hb=>?_)<;>try simp only [hb]|with_reducible refine And.intro (by first|omega|(simp;done)|(simp;omega)) ?_|simp (maxSteps:=9^9) -implicitDefEqProofs only [go_sem,h1]))
theorem aheadR_le (y:Nat) (hy:y≤10000):aheadR y≤4000000:=by
 have:=sumY_le (y-y%400) (y%400)
 have h2:y%400<400:=Nat.mod_lt _ (by omega)
 unfold aheadR
 omega
theorem rget_m (b:List UInt8) (n:Nat) (lb:b.length=n) (hn:n≤1000000000):Spec Tryz.prog G 148 [.c (.sl n (b.map bD))] (resO (dateR b)):=by
 have e19:((n:Int)==19)=decide (n=19):=nbeq n 19
 by_cases h19:n=19
 ·obtain ⟨x4,hx4⟩: ∃ x,b[4]?=some x:=⟨_,List.getElem?_eq_getElem (by omega)⟩
  obtain ⟨x7,hx7⟩: ∃ x,b[7]?=some x:=⟨_,List.getElem?_eq_getElem (by omega)⟩
  obtain ⟨x10,hx10⟩: ∃ x,b[10]?=some x:=⟨_,List.getElem?_eq_getElem (by omega)⟩
  have g4:(b.map bD)[4]?=some (bD x4):=by rw [List.getElem?_map,hx4];rfl
  have g7:(b.map bD)[7]?=some (bD x7):=by rw [List.getElem?_map,hx7];rfl
  have g10:(b.map bD)[10]?=some (bD x10):=by rw [List.getElem?_map,hx10];rfl
  have e4:((x4.toNat:Int)==45)=decide (x4=45):=ubeq x4 45 (by decide)
  have e7:((x7.toNat:Int)==45)=decide (x7=45):=ubeq x7 45 (by decide)
  have e10:((x10.toNat:Int)==95)=decide (x10=95):=ubeq x10 95 (by decide)
  rw [decide_eq_true h19] at e19
  have b4:(4:Int)<(n:Int):=by omega
  have b7:(7:Int)<(n:Int):=by omega
  have b10:(10:Int)<(n:Int):=by omega
  by_cases c:x4=45∧x7=45∧x10=95
  ·have T0 := two_m (G:=G) b n 0 lb hn (by omega)
   have T2:=two_m (G:=G) b n 2 lb hn (by omega)
   have T5:=two_m (G:=G) b n 5 lb hn (by omega)
   have T8:=two_m (G:=G) b n 8 lb hn (by omega)
   have TC:=rclock_m (G:=G) (b.drop 11) (n-11) (by rw [List.length_drop,lb]) (by omega)
   have hdr:(b.map bD).drop 11=(b.drop 11).map bD:=List.map_drop.symm
   have htk:((b.drop 11).map bD).take (n-11)=(b.drop 11).map bD:=List.take_of_length_le (by rw [List.length_map,List.length_drop];omega)
   rw [decide_eq_true c.1] at e4
   rw [decide_eq_true c.2.1] at e7
   rw [decide_eq_true c.2.2] at e10
   have e:dateR b=(match twoO b 0,twoO b 2,twoO b 5,twoO b 8,clockR (b.drop 11) with
    | some c,some e,some m,some d,some t=>dayO (aheadR (100*c+e)) (100*c+e) m d t
    | _,_,_,_,_=>none):=by
    rw [dateR,if_pos ⟨by omega,by rw [hx4,c.1],by rw [hx7,c.2.1],by rw [hx10,c.2.2]⟩]
   rw [e]
   have l0:= @twoO_lt b 0
   have l2:= @twoO_lt b 2
   have l5:= @twoO_lt b 5
   have l8:= @twoO_lt b 8
   have lc:= @clockR_lt (b.drop 11)
   generalize twoO b 0=o0 at *
   generalize twoO b 2=o2 at *
   generalize twoO b 5=o5 at *
   generalize twoO b 8=o8 at *
   generalize clockR (b.drop 11)=oc at *
   generalize (b.drop 11).map bD=L at *
   unfold resO iD at *
   rcases o0 with _|c0
   rotate_left
   rcases o2 with _|c2
   rotate_left
   rcases o5 with _|m
   rotate_left
   rcases o8 with _|d
   rotate_left
   rcases oc with _|t
   rotate_left
   ·have k0:=l0 rfl
    have k2:=l2 rfl
    have k5:=l5 rfl
    have k8:=l8 rfl
    have kc:=lc rfl
    simp only [Option.getD_some,Option.isSome_some] at T0 T2 T5 T8 TC
    dsimp only
    have f1:decide ((m:Int)<1)=decide (m<1):=by rw [decide_eq_decide];omega
    have f2:decide ((m:Int)>12)=decide (12<m):=by rw [decide_eq_decide];omega
    by_cases q:m<1∨12<m
    ·rw [dayO,if_pos (by omega)]
     generalize hq1:decide (m<1)=q1 at *
     generalize hq2:decide (12<m)=q2 at *
     refine spec_of Tryz.func148 rfl rfl rfl (by kernel_rfl) rfl fun K=>?_
     (repeat' (first|with_reducible (first|refine zA fun Kn hK=>?_|refine zU ?_|refine Nx.go ?_|go_step)|refine ⟨_,T0,?_⟩|refine ⟨_,T2,?_⟩|refine ⟨_,T5,?_⟩|refine ⟨_,T8,?_⟩|refine ⟨_,TC,?_⟩|with_reducible (first|refine zI ?_|refine zV ?_)|simp (maxSteps:=9^9) (disch:=omega) only [wq]|with_reducible refine zM (fun hb=>?_) (fun hb=>?_)<;>try simp only [hb]|with_reducible refine And.intro (by first|omega|(simp;done)|(simp;omega)) ?_|simp (maxSteps:=9^9) -implicitDefEqProofs only [go_sem,e19,bne,g4,g7,g10,bD,e4,e7,e10,b4,b7,b10,hdr,htk,List.length_map,lb,f1,f2]))
     all_goals first
      | rfl
      | (exfalso;simp_all;omega)
    ·rw [decide_eq_false (show ¬ m<1 by omega)] at f1
     rw [decide_eq_false (show ¬ 12<m by omega)] at f2
     have hy:100*(c0:Int)+(c2:Int)=((100*c0+c2:Nat):Int):=by omega
     generalize hy2:100*c0+c2=y at *
     have hyl:y≤9999:=by omega
     have DD:=rdays_m (G:=G) y m (by omega) (by omega)
     have AH:=rahead_m (G:=G) y (by omega)
     have hA:=aheadR_le y (by omega)
     generalize aheadR y=A at *
     have hD:=daysN_le y m
     unfold iD at DD AH
     have f3:decide ((d:Int)<1)=decide (d<1):=by rw [decide_eq_decide];omega
     have f4:decide ((d:Int)>(daysN y m:Int))=decide (daysN y m<d):=by rw [decide_eq_decide];omega
     by_cases q':d<1∨daysN y m<d
     ·rw [dayO,if_pos (by omega)]
      generalize hq1:decide (d<1)=q1 at *
      generalize hq2:decide (daysN y m<d)=q2 at *
      refine spec_of Tryz.func148 rfl rfl rfl (by kernel_rfl) rfl fun K=>?_
      (repeat' (first|with_reducible (first|refine zA fun Kn hK=>?_|refine zU ?_|refine Nx.go ?_|go_step)|refine ⟨_,T0,?_⟩|refine ⟨_,T2,?_⟩|refine ⟨_,T5,?_⟩|refine ⟨_,T8,?_⟩|refine ⟨_,TC,?_⟩|refine ⟨_,DD,?_⟩|with_reducible (first|refine zI ?_|refine zV ?_)|simp (maxSteps:=9^9) (disch:=omega) only [wq]|with_reducible refine zM (fun hb=>?_) (fun hb=>?_)<;>try simp only [hb]|with_reducible refine And.intro (by first|omega|(simp;done)|(simp;omega)) ?_|simp (maxSteps:=9^9) -implicitDefEqProofs only [go_sem,e19,bne,g4,g7,g10,bD,e4,e7,e10,b4,b7,b10,hdr,htk,List.length_map,lb,f1,f2,f3,f4,hy]))
      all_goals first
       | rfl
       | (exfalso;simp_all;omega)
     ·rw [dayO,if_neg (by omega)]
      rw [decide_eq_false (show ¬ d<1 by omega)] at f3
      rw [decide_eq_false (show ¬ daysN y m<d by omega)] at f4
      refine spec_of Tryz.func148 rfl rfl rfl (by kernel_rfl) rfl fun K=>?_
      (repeat' (first|with_reducible (first|refine zA fun Kn hK=>?_|refine zU ?_|refine Nx.go ?_|go_step)|refine ⟨_,T0,?_⟩|refine ⟨_,T2,?_⟩|refine ⟨_,T5,?_⟩|refine ⟨_,T8,?_⟩|refine ⟨_,TC,?_⟩|refine ⟨_,DD,?_⟩|refine ⟨_,AH,?_⟩|with_reducible (first|refine zI ?_|refine zV ?_)|simp (maxSteps:=9^9) (disch:=omega) only [wq]|with_reducible refine zM (fun hb=>?_) (fun hb=>?_)<;>try simp only [hb]|with_reducible refine And.intro (by first|omega|(simp;done)|(simp;omega)) ?_|simp (maxSteps:=9^9) -implicitDefEqProofs only [go_sem,e19,bne,g4,g7,g10,bD,e4,e7,e10,b4,b7,b10,hdr,htk,List.length_map,lb,f1,f2,f3,f4,hy]))
      refine sound_loopR (fun x:{j:Nat // j<m}=>⟨[(8,vI m),(12,vI t),(14,vI y),(15,vI ((A+(d-1)+sumD y x.1:Nat):Int)),(16,vI ((x.1+1:Nat):Int))],[]⟩) (fun x=>m-x.1) ⟨0,by omega⟩ [] (by (iterate 2 ((try simp (maxSteps:=9^9) -implicitDefEqProofs only [go_sem,true_and]);(try simp (maxSteps:=9^9) (disch:=omega) only [wq])));try simp [sumD];try omega) (fun ⟨j,hj⟩=>?_)
      have hs:=sumD_le y j
      by_cases h:j+1<m
      ·have h1:decide (((j+1:Nat):Int)<(m:Int))=true:=decide_eq_true (by omega)
       have hd:=daysN_le y (j+1)
       have D2:=rdays_m (G:=G) y (j+1) (by omega) (by omega)
       unfold iD at D2
       (repeat' (first|with_reducible (first|refine zA fun Kn hK=>?_|refine zU ?_|refine Nx.go ?_|go_step)|refine ⟨_,D2,?_⟩|with_reducible (first|refine zI ?_|refine zV ?_)|simp (maxSteps:=9^9) (disch:=omega) only [wq]|with_reducible refine zM (fun hb=>?_) (fun hb=>?_)<;>try simp only [hb]|with_reducible refine And.intro (by first|omega|(simp;done)|(simp;omega)) ?_|simp (maxSteps:=9^9) -implicitDefEqProofs only [go_sem,h1]))
       refine ⟨[],⟨j+1,by omega⟩,?_⟩
       (iterate 2 ((try simp (maxSteps:=9^9) -implicitDefEqProofs only [go_sem,true_and,sumD]);(try simp (maxSteps:=9^9) (disch:=omega) only [wq])))
       try (simp only [ijq,true_and,and_true];first|done|omega|(split<;>omega)|(simp;done)|(simp;omega))
       try omega
      ·have h1:decide (((j+1:Nat):Int)<(m:Int))=false:=decide_eq_false (by omega)
       obtain rfl:m=j+1:=by omega
       (repeat' (first|with_reducible (first|refine zA fun Kn hK=>?_|refine zU ?_|refine Nx.go ?_|go_step)|with_reducible (first|refine zI ?_|refine zV ?_)|simp (maxSteps:=9^9) (disch:=omega) only [wq]|with_reducible refine zM (fun hb=>?_) (fun hb=>?_)<;>try simp only [hb]|with_reducible refine And.intro (by first|omega|(simp;done)|(simp;omega)) ?_|simp (maxSteps:=9^9) -implicitDefEqProofs only [go_sem,h1]))
       try rfl
   all_goals
    refine spec_of Tryz.func148 rfl rfl rfl (by kernel_rfl) rfl fun K=>?_
    (repeat' (first|with_reducible (first|refine zA fun Kn hK=>?_|refine zU ?_|refine Nx.go ?_|go_step)|refine ⟨_,T0,?_⟩|refine ⟨_,T2,?_⟩|refine ⟨_,T5,?_⟩|refine ⟨_,T8,?_⟩|refine ⟨_,TC,?_⟩|with_reducible (first|refine zI ?_|refine zV ?_)|simp (maxSteps:=9^9) (disch:=omega) only [wq]|with_reducible refine zM (fun hb=>?_) (fun hb=>?_)<;>try simp only [hb]|with_reducible refine And.intro (by first|omega|(simp;done)|(simp;omega)) ?_|simp (maxSteps:=9^9) -implicitDefEqProofs only [go_sem,e19,bne,g4,g7,g10,bD,e4,e7,e10,b4,b7,b10,hdr,htk,List.length_map,lb]))
    try rfl
  ·have e:dateR b=none:=by
    rw [dateR,if_neg (fun h=>c ⟨by rw [hx4] at h;exact Option.some.inj h.2.1,by rw [hx7] at h;exact Option.some.inj h.2.2.1,by rw [hx10] at h;exact Option.some.inj h.2.2.2⟩)]
   rw [e]
   unfold resO iD
   generalize hq1:decide (x4=45)=q1 at *
   generalize hq2:decide (x7=45)=q2 at *
   generalize hq3:decide (x10=95)=q3 at *
   refine spec_of Tryz.func148 rfl rfl rfl (by kernel_rfl) rfl fun K=>?_
   (repeat' (first|with_reducible (first|refine zA fun Kn hK=>?_|refine zU ?_|refine Nx.go ?_|go_step)|with_reducible (first|refine zI ?_|refine zV ?_)|simp (maxSteps:=9^9) (disch:=omega) only [wq]|with_reducible refine zM (fun hb=>?_) (fun hb=>?_)<;>try simp only [hb]|with_reducible refine And.intro (by first|omega|(simp;done)|(simp;omega)) ?_|simp (maxSteps:=9^9) -implicitDefEqProofs only [go_sem,e19,bne,g4,g7,g10,bD,e4,e7,e10,b4,b7,b10,List.length_map,lb]))
   all_goals first
    | rfl
    | (exfalso;simp_all)
 ·have e:dateR b=none:=by rw [dateR,if_neg (fun h=>h19 (by omega))]
  rw [decide_eq_false h19] at e19
  rw [e]
  unfold resO iD
  refine spec_of Tryz.func148 rfl rfl rfl (by kernel_rfl) rfl fun K=>?_
  (repeat' (first|with_reducible (first|refine zA fun Kn hK=>?_|refine zU ?_|refine Nx.go ?_|go_step)|with_reducible (first|refine zI ?_|refine zV ?_)|simp (maxSteps:=9^9) (disch:=omega) only [wq]|with_reducible refine zM (fun hb=>?_) (fun hb=>?_)<;>try simp only [hb]|with_reducible refine And.intro (by first|omega|(simp;done)|(simp;omega)) ?_|simp (maxSteps:=9^9) -implicitDefEqProofs only [go_sem,e19,bne,List.length_map,lb]))
  try rfl
end
def clkF:List UInt8:=[48,48,58,48,48,58,48,48]
def datF:List UInt8:=[48,48,48,48,45,48,48,45,48,48,95,48,48,58,48,48,58,48,48]
def clockP (b:List UInt8):Option Nat:=if fitsB b clkF=true then clk3 (numV (b.take 2)) (numV ((b.drop 3).take 2)) (numV (b.drop 6)) else none
theorem fits_at: ∀ {l m:List UInt8},fitsB l m=true→ ∀ (k:Nat) x y,l[k]?=some x→m[k]?=some y→fitB x y=true
 | [],_,_,k,x,y,hx,_=>by simp at hx
 | _::_,[],h,_,_,_,_,_=>by simp [fitsB] at h
 | c::l,f::m,h,0,x,y,hx,hy=>by
  rw [fitsB,Bool.and_eq_true] at h
  simp at hx hy
  rw [← hx,← hy]
  exact h.1
 | c::l,f::m,h,k+1,x,y,hx,hy=>by
  rw [fitsB,Bool.and_eq_true] at h
  exact fits_at h.2 k x y (by simpa using hx) (by simpa using hy)
theorem fits_dg {l m:List UInt8} (h:fitsB l m=true) {i j:Nat} (hm: ∀ k,i≤k→k<i+j→m[k]?=some 48): ∀ c∈(l.drop i).take j,isDg c=true:=by
 intro c hc
 obtain ⟨k,hk⟩:=List.getElem?_of_mem hc
 have hkj:k<j:=by
  have:=(List.getElem?_eq_some_iff.1 hk).1
  rw [List.length_take] at this
  omega
 rw [List.getElem?_take_of_lt hkj,List.getElem?_drop] at hk
 have:=fits_at h (i+k) c 48 hk (hm _ (by omega) (by omega))
 exact this
section
variable {G:Nat→Option (List D)}
theorem clock_m (b:List UInt8) (n:Nat) (lb:b.length=n) (hn:n≤1000000000):Spec Tryz.prog G 139 [.c (.sl n (b.map bD))] (resO (clockP b)):=by
 have hF:=fits_m (G:=G) b clkF (by omega) (by decide) (by decide)
 have hstr:ByteArray.extract ⟨#[48,48,48,48,45,48,48,45,48,48,95,48,48,58,48,48,58,48,48]⟩ 11 19=⟨clkF.toArray⟩:=by decide +kernel
 rw [bytesD,lb] at hF
 cases h:fitsB b clkF with
 | false =>
  have e:clockP b=none:=by rw [clockP,if_neg (by rw [h];decide)]
  rw [h] at hF
  rw [e]
  unfold resO iD
  refine spec_of Tryz.func139 rfl rfl rfl (by kernel_rfl) rfl fun K=>?_
  (repeat' (first|with_reducible (first|refine zA fun Kn hK=>?_|refine zU ?_|refine Nx.go ?_|go_step)|refine ⟨_,hF,?_⟩|with_reducible (first|refine zI ?_|refine zV ?_)|simp (maxSteps:=9^9) (disch:=omega) only [wq]|with_reducible refine zM (fun hb=>?_) (fun hb=>?_)<;>try simp only [hb]|with_reducible refine And.intro (by first|omega|(simp;done)|(simp;omega)) ?_|simp (maxSteps:=9^9) -implicitDefEqProofs only [go_sem,hstr,List.length_map,lb]))
  try rfl
 | true =>
  have e:clockP b=clk3 (numV (b.take 2)) (numV ((b.drop 3).take 2)) (numV (b.drop 6)):=by rw [clockP,if_pos h]
  have h8:n=8:=by rw [← lb];exact fitsB_len h
  have s6:(b.drop 6).take 2=b.drop 6:=List.take_of_length_le (by rw [List.length_drop];omega)
  have d0:=fits_dg h (i:=0) (j:=2) (by intro k a c;match k,a,c with|0,_,_=>rfl|1,_,_=>rfl)
  have d3:=fits_dg h (i:=3) (j:=2) (by intro k a c;match k,a,c with|3,_,_=>rfl|4,_,_=>rfl)
  have d6:=fits_dg h (i:=6) (j:=2) (by intro k a c;match k,a,c with|6,_,_=>rfl|7,_,_=>rfl)
  rw [s6] at d6
  rw [List.drop_zero] at d0
  have T0:=digits_m (G:=G) (b.take 2) 2 (by rw [List.length_take];omega) (by omega) d0
  have T3:=digits_m (G:=G) ((b.drop 3).take 2) 2 (by rw [List.length_take,List.length_drop];omega) (by omega) d3
  have T6:=digits_m (G:=G) (b.drop 6) 2 (by rw [List.length_drop];omega) (by omega) d6
  have v0:=numV_lt _ d0
  have v3:=numV_lt _ d3
  have v6:=numV_lt _ d6
  rw [show (b.take 2).length=2 by rw [List.length_take];omega] at v0
  rw [show ((b.drop 3).take 2).length=2 by rw [List.length_take,List.length_drop];omega] at v3
  rw [show (b.drop 6).length=2 by rw [List.length_drop];omega] at v6
  have r0:(b.map bD).take 2=(b.take 2).map bD:=List.map_take.symm
  have r3:((b.map bD).drop 3).take 2=((b.drop 3).take 2).map bD:=by rw [List.map_take,List.map_drop]
  have r6:((b.map bD).drop 6).take (n-6)=(b.drop 6).map bD:=by rw [List.map_drop];exact List.take_of_length_le (by rw [List.length_drop,List.length_map];omega)
  have n6:n-6=2:=by omega
  rw [n6] at r6
  rw [h] at hF
  rw [e]
  generalize (b.take 2).map bD=L0 at *
  generalize ((b.drop 3).take 2).map bD=L3 at *
  generalize (b.drop 6).map bD=L6 at *
  generalize numV (b.take 2)=x at *
  generalize numV ((b.drop 3).take 2)=y at *
  generalize numV (b.drop 6)=z at *
  have f1:decide ((x:Int)>23)=decide (23<x):=by rw [decide_eq_decide];omega
  have f2:decide ((y:Int)>59)=decide (59<y):=by rw [decide_eq_decide];omega
  have f3:decide ((z:Int)>59)=decide (59<z):=by rw [decide_eq_decide];omega
  have m1:(x:Int)*3600=3600*(x:Int):=Int.mul_comm _ _
  have m2:(y:Int)*60=60*(y:Int):=Int.mul_comm _ _
  unfold resO iD clk3 at *
  by_cases q:23<x∨59<y∨59<z
  ·rw [if_pos q]
   generalize hq1:decide (23<x)=q1 at *
   generalize hq2:decide (59<y)=q2 at *
   generalize hq3:decide (59<z)=q3 at *
   refine spec_of Tryz.func139 rfl rfl rfl (by kernel_rfl) rfl fun K=>?_
   (repeat' (first|with_reducible (first|refine zA fun Kn hK=>?_|refine zU ?_|refine Nx.go ?_|go_step)|refine ⟨_,hF,?_⟩|refine ⟨_,T0,?_⟩|refine ⟨_,T3,?_⟩|refine ⟨_,T6,?_⟩|with_reducible (first|refine zI ?_|refine zV ?_)|simp (maxSteps:=9^9) (disch:=omega) only [wq]|with_reducible refine zM (fun hb=>?_) (fun hb=>?_)<;>try simp only [hb]|with_reducible refine And.intro (by first|omega|(simp;done)|(simp;omega)) ?_|simp (maxSteps:=9^9) -implicitDefEqProofs only [go_sem,hstr,r0,r3,r6,n6,f1,f2,f3,List.length_map,lb]))
   all_goals first
    | rfl
    | (exfalso;simp_all;omega)
  ·rw [if_neg q]
   rw [decide_eq_false (show ¬ 23<x by omega)] at f1
   rw [decide_eq_false (show ¬ 59<y by omega)] at f2
   rw [decide_eq_false (show ¬ 59<z by omega)] at f3
   refine spec_of Tryz.func139 rfl rfl rfl (by kernel_rfl) rfl fun K=>?_
   (repeat' (first|with_reducible (first|refine zA fun Kn hK=>?_|refine zU ?_|refine Nx.go ?_|go_step)|refine ⟨_,hF,?_⟩|refine ⟨_,T0,?_⟩|refine ⟨_,T3,?_⟩|refine ⟨_,T6,?_⟩|with_reducible (first|refine zI ?_|refine zV ?_)|simp (maxSteps:=9^9) (disch:=omega) only [wq]|with_reducible refine zM (fun hb=>?_) (fun hb=>?_)<;>try simp only [hb]|with_reducible refine And.intro (by first|omega|(simp;done)|(simp;omega)) ?_|simp (maxSteps:=9^9) -implicitDefEqProofs only [go_sem,hstr,r0,r3,r6,n6,f1,f2,f3,m1,m2,List.length_map,lb]))
   try rfl
end
def dateP (b:List UInt8):Option Nat:=
 if fitsB b datF=true then (match clockP (b.drop 11) with
  | some t=>dayO (aheadN (numV (b.take 4))) (numV (b.take 4)) (numV ((b.drop 5).take 2)) (numV ((b.drop 8).take 2)) t
  | none=>none)
 else none
theorem clockP_lt {b:List UInt8} {v:Nat} (h:clockP b=some v):v<90000:=by
 unfold clockP clk3 at h
 split at h
 ·split at h
  ·cases h
  ·injection h with h
   omega
 ·cases h
theorem aheadN_le (y:Nat) (hy:y≤9999):aheadN y≤4000000:=by
 unfold aheadN
 split<;>omega
section
variable {G:Nat→Option (List D)}
theorem date_m (b:List UInt8) (n:Nat) (lb:b.length=n) (hn:n≤1000000000):Spec Tryz.prog G 120 [.c (.sl n (b.map bD))] (resO (dateP b)):=by
 have hF:=fits_m (G:=G) b datF (by omega) (by decide) (by decide)
 have hstr:datF.toArray= #[48,48,48,48,45,48,48,45,48,48,95,48,48,58,48,48,58,48,48]:=rfl
 rw [bytesD,lb,hstr] at hF
 cases h:fitsB b datF with
 | false =>
  have e:dateP b=none:=by rw [dateP,if_neg (by rw [h];decide)]
  rw [h] at hF
  rw [e]
  unfold resO iD
  refine spec_of Tryz.func120 rfl rfl rfl (by kernel_rfl) rfl fun K=>?_
  (repeat' (first|with_reducible (first|refine zA fun Kn hK=>?_|refine zU ?_|refine Nx.go ?_|go_step)|refine ⟨_,hF,?_⟩|with_reducible (first|refine zI ?_|refine zV ?_)|simp (maxSteps:=9^9) (disch:=omega) only [wq]|with_reducible refine zM (fun hb=>?_) (fun hb=>?_)<;>try simp only [hb]|with_reducible refine And.intro (by first|omega|(simp;done)|(simp;omega)) ?_|simp (maxSteps:=9^9) -implicitDefEqProofs only [go_sem,List.length_map,lb]))
  try rfl
 | true =>
  have h19:n=19:=by rw [← lb];exact fitsB_len h
  have d0:=fits_dg h (i:=0) (j:=4) (by intro k a c;match k,a,c with|0,_,_=>rfl|1,_,_=>rfl|2,_,_=>rfl|3,_,_=>rfl)
  have d5:=fits_dg h (i:=5) (j:=2) (by intro k a c;match k,a,c with|5,_,_=>rfl|6,_,_=>rfl)
  have d8:=fits_dg h (i:=8) (j:=2) (by intro k a c;match k,a,c with|8,_,_=>rfl|9,_,_=>rfl)
  rw [List.drop_zero] at d0
  have TC:=clock_m (G:=G) (b.drop 11) (n-11) (by rw [List.length_drop,lb]) (by omega)
  have T0:=digits_m (G:=G) (b.take 4) 4 (by rw [List.length_take];omega) (by omega) d0
  have T5:=digits_m (G:=G) ((b.drop 5).take 2) 2 (by rw [List.length_take,List.length_drop];omega) (by omega) d5
  have T8:=digits_m (G:=G) ((b.drop 8).take 2) 2 (by rw [List.length_take,List.length_drop];omega) (by omega) d8
  have v0:=numV_lt _ d0
  have v5:=numV_lt _ d5
  have v8:=numV_lt _ d8
  rw [show (b.take 4).length=4 by rw [List.length_take];omega] at v0
  rw [show ((b.drop 5).take 2).length=2 by rw [List.length_take,List.length_drop];omega] at v5
  rw [show ((b.drop 8).take 2).length=2 by rw [List.length_take,List.length_drop];omega] at v8
  have r0:(b.map bD).take 4=(b.take 4).map bD:=List.map_take.symm
  have r5:((b.map bD).drop 5).take 2=((b.drop 5).take 2).map bD:=by rw [List.map_take,List.map_drop]
  have r8:((b.map bD).drop 8).take 2=((b.drop 8).take 2).map bD:=by rw [List.map_take,List.map_drop]
  have rc:((b.map bD).drop 11).take (n-11)=(b.drop 11).map bD:=by rw [List.map_drop];exact List.take_of_length_le (by rw [List.length_drop,List.length_map];omega)
  rw [dateP,if_pos h]
  rw [h] at hF
  have lc:= @clockP_lt (b.drop 11)
  generalize clockP (b.drop 11)=oc at *
  generalize (b.take 4).map bD=L0 at *
  generalize ((b.drop 5).take 2).map bD=L5 at *
  generalize ((b.drop 8).take 2).map bD=L8 at *
  generalize (b.drop 11).map bD=LC at *
  generalize numV (b.take 4)=y at *
  generalize numV ((b.drop 5).take 2)=m at *
  generalize numV ((b.drop 8).take 2)=d at *
  unfold resO iD at *
  rcases oc with _|t
  ·refine spec_of Tryz.func120 rfl rfl rfl (by kernel_rfl) rfl fun K=>?_
   (repeat' (first|with_reducible (first|refine zA fun Kn hK=>?_|refine zU ?_|refine Nx.go ?_|go_step)|refine ⟨_,hF,?_⟩|refine ⟨_,TC,?_⟩|refine ⟨_,T0,?_⟩|refine ⟨_,T5,?_⟩|refine ⟨_,T8,?_⟩|with_reducible (first|refine zI ?_|refine zV ?_)|simp (maxSteps:=9^9) (disch:=omega) only [wq]|with_reducible refine zM (fun hb=>?_) (fun hb=>?_)<;>try simp only [hb]|with_reducible refine And.intro (by first|omega|(simp;done)|(simp;omega)) ?_|simp (maxSteps:=9^9) -implicitDefEqProofs only [go_sem,r0,r5,r8,rc,List.length_map,lb]))
   try rfl
  ·have kc:=lc rfl
   simp only [Option.getD_some,Option.isSome_some] at TC
   dsimp only
   have hyl:y≤9999:=by omega
   have f1:decide ((m:Int)<1)=decide (m<1):=by rw [decide_eq_decide];omega
   have f2:decide ((m:Int)>12)=decide (12<m):=by rw [decide_eq_decide];omega
   have f3:decide ((d:Int)<1)=decide (d<1):=by rw [decide_eq_decide];omega
   have f4:decide ((d:Int)>(daysN y m:Int))=decide (daysN y m<d):=by rw [decide_eq_decide];omega
   have DD:=days_m (G:=G) y m
   have hD:=daysN_le y m
   unfold iD at DD
   by_cases q:m<1∨12<m∨d<1∨daysN y m<d
   ·rw [dayO,if_pos q]
    generalize hq1:decide (m<1)=q1 at *
    generalize hq2:decide (12<m)=q2 at *
    generalize hq3:decide (d<1)=q3 at *
    generalize hq4:decide (daysN y m<d)=q4 at *
    refine spec_of Tryz.func120 rfl rfl rfl (by kernel_rfl) rfl fun K=>?_
    (repeat' (first|with_reducible (first|refine zA fun Kn hK=>?_|refine zU ?_|refine Nx.go ?_|go_step)|refine ⟨_,hF,?_⟩|refine ⟨_,TC,?_⟩|refine ⟨_,T0,?_⟩|refine ⟨_,T5,?_⟩|refine ⟨_,T8,?_⟩|refine ⟨_,DD,?_⟩|with_reducible (first|refine zI ?_|refine zV ?_)|simp (maxSteps:=9^9) (disch:=omega) only [wq]|with_reducible refine zM (fun hb=>?_) (fun hb=>?_)<;>try simp only [hb]|with_reducible refine And.intro (by first|omega|(simp;done)|(simp;omega)) ?_|simp (maxSteps:=9^9) -implicitDefEqProofs only [go_sem,r0,r5,r8,rc,f1,f2,f3,f4,List.length_map,lb]))
    all_goals first
     | rfl
     | (exfalso;simp_all;omega)
   ·rw [dayO,if_neg q]
    rw [decide_eq_false (show ¬ m<1 by omega)] at f1
    rw [decide_eq_false (show ¬ 12<m by omega)] at f2
    rw [decide_eq_false (show ¬ d<1 by omega)] at f3
    rw [decide_eq_false (show ¬ daysN y m<d by omega)] at f4
    have AH:=ahead_m (G:=G) y (by omega)
    have hA:=aheadN_le y (by omega)
    unfold iD at AH
    generalize aheadN y=A at *
    refine spec_of Tryz.func120 rfl rfl rfl (by kernel_rfl) rfl fun K=>?_
    (repeat' (first|with_reducible (first|refine zA fun Kn hK=>?_|refine zU ?_|refine Nx.go ?_|go_step)|refine ⟨_,hF,?_⟩|refine ⟨_,TC,?_⟩|refine ⟨_,T0,?_⟩|refine ⟨_,T5,?_⟩|refine ⟨_,T8,?_⟩|refine ⟨_,DD,?_⟩|refine ⟨_,AH,?_⟩|with_reducible (first|refine zI ?_|refine zV ?_)|simp (maxSteps:=9^9) (disch:=omega) only [wq]|with_reducible refine zM (fun hb=>?_) (fun hb=>?_)<;>try simp only [hb]|with_reducible refine And.intro (by first|omega|(simp;done)|(simp;omega)) ?_|simp (maxSteps:=9^9) -implicitDefEqProofs only [go_sem,r0,r5,r8,rc,f1,f2,f3,f4,List.length_map,lb]))
    refine sound_loopR (fun x:{j:Nat // j<m}=>⟨[(4,vI t),(6,vI y),(7,vI m),(9,vI ((A+(d-1)+sumD y x.1:Nat):Int)),(10,vI ((x.1+1:Nat):Int))],[]⟩) (fun x=>m-x.1) ⟨0,by omega⟩ [] (by (iterate 2 ((try simp (maxSteps:=9^9) -implicitDefEqProofs only [go_sem,true_and]);(try simp (maxSteps:=9^9) (disch:=omega) only [wq])));try simp [sumD];try omega) (fun ⟨j,hj⟩=>?_)
    have hs:=sumD_le y j
    by_cases h:j+1<m
    ·have h1:decide (((j+1:Nat):Int)<(m:Int))=true:=decide_eq_true (by omega)
     have hd:=daysN_le y (j+1)
     have D2:=days_m (G:=G) y (j+1)
     unfold iD at D2
     (repeat' (first|with_reducible (first|refine zA fun Kn hK=>?_|refine zU ?_|refine Nx.go ?_|go_step)|refine ⟨_,D2,?_⟩|with_reducible (first|refine zI ?_|refine zV ?_)|simp (maxSteps:=9^9) (disch:=omega) only [wq]|with_reducible refine zM (fun hb=>?_) (fun hb=>?_)<;>try simp only [hb]|with_reducible refine And.intro (by first|omega|(simp;done)|(simp;omega)) ?_|simp (maxSteps:=9^9) -implicitDefEqProofs only [go_sem,h1]))
     refine ⟨[],⟨j+1,by omega⟩,?_⟩
     (iterate 2 ((try simp (maxSteps:=9^9) -implicitDefEqProofs only [go_sem,true_and,sumD]);(try simp (maxSteps:=9^9) (disch:=omega) only [wq])))
     try (simp only [ijq,true_and,and_true];first|done|omega|(split<;>omega)|(simp;done)|(simp;omega))
     try omega
    ·have h1:decide (((j+1:Nat):Int)<(m:Int))=false:=decide_eq_false (by omega)
     obtain rfl:m=j+1:=by omega
     (repeat' (first|with_reducible (first|refine zA fun Kn hK=>?_|refine zU ?_|refine Nx.go ?_|go_step)|with_reducible (first|refine zI ?_|refine zV ?_)|simp (maxSteps:=9^9) (disch:=omega) only [wq]|with_reducible refine zM (fun hb=>?_) (fun hb=>?_)<;>try simp only [hb]|with_reducible refine And.intro (by first|omega|(simp;done)|(simp;omega)) ?_|simp (maxSteps:=9^9) -implicitDefEqProofs only [go_sem,h1]))
     try rfl
end
end Go.Proofs.YtfammdfpgccnfaaGreatDoor
namespace Go.Proofs.YtfammdfpgccnfaaGreatDoor
theorem fitB_dg (c:UInt8):fitB c 48=isDg c:=rfl
theorem fitB_at (c:UInt8) (k:UInt8) (h: ¬ k.toNat=48):fitB c k=decide (c=k):=by
 rw [fitB,if_neg h,decide_eq_decide,UInt8.toNat_inj]
theorem clock_eq (b:List UInt8):clockP b=clockR b:=by
 by_cases h8:b.length=8
 ·match b,h8 with
  | [a0,a1,a2,a3,a4,a5,a6,a7],_ =>
   have e58: ¬ (58:UInt8).toNat=48:=by decide
   simp only [clockP,clockR,fitsB,clkF,fitB_dg,fitB_at _ _ e58,List.length_cons,List.length_nil,List.getElem?_cons_succ,List.getElem?_cons_zero,twoO,List.take_succ_cons,List.take_zero,List.drop_succ_cons,List.drop_zero,Option.some.injEq,true_and,Nat.reduceAdd]
   by_cases c2:a2=58
   ·by_cases c5:a5=58
    ·have n2: ∀ x y:UInt8,numV [x,y]=10*(x.toNat-48)+(y.toNat-48):=fun x y=>by simp [numV]
     rw [if_pos (show a2=58∧a5=58 from ⟨c2,c5⟩),decide_eq_true c2,decide_eq_true c5,n2,n2,n2]
     cases isDg a0<;>cases isDg a1<;>cases isDg a3<;>cases isDg a4<;>cases isDg a6<;>cases isDg a7<;>rfl
    ·rw [if_neg (show ¬ (a2=58∧a5=58) from fun h=>c5 h.2),decide_eq_false c5,if_neg (by simp)]
   ·rw [if_neg (show ¬ (a2=58∧a5=58) from fun h=>c2 h.1),decide_eq_false c2,if_neg (by simp)]
 ·rw [clockP,clockR,if_neg (fun h=>h8 (fitsB_len h)),if_neg (fun h=>h8 h.1)]
theorem dayO_some {A y m d t:Nat}:(dayO A y m d t).isSome= !decide (m<1∨12<m∨d<1∨daysN y m<d):=by
 unfold dayO
 split
 ·rename_i h
  rw [decide_eq_true h]
  rfl
 ·rename_i h
  rw [decide_eq_false h]
  rfl
theorem date_some (b:List UInt8):(dateP b).isSome=(dateR b).isSome:=by
 by_cases h19:b.length=19
 ·match b,h19 with
  | [a0,a1,a2,a3,a4,a5,a6,a7,a8,a9,a10,b0,b1,b2,b3,b4,b5,b6,b7],_ =>
   have e45: ¬ (45:UInt8).toNat=48:=by decide
   have e95: ¬ (95:UInt8).toNat=48:=by decide
   have hc:=clock_eq [b0,b1,b2,b3,b4,b5,b6,b7]
   have hn:clockP [b0,b1,b2,b3,b4,b5,b6,b7]=none∨fitsB [b0,b1,b2,b3,b4,b5,b6,b7] clkF=true:=by
    by_cases h:fitsB [b0,b1,b2,b3,b4,b5,b6,b7] clkF=true
    ·exact .inr h
    ·exact .inl (by rw [clockP,if_neg h])
   have hs:fitsB [a0,a1,a2,a3,a4,a5,a6,a7,a8,a9,a10,b0,b1,b2,b3,b4,b5,b6,b7] datF=(isDg a0&&(isDg a1&&(isDg a2&&(isDg a3&&(decide (a4=45)&&(isDg a5&&(isDg a6&&(decide (a7=45)&&(isDg a8&&(isDg a9&&(decide (a10=95)&&fitsB [b0,b1,b2,b3,b4,b5,b6,b7] clkF))))))))))):=by
    simp only [fitsB,datF,clkF,fitB_dg,fitB_at _ _ e45,fitB_at _ _ e95]
   simp only [dateP,dateR,hs,List.length_cons,List.length_nil,List.getElem?_cons_succ,List.getElem?_cons_zero,twoO,List.take_succ_cons,List.take_zero,List.drop_succ_cons,List.drop_zero,Option.some.injEq,true_and,Nat.reduceAdd,hc]
   rw [hc] at hn
   generalize clockR [b0,b1,b2,b3,b4,b5,b6,b7]=oc at *
   generalize fitsB [b0,b1,b2,b3,b4,b5,b6,b7] clkF=fc at *
   by_cases c:a4=45∧a7=45∧a10=95
   ·have n2: ∀ x y:UInt8,numV [x,y]=10*(x.toNat-48)+(y.toNat-48):=fun x y=>by simp [numV]
    have n4:numV [a0,a1,a2,a3]=100*(10*(a0.toNat-48)+(a1.toNat-48))+(10*(a2.toNat-48)+(a3.toNat-48)):=by
     simp [numV]
     omega
    rw [if_pos c,decide_eq_true c.1,decide_eq_true c.2.1,decide_eq_true c.2.2,n2,n2,n4]
    rcases oc with _|t
    ·cases isDg a0<;>cases isDg a1<;>cases isDg a2<;>cases isDg a3<;>cases isDg a5<;>cases isDg a6<;>cases isDg a8<;>cases isDg a9<;>(cases fc<;>rfl)
    ·have:fc=true:=by rcases hn with h|h;cases h;exact h
     subst this
     cases isDg a0<;>cases isDg a1<;>cases isDg a2<;>cases isDg a3<;>cases isDg a5<;>cases isDg a6<;>cases isDg a8<;>cases isDg a9<;>first|(simp only [Bool.and_true,Bool.and_self,if_true,dayO_some];done)|rfl
   ·rw [if_neg c]
    have:(decide (a4=45)&&decide (a7=45)&&decide (a10=95))=false:=by
     cases h:(decide (a4=45)&&decide (a7=45)&&decide (a10=95)) with
     | false=>rfl
     | true =>
      simp only [Bool.and_eq_true,decide_eq_true_eq] at h
      exact (c ⟨h.1.1,h.1.2,h.2⟩).elim
    rw [if_neg]
    intro h
    simp only [Bool.and_eq_true,decide_eq_true_eq] at h
    exact c ⟨h.2.2.2.2.1,h.2.2.2.2.2.2.2.1,h.2.2.2.2.2.2.2.2.2.2.1⟩
 ·rw [dateP,dateR,if_neg (fun h=>h19 (fitsB_len h)),if_neg (fun h=>h19 h.1)]
end Go.Proofs.YtfammdfpgccnfaaGreatDoor
namespace Go.Proofs.YtfammdfpgccnfaaGreatDoor
open Go.RowKit
section
variable (numB:List UInt8→Bool)
def isVP (o:UInt8) (b:List UInt8):Bool:=
 if o=1 then true else if o=2 then numB b else if o=3 then (clockP b).isSome else if o=4 then true else if o=5 then (dateP b).isSome else false
end
section
variable {G:Nat→Option (List D)} {numB:List UInt8→Bool}
theorem fo1:funcOk Tryz.prog 192=true:=by kernel_rfl
theorem fo2:funcOk Tryz.prog 204=true:=by kernel_rfl
theorem fo3:funcOk Tryz.prog 212=true:=by kernel_rfl
theorem fo4:funcOk Tryz.prog 196=true:=by kernel_rfl
theorem compare_m (H2: ∀ b:List UInt8,b.length≤1000000000→Spec Tryz.prog G 204 [.c (.sl b.length (b.map bD)),.c (.sl b.length (b.map bD)),.c (.ptr [fnV 194] 0)] (.many [iD 0,.c (.v (.bool (numB b)))]))
  (o:UInt8) (b:List UInt8) (hn:b.length≤1000000000):Spec Tryz.prog G 217 [.c (bD o),.c (.sl b.length (b.map bD)),.c (.sl b.length (b.map bD))] (.many [iD 0,.c (.v (.bool (isVP numB o b)))]):=by
 have ho:=of_m (G:=G) o
 have h1:=alpha_m (G:=G) b hn
 have h2:=H2 b hn
 have h3:=byL_m (G:=G) 139 b.length (b.map bD) (clockP b) (by kernel_rfl) (clock_m b _ rfl hn)
 have h4:=binary_m (G:=G) b hn
 have h5:=byL_m (G:=G) 120 b.length (b.map bD) (dateP b) (by kernel_rfl) (date_m b _ rfl hn)
 unfold isVP
 unfold ofD at ho
 generalize clockP b=oc at *
 generalize dateP b=od at *
 generalize numB b=nb at *
 generalize b.map bD=L at *
 generalize b.length=n at *
 unfold iD bD fnV at *
 have f1:=fo1
 have f2:=fo2
 have f3:=fo3
 have f4:=fo4
 by_cases c1:o=1
 ·rw [if_pos c1] at ho ⊢
  refine spec_of Tryz.func217 rfl rfl rfl (by kernel_rfl) rfl fun K=>?_
  (repeat' (first|with_reducible (first|refine zA fun Kn hK=>?_|refine zU ?_|refine Nx.go ?_|go_step)|refine ⟨_,ho,?_⟩|refine ⟨_,h1,?_⟩|with_reducible (first|refine zI ?_|refine zV ?_)|simp (maxSteps:=9^9) (disch:=omega) only [wq]|with_reducible refine zM (fun hb=>?_) (fun hb=>?_)<;>try simp only [hb]|with_reducible refine And.intro (by first|omega|(simp;done)|(simp;omega)) ?_|simp (maxSteps:=9^9) -implicitDefEqProofs only [go_sem,f1]))
  try rfl
 rw [if_neg c1] at ho ⊢
 by_cases c2:o=2
 ·rw [if_pos c2] at ho ⊢
  refine spec_of Tryz.func217 rfl rfl rfl (by kernel_rfl) rfl fun K=>?_
  (repeat' (first|with_reducible (first|refine zA fun Kn hK=>?_|refine zU ?_|refine Nx.go ?_|go_step)|refine ⟨_,ho,?_⟩|refine ⟨_,h2,?_⟩|with_reducible (first|refine zI ?_|refine zV ?_)|simp (maxSteps:=9^9) (disch:=omega) only [wq]|with_reducible refine zM (fun hb=>?_) (fun hb=>?_)<;>try simp only [hb]|with_reducible refine And.intro (by first|omega|(simp;done)|(simp;omega)) ?_|simp (maxSteps:=9^9) -implicitDefEqProofs only [go_sem,f2,List.map_cons,List.map_nil]))
  try rfl
 rw [if_neg c2] at ho ⊢
 by_cases c3:o=3
 ·rw [if_pos c3] at ho ⊢
  refine spec_of Tryz.func217 rfl rfl rfl (by kernel_rfl) rfl fun K=>?_
  (repeat' (first|with_reducible (first|refine zA fun Kn hK=>?_|refine zU ?_|refine Nx.go ?_|go_step)|refine ⟨_,ho,?_⟩|refine ⟨_,h3,?_⟩|with_reducible (first|refine zI ?_|refine zV ?_)|simp (maxSteps:=9^9) (disch:=omega) only [wq]|with_reducible refine zM (fun hb=>?_) (fun hb=>?_)<;>try simp only [hb]|with_reducible refine And.intro (by first|omega|(simp;done)|(simp;omega)) ?_|simp (maxSteps:=9^9) -implicitDefEqProofs only [go_sem,f3,List.map_cons,List.map_nil]))
  try rfl
 rw [if_neg c3] at ho ⊢
 by_cases c4:o=4
 ·rw [if_pos c4] at ho ⊢
  refine spec_of Tryz.func217 rfl rfl rfl (by kernel_rfl) rfl fun K=>?_
  (repeat' (first|with_reducible (first|refine zA fun Kn hK=>?_|refine zU ?_|refine Nx.go ?_|go_step)|refine ⟨_,ho,?_⟩|refine ⟨_,h4,?_⟩|with_reducible (first|refine zI ?_|refine zV ?_)|simp (maxSteps:=9^9) (disch:=omega) only [wq]|with_reducible refine zM (fun hb=>?_) (fun hb=>?_)<;>try simp only [hb]|with_reducible refine And.intro (by first|omega|(simp;done)|(simp;omega)) ?_|simp (maxSteps:=9^9) -implicitDefEqProofs only [go_sem,f4]))
  try rfl
 rw [if_neg c4] at ho ⊢
 by_cases c5:o=5
 ·rw [if_pos c5] at ho ⊢
  refine spec_of Tryz.func217 rfl rfl rfl (by kernel_rfl) rfl fun K=>?_
  (repeat' (first|with_reducible (first|refine zA fun Kn hK=>?_|refine zU ?_|refine Nx.go ?_|go_step)|refine ⟨_,ho,?_⟩|refine ⟨_,h5,?_⟩|with_reducible (first|refine zI ?_|refine zV ?_)|simp (maxSteps:=9^9) (disch:=omega) only [wq]|with_reducible refine zM (fun hb=>?_) (fun hb=>?_)<;>try simp only [hb]|with_reducible refine And.intro (by first|omega|(simp;done)|(simp;omega)) ?_|simp (maxSteps:=9^9) -implicitDefEqProofs only [go_sem,f3,List.map_cons,List.map_nil]))
  try rfl
 rw [if_neg c5] at ho ⊢
 refine spec_of Tryz.func217 rfl rfl rfl (by kernel_rfl) rfl fun K=>?_
 (repeat' (first|with_reducible (first|refine zA fun Kn hK=>?_|refine zU ?_|refine Nx.go ?_|go_step)|refine ⟨_,ho,?_⟩|with_reducible (first|refine zI ?_|refine zV ?_)|simp (maxSteps:=9^9) (disch:=omega) only [wq]|with_reducible refine zM (fun hb=>?_) (fun hb=>?_)<;>try simp only [hb]|with_reducible refine And.intro (by first|omega|(simp;done)|(simp;omega)) ?_|simp (maxSteps:=9^9) -implicitDefEqProofs only [go_sem,true_and]))
 try rfl
end
end Go.Proofs.YtfammdfpgccnfaaGreatDoor
namespace Go.Proofs.YtfammdfpgccnfaaGreatDoor
def wStar:List UInt8:=[42]
def wSet:List UInt8:=[115,101,116]
def wPrefix:List UInt8:=[112,114,101,102,105,120]
def wRange:List UInt8:=[114,97,110,103,101]
def wG:List UInt8:=[103]
def wL:List UInt8:=[108]
def ordW:List (List UInt8):=[[97,108,112,104,97],[110,117,109,101,114,105,99],[116,105,109,101],[98,105,110,97,114,121],[100,97,116,101]]
def ordN (o:UInt8):List UInt8:=(ordW[o.toNat-1]?).getD []
def Bd.none:Bd:=⟨false,false,[]⟩
def Tg.plain (t:Tg):Bool:=decide (t.ord=0)&&(decide (t.lo=Bd.none)&&decide (t.hi=Bd.none))
def emptyL {α:Type} (l:List α):Bool:=match l with
 | []=>true
 | _=>false
theorem emptyL_iff {α:Type} {l:List α}:emptyL l=true↔l=[]:=by cases l<;>simp [emptyL]
section
variable (isV:UInt8→List UInt8→Bool)
def mayE (o:UInt8) (b:Bd):Bool:=if b.is then isV o b.txt else !b.opn&&emptyL b.txt
def mayR (o:UInt8) (lo hi:Bd):Bool:=decide (1≤o.toNat∧o.toNat≤5)&&(mayE isV o lo&&mayE isV o hi)
def Tg.blank (t:Tg):Bool:=
 if t.kind=1 then t.plain&&(emptyL t.data&&emptyL t.kids)
 else if t.kind=2∨t.kind=5 then t.plain&&emptyL t.kids
 else if t.kind=3∨t.kind=4 then t.plain&&emptyL t.data
 else decide (t.kind=6)&&(mayR isV t.ord t.lo t.hi&&(emptyL t.data&&emptyL t.kids))
def Tg.starA (t:Tg):Bool:=decide (t.kind=2)&&decide (t.data=wStar)
def headA (l:List Tg):Bool:=match l with
 | []=>false
 | x::_=>x.starA
def Tg.starL (t:Tg):Bool:=decide (t.kind=3)&&headA t.kids
def Tg.ok (t:Tg):Bool:=t.blank isV&& !t.starL
def Tg.right (t:Tg):Bool:=t.ok isV&&t.kids.attach.all fun x=>Tg.right x.1
termination_by SizeOf.sizeOf t
decreasing_by exact Tg.kid_lt x.2
theorem Tg.right_eq (t:Tg):t.right isV=(t.ok isV&&t.kids.all (Tg.right isV)):=by
 rw [Tg.right]
 congr 1
 simp
def bdT (b:Bd) (w:List UInt8):List Tree:=if b.is then [atomT (if b.opn then w else w++[101]),atomT b.txt] else []
def Tg.val (t:Tg):Tree:=
 if t.kind=1 then listT [atomT wStar]
 else if t.kind=2 then atomT t.data
 else if t.kind=4 then listT (atomT wStar::atomT wSet::t.kids.attach.map fun x=>Tg.val x.1)
 else if t.kind=5 then listT [atomT wStar,atomT wPrefix,atomT t.data]
 else if t.kind=6 then listT (atomT wStar::atomT wRange::atomT (ordN t.ord)::(bdT t.lo wG++bdT t.hi wL))
 else listT (t.kids.attach.map fun x=>Tg.val x.1)
termination_by SizeOf.sizeOf t
decreasing_by all_goals exact Tg.kid_lt x.2
theorem Tg.val_eq (t:Tg):t.val =
  if t.kind=1 then listT [atomT wStar]
  else if t.kind=2 then atomT t.data
  else if t.kind=4 then listT (atomT wStar::atomT wSet::t.kids.map Tg.val)
  else if t.kind=5 then listT [atomT wStar,atomT wPrefix,atomT t.data]
  else if t.kind=6 then listT (atomT wStar::atomT wRange::atomT (ordN t.ord)::(bdT t.lo wG++bdT t.hi wL))
  else listT (t.kids.map Tg.val):=by
 rw [Tg.val]
 simp
def aTg (d:List UInt8):Tg:= .mk 2 d [] 0 Bd.none Bd.none
def kTg (k:UInt8) (l:List Tg):Tg:= .mk k [] l 0 Bd.none Bd.none
def allSome {α:Type}:List (Option α)→Option (List α)
 | []=>some []
 | none::_=>none
 | some x::l=>(allSome l).map (x:: ·)
def endT (l:List Tree) (w:List UInt8):Option (Bd × List Tree):=match l with
 | []=>some (Bd.none,[])
 | x :: l=>if isB x w||isB x (w++[101]) then (match l with
   | []=>none
   | y::l=>if y.list||y.hinted then none else some (⟨true,isB x w,y.data⟩,l))
  else some (Bd.none,x::l)
def findW (x:Tree):List (List UInt8)→Nat→Option Nat
 | [],_=>none
 | w::ws,k=>if isB x w then some k else findW x ws (k+1)
def rangeT (l:List Tree):Option Tg:=match l with
 | []=>none
 | x :: l=>match findW x ordW 1 with
  | none=>none
  | some o=>match endT l wG with
   | none=>none
   | some (lo,l1)=>match endT l1 wL with
    | none=>none
    | some (hi,l2)=>if emptyL l2&&mayR isV (UInt8.ofNat o) lo hi then some (.mk 6 [] [] (UInt8.ofNat o) lo hi) else none
def prefT (l:List Tree):Option Tg:=match l with
 | [y]=>if y.list||y.hinted then none else some (.mk 5 y.data [] 0 Bd.none Bd.none)
 | _=>none
def starT (l:List Tree) (sub:Option (List Tg)):Option Tg:=match l with
 | []=>some (kTg 1 [])
 | x::l=>if isB x wSet then sub.map (kTg 4)
  else if isB x wPrefix then prefT l
  else if isB x wRange then rangeT isV l
  else none
def getT (t:Tree):Option Tg:=
 if t.list then
  if headB t wStar then starT isV (t.kids.drop 1) (allSome ((t.kids.attach.map fun x=>getT x.1).drop 2))
  else (allSome (t.kids.attach.map fun x=>getT x.1)).map (kTg 3)
 else if t.hinted then none else some (aTg t.data)
termination_by SizeOf.sizeOf t
decreasing_by all_goals exact Tree.kid_lt x.2
theorem getT_eq (t:Tree):getT isV t =
  if t.list then
   if headB t wStar then starT isV (t.kids.drop 1) (allSome ((t.kids.map (getT isV)).drop 2))
   else (allSome (t.kids.map (getT isV))).map (kTg 3)
  else if t.hinted then none else some (aTg t.data):=by
 rw [getT]
 simp
end
theorem allSome_map {α β:Type} {f:α→Option β} {l:List α} {m:List β} (h:allSome (l.map f)=some m):l.length=m.length∧ ∀ (i:Nat) x,l[i]?=some x→ ∃ y,f x=some y∧m[i]?=some y:=by
 induction l generalizing m with
 | nil =>
  simp [allSome] at h
  subst h
  exact ⟨rfl,fun i x hx=>by simp at hx⟩
 | cons a l ih =>
  rw [List.map_cons] at h
  cases ha:f a with
  | none=>rw [ha] at h;simp [allSome] at h
  | some b =>
   rw [ha] at h
   simp only [allSome,Option.map_eq_some_iff] at h
   obtain ⟨k,hk,rfl⟩:=h
   obtain ⟨h1,h2⟩:=ih hk
   refine ⟨by simp [h1],fun i x hx=>?_⟩
   cases i with
   | zero=>simp at hx;subst hx;exact ⟨b,ha,rfl⟩
   | succ i=>simpa using h2 i x (by simpa using hx)
theorem allSome_of {α β:Type} {f:α→Option β} {g:β→α} {m:List β} (h: ∀ y∈m,f (g y)=some y):allSome ((m.map g).map f)=some m:=by
 induction m with
 | nil=>rfl
 | cons y m ih =>
  rw [List.map_cons,List.map_cons,h y (by simp),allSome,ih fun z hz=>h z (by simp [hz])]
  rfl
section
variable {isV:UInt8→List UInt8→Bool}
theorem map_back_val {l:List Tree} {m:List Tg} (h1:l.length=m.length) (h2: ∀ (i:Nat) x y,l[i]?=some x→m[i]?=some y→y.val=x):m.map Tg.val=l:=by
 refine List.ext_getElem? fun i=>?_
 rw [List.getElem?_map]
 by_cases hi:i<m.length
 ·rw [List.getElem?_eq_getElem hi,List.getElem?_eq_getElem (by omega:i<l.length)]
  simp only [Option.map_some]
  exact congrArg some (h2 i _ _ (List.getElem?_eq_getElem (by omega)) (List.getElem?_eq_getElem hi))
 ·rw [List.getElem?_eq_none (by omega),List.getElem?_eq_none (by omega)]
  rfl
theorem kid_clean {v x:Tree} (h:v.clean=true) (hx:x∈v.kids):x.clean=true:=by
 rw [Tree.clean_eq,Bool.and_eq_true] at h
 exact List.all_eq_true.1 h.2 x hx
theorem clean_fair {v:Tree} (h:v.clean=true):v.fair=true:=by
 rw [Tree.clean_eq,Bool.and_eq_true] at h
 exact h.1
theorem isB_atom {a b:List UInt8}:isB (atomT a) b=decide (a=b):=by
 rw [Bool.eq_iff_iff]
 simp [isB,atomT,Tree.list,Tree.hinted,Tree.data]
theorem endT_bdT {b:Bd} {w:List UInt8} {l:List Tree} {o:UInt8} (hm:mayE isV o b=true) (hl: ∀ x l',l=x::l'→isB x w=false∧isB x (w++[101])=false):endT (bdT b w++l) w=some (b,l):=by
 unfold bdT
 cases hb:b.is with
 | true =>
  have hne: ¬ (w++[101]=w):=fun e=>by
   have:=congrArg List.length e
   simp at this
  obtain ⟨i,o,t⟩:=b
  dsimp only at hb
  subst hb
  cases o<;>simp [endT,isB_atom,hne]<;>simp [atomT,Tree.list,Tree.hinted,Tree.data]
 | false =>
  rw [mayE,hb] at hm
  simp only [Bool.false_eq_true,if_false,Bool.and_eq_true,Bool.not_eq_true',emptyL_iff] at hm
  have e:b=Bd.none:=by
   obtain ⟨i,o,t⟩:=b
   simp at hb hm
   simp [Bd.none,hb,hm]
  rw [e]
  simp only [Bool.false_eq_true,if_false,List.nil_append]
  cases l with
  | nil=>rfl
  | cons x l =>
   obtain ⟨h1,h2⟩:=hl x l rfl
   simp [endT,h1,h2]
theorem bdT_endT {l l':List Tree} {b:Bd} {w:List UInt8} (hc: ∀ x∈l,x.clean=true) (h:endT l w=some (b,l')):l=bdT b w++l'∧(∀ x∈l',x.clean=true):=by
 cases l with
 | nil =>
  simp [endT] at h
  obtain ⟨rfl,rfl⟩:=h
  exact ⟨rfl,hc⟩
 | cons x l =>
  have hx:=clean_fair (hc x (by simp))
  simp only [endT] at h
  by_cases hw:(isB x w||isB x (w++[101]))=true
  ·rw [if_pos hw] at h
   cases l with
   | nil=>simp at h
   | cons y l =>
    have hy:=clean_fair (hc y (by simp))
    dsimp only at h
    by_cases hp:(y.list||y.hinted)=true
    ·rw [if_pos hp] at h
     cases h
    ·rw [if_neg hp] at h
     simp only [Option.some.injEq,Prod.mk.injEq] at h
     obtain ⟨rfl,rfl⟩:=h
     simp only [Bool.or_eq_true,not_or,Bool.not_eq_true] at hp
     refine ⟨?_,fun z hz=>hc z (by simp [hz])⟩
     have hye:=fair_atomT hy hp.1 hp.2
     have hxe:x=atomT (if isB x w then w else w++[101]):=by
      cases h1:isB x w with
      | true=>exact (isB_iff hx).1 h1
      | false =>
       rw [h1] at hw
       exact (isB_iff hx).1 (by simpa using hw)
     show x::y::l=_
     rw [bdT]
     simp only [if_true]
     rw [← hxe,← hye]
     rfl
  ·rw [if_neg hw] at h
   simp only [Option.some.injEq,Prod.mk.injEq] at h
   obtain ⟨rfl,rfl⟩:=h
   exact ⟨rfl,hc⟩
theorem ordN_ne {o:UInt8} (h:1≤o.toNat∧o.toNat≤5):findW (atomT (ordN o)) ordW 1=some o.toNat:=by
 have key: ∀ n,1≤n→n≤5→findW (atomT ((ordW[n-1]?).getD [])) ordW 1=some n:=by
  intro n h1 h2
  match n,h1,h2 with
  | 1,_,_=>decide
  | 2,_,_=>decide
  | 3,_,_=>decide
  | 4,_,_=>decide
  | 5,_,_=>decide
 exact key _ h.1 h.2
theorem findW_spec {x:Tree} (hx:x.fair=true): ∀ {ws:List (List UInt8)} {k o:Nat},findW x ws k=some o→ ∃ j w,o=k+j∧ws[j]?=some w∧x=atomT w
 | [],k,o,h=>by simp [findW] at h
 | w :: ws,k,o,h=>by
  rw [findW] at h
  by_cases hw:isB x w=true
  ·rw [if_pos hw] at h
   simp at h
   subst h
   exact ⟨0,w,rfl,rfl,(isB_iff hx).1 hw⟩
  ·rw [if_neg hw] at h
   obtain ⟨j,w',rfl,h1,h2⟩:=findW_spec hx h
   exact ⟨j+1,w',by omega,by simpa using h1,h2⟩
theorem range_back {l:List Tree} {u:Tg} (hc: ∀ x∈l,x.clean=true) (h:rangeT isV l=some u): ∃ o lo hi,u= .mk 6 [] [] o lo hi∧mayR isV o lo hi=true∧l=atomT (ordN o)::(bdT lo wG++bdT hi wL):=by
 cases l with
 | nil=>simp [rangeT] at h
 | cons x l =>
  have hx:=clean_fair (hc x (by simp))
  rw [rangeT] at h
  cases ho:findW x ordW 1 with
  | none=>rw [ho] at h;cases h
  | some o =>
   rw [ho] at h
   dsimp only at h
   cases h1:endT l wG with
   | none=>rw [h1] at h;cases h
   | some p =>
    obtain ⟨lo,l1⟩:=p
    rw [h1] at h
    dsimp only at h
    cases h2:endT l1 wL with
    | none=>rw [h2] at h;cases h
    | some p =>
     obtain ⟨hi,l2⟩:=p
     rw [h2] at h
     dsimp only at h
     by_cases h3:(emptyL l2&&mayR isV (UInt8.ofNat o) lo hi)=true
     ·rw [if_pos h3] at h
      simp only [Option.some.injEq] at h
      subst h
      rw [Bool.and_eq_true,emptyL_iff] at h3
      obtain ⟨rfl,hm⟩:=h3
      obtain ⟨e1,c1⟩:=bdT_endT (fun z hz=>hc z (by simp [hz])) h1
      obtain ⟨e2,c2⟩:=bdT_endT c1 h2
      obtain ⟨j,w,rfl,hj,hxw⟩:=findW_spec hx ho
      have hj5:j<5:=(List.getElem?_eq_some_iff.1 hj).1
      refine ⟨_,lo,hi,rfl,hm,?_⟩
      have hon:ordN (UInt8.ofNat (1+j))=w:=by
       unfold ordN
       rw [UInt8.toNat_ofNat_of_lt' (by simp only [UInt8.size];omega),Nat.add_sub_cancel_left,hj]
       rfl
      rw [hon,← hxw,e1,e2,List.append_nil]
     ·rw [if_neg h3] at h
      cases h
theorem range_fwd {o:UInt8} {lo hi:Bd} (hm:mayR isV o lo hi=true):rangeT isV (atomT (ordN o)::(bdT lo wG++bdT hi wL))=some (.mk 6 [] [] o lo hi):=by
 have hm':=hm
 rw [mayR,Bool.and_eq_true,Bool.and_eq_true,decide_eq_true_eq] at hm
 obtain ⟨ho,h1,h2⟩:=hm
 have hhi: ∀ x l',bdT hi wL=x::l'→isB x wG=false∧isB x (wG++[101])=false:=fun x l' e=>by
  unfold bdT at e
  split at e
  ·simp only [List.cons.injEq] at e
   rw [← e.1,isB_atom,isB_atom]
   split<;>decide
  ·cases e
 have e1:=endT_bdT (isV:=isV) (l:=bdT hi wL) h1 hhi
 have e2:=endT_bdT (isV:=isV) (b:=hi) (w:=wL) (l:=[]) h2 (fun x l' e=>by cases e)
 rw [List.append_nil] at e2
 rw [rangeT,ordN_ne ho]
 dsimp only
 rw [e1]
 dsimp only
 rw [e2]
 dsimp only
 have eo:UInt8.ofNat o.toNat=o:=UInt8.toNat_inj.1 (by rw [UInt8.toNat_ofNat_of_lt' o.toNat_lt])
 rw [eo,hm']
 rfl
theorem plain_mk {k:UInt8} {d:List UInt8} {l:List Tg}:(Tg.mk k d l 0 Bd.none Bd.none).plain=true:=by simp [Tg.plain,Tg.ord,Tg.lo,Tg.hi]
theorem get_ok: ∀ (v:Tree) (u:Tg),v.clean=true→getT isV v=some u→u.right isV=true∧u.val=v:=by
 refine Tree.ind fun v ih u hc h=>?_
 have hf:=clean_fair hc
 have hkc: ∀ x∈v.kids,x.clean=true:=fun x hx=>kid_clean hc hx
 have sub: ∀ (n:Nat) (m:List Tg),allSome ((v.kids.map (getT isV)).drop n)=some m→m.map Tg.val=v.kids.drop n∧m.all (Tg.right isV)=true:=fun n m hm=>by
  rw [← List.map_drop] at hm
  obtain ⟨h1,h2⟩:=allSome_map hm
  have h3: ∀ (i:Nat) x y,(v.kids.drop n)[i]?=some x→m[i]?=some y→y.right isV=true∧y.val=x:=fun i x y hx hy=>by
   obtain ⟨y',hy',e⟩:=h2 i x hx
   rw [hy] at e
   simp at e
   subst e
   have hmem:x∈v.kids:=List.mem_of_mem_drop (List.mem_of_getElem? hx)
   exact ih x hmem y (hkc x hmem) hy'
  refine ⟨map_back_val h1 fun i x y hx hy=>(h3 i x y hx hy).2,List.all_eq_true.2 fun y hy=>?_⟩
  obtain ⟨i,hi⟩:=List.getElem?_of_mem hy
  have hil:i<m.length:=(List.getElem?_eq_some_iff.1 hi).1
  exact (h3 i _ y (List.getElem?_eq_getElem (by omega)) hi).1
 rw [getT_eq] at h
 cases hl:v.list with
 | false =>
  rw [hl] at h
  simp only [Bool.false_eq_true,if_false] at h
  cases hh:v.hinted with
  | true=>rw [hh] at h;simp at h
  | false =>
   rw [hh] at h
   simp at h
   subst h
   have hv:=fair_atomT hf hl hh
   refine ⟨?_,?_⟩
   ·rw [Tg.right_eq]
    simp [Tg.ok,Tg.blank,Tg.starL,aTg,Tg.kind,Tg.kids,plain_mk,emptyL]
   ·rw [Tg.val_eq]
    simp [aTg,Tg.kind,Tg.data]
    exact hv.symm
 | true =>
  have hv:=fair_listT hf hl
  rw [hl] at h
  simp only [if_true] at h
  by_cases hs:headB v wStar=true
  ·rw [if_pos hs] at h
   rw [headB,hl,Bool.true_and] at hs
   cases hk:v.kids with
   | nil=>rw [hk] at hs;simp at hs
   | cons x l =>
    rw [hk] at hs
    dsimp only at hs
    have hxs:x=atomT wStar:=(isB_iff (clean_fair (hkc x (by rw [hk];simp)))).1 hs
    have hd:v.kids.drop 1=l:=by rw [hk];rfl
    have hlc: ∀ z∈l,z.clean=true:=fun z hz=>hkc z (by rw [hk];simp [hz])
    rw [hd] at h
    cases l with
    | nil =>
     simp [starT] at h
     subst h
     refine ⟨?_,?_⟩
     ·rw [Tg.right_eq]
      simp [Tg.ok,Tg.blank,Tg.starL,kTg,Tg.kind,Tg.kids,Tg.data,plain_mk,emptyL]
     ·rw [hv,hk,hxs,Tg.val_eq]
      simp [kTg,Tg.kind]
    | cons y l =>
     have hyf:=clean_fair (hlc y (by simp))
     rw [starT] at h
     by_cases h1:isB y wSet=true
     ·rw [if_pos h1,Option.map_eq_some_iff] at h
      obtain ⟨m,hm,rfl⟩:=h
      obtain ⟨e1,e2⟩:=sub 2 m hm
      have hd2:v.kids.drop 2=l:=by rw [hk];rfl
      refine ⟨?_,?_⟩
      ·rw [Tg.right_eq]
       simp [Tg.ok,Tg.blank,Tg.starL,kTg,Tg.kind,Tg.kids,Tg.data,plain_mk,emptyL]
       simpa using e2
      ·rw [hv,hk,hxs,Tg.val_eq]
       simp only [kTg,Tg.kind,Tg.kids]
       rw [e1,hd2,(isB_iff hyf).1 h1]
       simp
     ·rw [if_neg h1] at h
      by_cases h2:isB y wPrefix=true
      ·rw [if_pos h2] at h
       match l,h,hk,hlc with
       | [z],h,hk,hlc =>
        simp only [prefT] at h
        by_cases hp:(z.list||z.hinted)=true
        ·rw [if_pos hp] at h
         cases h
        ·rw [if_neg hp] at h
         simp only [Option.some.injEq] at h
         subst h
         simp only [Bool.or_eq_true,not_or,Bool.not_eq_true] at hp
         have hz:=fair_atomT (clean_fair (hlc z (by simp))) hp.1 hp.2
         refine ⟨?_,?_⟩
         ·rw [Tg.right_eq]
          simp [Tg.ok,Tg.blank,Tg.starL,Tg.kind,Tg.kids,Tg.data,plain_mk,emptyL]
         ·rw [hv,hk,hxs,Tg.val_eq,(isB_iff hyf).1 h2]
          simp only [Tg.kind,Tg.data]
          rw [← hz]
          simp
       | [],h,_,_=>cases h
       | _::_::_,h,_,_=>cases h
      ·rw [if_neg h2] at h
       by_cases h3:isB y wRange=true
       ·rw [if_pos h3] at h
        obtain ⟨o,lo,hi,rfl,hm,e⟩:=range_back (fun z hz=>hlc z (by simp [hz])) h
        refine ⟨?_,?_⟩
        ·rw [Tg.right_eq]
         simp [Tg.ok,Tg.blank,Tg.starL,Tg.kind,Tg.kids,Tg.data,Tg.ord,Tg.lo,Tg.hi,emptyL,hm]
        ·rw [hv,hk,hxs,Tg.val_eq,(isB_iff hyf).1 h3,e]
         simp [Tg.kind,Tg.ord,Tg.lo,Tg.hi]
       ·rw [if_neg h3] at h
        cases h
  ·rw [if_neg hs,Option.map_eq_some_iff] at h
   obtain ⟨m,hm,rfl⟩:=h
   obtain ⟨e1,e2⟩:=sub 0 m (by rw [List.drop_zero];exact hm)
   rw [List.drop_zero] at e1
   have hst:(kTg 3 m).starL=false:=by
    cases m with
    | nil=>simp [kTg,Tg.starL,headA,Tg.kind,Tg.kids]
    | cons y m =>
     cases hsa:y.starA with
     | false=>simp [kTg,Tg.starL,headA,Tg.kind,Tg.kids,hsa]
     | true =>
      exfalso
      apply hs
      simp only [Tg.starA,Bool.and_eq_true,decide_eq_true_eq] at hsa
      have:y.val=atomT wStar:=by
       rw [Tg.val_eq,hsa.1,hsa.2]
       simp
      rw [headB,hl,Bool.true_and,← e1,List.map_cons]
      dsimp only
      rw [this,isB_atom]
      simp
   refine ⟨?_,?_⟩
   ·rw [Tg.right_eq,Tg.ok,hst]
    simp only [Tg.blank,kTg,Tg.kind,Tg.kids,Tg.data,plain_mk,emptyL]
    simpa using e2
   ·rw [hv,Tg.val_eq]
    simp only [kTg,Tg.kind,Tg.kids]
    rw [e1]
    simp
theorem val_list {t:Tg} (h:t.kind≠2):t.val.list=true:=by
 rw [Tg.val_eq]
 repeat' split
 all_goals first|rfl|contradiction
theorem star_val {t:Tg}:isB t.val wStar=t.starA:=by
 by_cases h:t.kind=2
 ·rw [Tg.val_eq,h,Tg.starA,h]
  simp [isB_atom]
 ·have:=val_list h
  simp [isB,this,Tg.starA,h]
theorem blank_of (k:UInt8) (d:List UInt8) (l:List Tg) (o:UInt8) (lo hi:Bd):(Tg.mk k d l o lo hi).blank isV =
  if k=1 then (Tg.mk k d l o lo hi).plain&&(emptyL d&&emptyL l)
  else if k=2∨k=5 then (Tg.mk k d l o lo hi).plain&&emptyL l
  else if k=3∨k=4 then (Tg.mk k d l o lo hi).plain&&emptyL d
  else decide (k=6)&&(mayR isV o lo hi&&(emptyL d&&emptyL l)):=rfl
theorem val_of (k:UInt8) (d:List UInt8) (l:List Tg) (o:UInt8) (lo hi:Bd):(Tg.mk k d l o lo hi).val =
  if k=1 then listT [atomT wStar]
  else if k=2 then atomT d
  else if k=4 then listT (atomT wStar::atomT wSet::l.map Tg.val)
  else if k=5 then listT [atomT wStar,atomT wPrefix,atomT d]
  else if k=6 then listT (atomT wStar::atomT wRange::atomT (ordN o)::(bdT lo wG++bdT hi wL))
  else listT (l.map Tg.val):=by
 rw [Tg.val_eq]
 rfl
theorem blank_mk {t:Tg} (hp:t.plain=true):t.ord=0∧t.lo=Bd.none∧t.hi=Bd.none:=by
 simpa [Tg.plain] using hp
theorem put_ok: ∀ t:Tg,t.right isV=true→getT isV t.val=some t:=by
 refine Tg.ind fun t ih h=>?_
 rw [Tg.right_eq,Bool.and_eq_true,List.all_eq_true] at h
 obtain ⟨hok,hk⟩:=h
 have ihk: ∀ x∈t.kids,getT isV x.val=some x:=fun x hx=>ih x hx (hk x hx)
 have hall:=allSome_of (f:=getT isV) (g:=Tg.val) ihk
 obtain ⟨k,d,l,o,lo,hi⟩:=t
 simp only [Tg.ok,Bool.and_eq_true,Bool.not_eq_true'] at hok
 obtain ⟨hb,hs⟩:=hok
 have hkv:(Tg.mk k d l o lo hi).kids=l:=rfl
 rw [hkv] at hall ihk hk
 rw [val_of]
 rw [blank_of] at hb
 by_cases h1:k=1
 ·subst h1
  simp only [if_true,Bool.and_eq_true,emptyL_iff] at hb ⊢
  obtain ⟨hp,rfl,rfl⟩:=hb
  obtain ⟨rfl,rfl,rfl⟩:o=0∧lo=Bd.none∧hi=Bd.none:=blank_mk hp
  rw [getT_eq]
  simp [listT,headB,Tree.list,Tree.kids,isB_atom,starT,kTg]
 rw [if_neg h1] at hb
 rw [if_neg h1]
 by_cases h2:k=2
 ·subst h2
  simp only [true_or,if_true,Bool.and_eq_true,emptyL_iff] at hb ⊢
  obtain ⟨hp,rfl⟩:=hb
  obtain ⟨rfl,rfl,rfl⟩:o=0∧lo=Bd.none∧hi=Bd.none:=blank_mk hp
  rw [getT_eq]
  simp [atomT,Tree.list,Tree.hinted,Tree.data,aTg]
 rw [if_neg h2]
 by_cases h4:k=4
 ·subst h4
  simp only [if_true,Bool.and_eq_true,emptyL_iff] at hb ⊢
  simp at hb
  obtain ⟨hp,hd⟩:=hb
  rw [emptyL_iff] at hd
  subst hd
  obtain ⟨rfl,rfl,rfl⟩:o=0∧lo=Bd.none∧hi=Bd.none:=blank_mk hp
  rw [getT_eq]
  have e:((listT (atomT wStar::atomT wSet::l.map Tg.val)).kids.map (getT isV)).drop 2=(l.map Tg.val).map (getT isV):=rfl
  rw [e,hall]
  simp [listT,headB,Tree.list,Tree.kids,isB_atom,starT,kTg]
 rw [if_neg h4]
 by_cases h5:k=5
 ·subst h5
  simp at hb ⊢
  obtain ⟨hp,hd⟩:=hb
  rw [emptyL_iff] at hd
  subst hd
  obtain ⟨rfl,rfl,rfl⟩:o=0∧lo=Bd.none∧hi=Bd.none:=blank_mk hp
  rw [getT_eq]
  have e1:isB (atomT wPrefix) wSet=false:=by decide
  have e2:isB (atomT wPrefix) wPrefix=true:=by decide
  have e0:isB (atomT wStar) wStar=true:=by decide
  simp [listT,headB,Tree.list,Tree.kids,starT,prefT,e0,e1,e2]
  simp [atomT,Tree.list,Tree.hinted,Tree.data]
 rw [if_neg h5]
 by_cases h6:k=6
 ·subst h6
  simp at hb ⊢
  obtain ⟨hm,hd,hl⟩:=hb
  rw [emptyL_iff] at hd hl
  subst hd hl
  rw [getT_eq]
  have e1:isB (atomT wRange) wSet=false:=by decide
  have e2:isB (atomT wRange) wPrefix=false:=by decide
  have e3:isB (atomT wRange) wRange=true:=by decide
  have e4:headB (listT (atomT wStar::atomT wRange::atomT (ordN o)::(bdT lo wG++bdT hi wL))) wStar=true:=by simp [headB,listT,Tree.list,Tree.kids,isB_atom]
  rw [e4]
  simp only [listT,Tree.list,Tree.kids,if_true,List.drop_succ_cons,List.drop_zero,starT,e1,e2,e3,Bool.false_eq_true,if_false]
  exact range_fwd hm
 rw [if_neg h6]
 by_cases h3:k=3
 ·subst h3
  simp at hb
  obtain ⟨hp,hd⟩:=hb
  rw [emptyL_iff] at hd
  subst hd
  obtain ⟨rfl,rfl,rfl⟩:o=0∧lo=Bd.none∧hi=Bd.none:=blank_mk hp
  rw [getT_eq]
  have e4:headB (listT (l.map Tg.val)) wStar=false:=by
   cases l with
   | nil=>simp [headB,listT,Tree.list,Tree.kids]
   | cons x l =>
    simp only [Tg.starL,headA,Tg.kind,Tg.kids,decide_true,Bool.true_and] at hs
    simp only [headB,listT,Tree.list,Tree.kids,List.map_cons,Bool.true_and]
    rw [star_val,hs]
  have e5:(listT (l.map Tg.val)).kids.map (getT isV)=(l.map Tg.val).map (getT isV):=rfl
  rw [e4,e5,hall]
  simp [listT,Tree.list,kTg]
 ·exfalso
  simp [h2,h5,h3,h4,h6] at hb
end
end Go.Proofs.YtfammdfpgccnfaaGreatDoor
namespace Go.Proofs.YtfammdfpgccnfaaGreatDoor
open Go.RowKit
section
variable {G:Nat→Option (List D)} {numB:List UInt8→Bool}
theorem is_w (o:UInt8) (n:Nat) (L:List D) (q:Bool) (h:Spec Tryz.prog G 217 [.c (bD o),.c (.sl n L),.c (.sl n L)] (.many [iD 0,.c (.v (.bool q))])):Spec Tryz.prog G 197 [.c (bD o),.c (.sl n L)] (.one (.c (.v (.bool q)))):=by
 unfold iD bD at *
 refine spec_of Tryz.func197 rfl rfl rfl (by kernel_rfl) rfl fun K=>?_
 (repeat' (first|with_reducible (first|refine zA fun Kn hK=>?_|refine zU ?_|refine Nx.go ?_|go_step)|refine ⟨_,h,?_⟩|with_reducible (first|refine zI ?_|refine zV ?_)|simp (maxSteps:=9^9) (disch:=omega) only [wq]|with_reducible refine zM (fun hb=>?_) (fun hb=>?_)<;>try simp only [hb]|with_reducible refine And.intro (by first|omega|(simp;done)|(simp;omega)) ?_|simp (maxSteps:=9^9) -implicitDefEqProofs only [go_sem,true_and]))
def bdD (b:Bd):List D:=[.v (.bool b.is),.v (.bool b.opn),.sl b.txt.length (b.txt.map bD)]
theorem end_w (o:UInt8) (b:Bd) (q:Bool) (hn:b.txt.length≤1000000000) (h:b.is=true→Spec Tryz.prog G 197 [.c (bD o),.c (.sl b.txt.length (b.txt.map bD))] (.one (.c (.v (.bool q))))):Spec Tryz.prog G 186 [.c (bD o),.g (bdD b)] (.one (.c (.v (.bool (if b.is then q else !b.opn&&decide (b.txt.length=0)))))):=by
 obtain ⟨i,p,t⟩:=b
 have e:((t.length:Int)==0)=decide (t.length=0):=nbeq t.length 0
 unfold bdD bD at *
 dsimp only at *
 generalize t.map _=L at *
 generalize t.length=n at *
 cases i with
 | false =>
  cases p<;>(generalize decide (n=0)=z at *)
  ·refine spec_of Tryz.func186 rfl rfl rfl (by kernel_rfl) rfl fun K=>?_
   (repeat' (first|with_reducible (first|refine zA fun Kn hK=>?_|refine zU ?_|refine Nx.go ?_|go_step)|with_reducible (first|refine zI ?_|refine zV ?_)|simp (maxSteps:=9^9) (disch:=omega) only [wq]|with_reducible refine zM (fun hb=>?_) (fun hb=>?_)<;>try simp only [hb]|with_reducible refine And.intro (by first|omega|(simp;done)|(simp;omega)) ?_|simp (maxSteps:=9^9) -implicitDefEqProofs only [go_sem,e]))
   try rfl
  ·refine spec_of Tryz.func186 rfl rfl rfl (by kernel_rfl) rfl fun K=>?_
   (repeat' (first|with_reducible (first|refine zA fun Kn hK=>?_|refine zU ?_|refine Nx.go ?_|go_step)|with_reducible (first|refine zI ?_|refine zV ?_)|simp (maxSteps:=9^9) (disch:=omega) only [wq]|with_reducible refine zM (fun hb=>?_) (fun hb=>?_)<;>try simp only [hb]|with_reducible refine And.intro (by first|omega|(simp;done)|(simp;omega)) ?_|simp (maxSteps:=9^9) -implicitDefEqProofs only [go_sem,e]))
   try rfl
 | true =>
  have h:=h rfl
  refine spec_of Tryz.func186 rfl rfl rfl (by kernel_rfl) rfl fun K=>?_
  (repeat' (first|with_reducible (first|refine zA fun Kn hK=>?_|refine zU ?_|refine Nx.go ?_|go_step)|refine ⟨_,h,?_⟩|with_reducible (first|refine zI ?_|refine zV ?_)|simp (maxSteps:=9^9) (disch:=omega) only [wq]|with_reducible refine zM (fun hb=>?_) (fun hb=>?_)<;>try simp only [hb]|with_reducible refine And.intro (by first|omega|(simp;done)|(simp;omega)) ?_|simp (maxSteps:=9^9) -implicitDefEqProofs only [go_sem,e]))
  try rfl
end
end Go.Proofs.YtfammdfpgccnfaaGreatDoor
namespace Go.Proofs.YtfammdfpgccnfaaGreatDoor
def Tg.nodes (t:Tg):Nat:=1+(t.kids.attach.map fun x=>Tg.nodes x.1).sum
termination_by SizeOf.sizeOf t
decreasing_by exact Tg.kid_lt x.2
theorem Tg.nodes_eq (t:Tg):t.nodes=1+(t.kids.map Tg.nodes).sum:=by
 rw [Tg.nodes]
 congr 2
 simp
section
variable (isV:UInt8→List UInt8→Bool)
def Tg.rightD (t:Tg) (deep:Nat):Bool:=t.ok isV&&(decide (deep≤17)&&t.kids.attach.all fun x=>Tg.rightD x.1 (deep+1))
termination_by SizeOf.sizeOf t
decreasing_by exact Tg.kid_lt x.2
theorem Tg.rightD_eq (t:Tg) (deep:Nat):t.rightD isV deep=(t.ok isV&&(decide (deep≤17)&&t.kids.all fun x=>x.rightD isV (deep+1))):=by
 rw [Tg.rightD]
 congr 2
 simp
end
section
variable {isV:UInt8→List UInt8→Bool}
theorem right_of_D: ∀ (t:Tg) (n:Nat),t.rightD isV n=true→t.right isV=true:=by
 refine Tg.ind fun t ih n h=>?_
 rw [Tg.rightD_eq] at h
 simp only [Bool.and_eq_true,List.all_eq_true] at h
 rw [Tg.right_eq,Bool.and_eq_true,List.all_eq_true]
 exact ⟨h.1,fun x hx=>ih x hx (n+1) (h.2.2 x hx)⟩
theorem val_kids {t:Tg} (h:t.right isV=true) (hk:t.kids≠[]): ∃ l,t.val=listT (l++t.kids.map Tg.val):=by
 rw [Tg.right_eq,Bool.and_eq_true] at h
 obtain ⟨k,d,l,o,lo,hi⟩:=t
 obtain ⟨hok,_⟩:=h
 rw [Tg.ok,Bool.and_eq_true,blank_of] at hok
 have hl:l≠[]:=hk
 have he:emptyL l=false:=by cases l<;>simp_all [emptyL]
 rw [val_of]
 show ∃ m,_=listT (m++l.map Tg.val)
 obtain ⟨hb,_⟩:=hok
 by_cases h1:k=1
 ·rw [if_pos h1,he] at hb
  simp at hb
 rw [if_neg h1] at hb
 rw [if_neg h1]
 by_cases h25:k=2∨k=5
 ·rw [if_pos h25,he] at hb
  simp at hb
 rw [if_neg h25] at hb
 have h2: ¬ k=2:=fun e=>h25 (.inl e)
 have h5: ¬ k=5:=fun e=>h25 (.inr e)
 rw [if_neg h2]
 by_cases h4:k=4
 ·rw [if_pos h4]
  exact ⟨[atomT wStar,atomT wSet],rfl⟩
 rw [if_neg h4,if_neg h5]
 by_cases h6:k=6
 ·have h34: ¬ (k=3∨k=4):=by rw [h6];decide
  rw [if_neg h34,he] at hb
  simp at hb
 rw [if_neg h6]
 exact ⟨[],rfl⟩
theorem nodes_pos (v:Tree):1≤v.nodes:=by rw [Tree.nodes_eq];omega
theorem val_nodes: ∀ t:Tg,t.right isV=true→t.nodes≤t.val.nodes:=by
 refine Tg.ind fun t ih h=>?_
 by_cases hk:t.kids=[]
 ·rw [Tg.nodes_eq,hk]
  exact nodes_pos _
 ·obtain ⟨l,hv⟩:=val_kids h hk
  rw [Tg.right_eq,Bool.and_eq_true,List.all_eq_true] at h
  rw [hv,Tg.nodes_eq,Tree.nodes_eq]
  have: ∀ m:List Tg,(∀ x∈m,x.nodes≤x.val.nodes)→(m.map Tg.nodes).sum≤((m.map Tg.val).map Tree.nodes).sum:=by
   intro m
   induction m with
   | nil=>simp
   | cons x m ih2 =>
    intro hm
    have h1:=hm x (by simp)
    have h2:=ih2 fun y hy=>hm y (by simp [hy])
    simp only [List.map_cons,List.sum_cons]
    omega
  have h3:=this t.kids fun x hx=>ih x hx (h.2 x hx)
  simp only [listT,Tree.kids,List.map_append,List.sum_append]
  omega
theorem D_of_right: ∀ (t:Tg) (n:Nat),t.right isV=true→n≤17→t.val.deep+n≤17→t.rightD isV n=true:=by
 refine Tg.ind fun t ih n h hn hd=>?_
 have h':=h
 rw [Tg.right_eq,Bool.and_eq_true,List.all_eq_true] at h
 rw [Tg.rightD_eq,h.1,decide_eq_true hn,Bool.true_and,Bool.true_and,List.all_eq_true]
 intro x hx
 obtain ⟨l,hv⟩:=val_kids h' (fun e=>by rw [e] at hx;cases hx)
 have h1:x.val.deep+1≤t.val.deep:=by
  rw [hv,Tree.deep_eq (listT _),show (listT (l++t.kids.map Tg.val)).list=true from rfl,show (listT (l++t.kids.map Tg.val)).kids=l++t.kids.map Tg.val from rfl,if_pos rfl]
  have:=(most_le (l:=(l++t.kids.map Tg.val).map Tree.deep)).1 (Nat.le_refl _) x.val.deep (List.mem_map.2 ⟨x.val,List.mem_append.2 (.inr (List.mem_map.2 ⟨x,hx,rfl⟩)),rfl⟩)
  omega
 exact ih x hx (n+1) (h.2 x hx) (by omega) (by omega)
theorem atom_clean (b:List UInt8):(atomT b).clean=true:=by
 rw [Tree.clean_eq]
 simp [atomT,Tree.fair,Tree.list,Tree.kids,Tree.hint]
theorem list_clean {l:List Tree} (h: ∀ x∈l,x.clean=true):(listT l).clean=true:=by
 rw [Tree.clean_eq,Bool.and_eq_true,List.all_eq_true]
 exact ⟨by simp [listT,Tree.fair,Tree.list,Tree.hinted,Tree.hint,Tree.data],h⟩
theorem bdT_clean {b:Bd} {w:List UInt8}: ∀ x∈bdT b w,x.clean=true:=fun x hx=>by
 unfold bdT at hx
 split at hx
 ·simp only [List.mem_cons,List.not_mem_nil,or_false] at hx
  rcases hx with rfl|rfl<;>exact atom_clean _
 ·cases hx
theorem val_clean: ∀ t:Tg,t.val.clean=true:=by
 refine Tg.ind fun t ih=>?_
 have hm: ∀ x∈t.kids.map Tg.val,x.clean=true:=fun x hx=>by
  obtain ⟨y,hy,rfl⟩:=List.mem_map.1 hx
  exact ih y hy
 rw [Tg.val_eq]
 repeat' split
 all_goals first|exact atom_clean _|exact list_clean hm|refine list_clean fun x hx=>?_
 all_goals
  simp only [List.mem_cons,List.mem_append,List.not_mem_nil,or_false] at hx
  first
   | (rcases hx with rfl|rfl|hx<;>first|exact atom_clean _|exact hm x hx)
   | (rcases hx with rfl|rfl|rfl|hx|hx<;>first|exact atom_clean _|exact bdT_clean x hx)
   | (rcases hx with rfl|rfl|rfl<;>exact atom_clean _)
   | (subst hx;exact atom_clean _)
end
end Go.Proofs.YtfammdfpgccnfaaGreatDoor
