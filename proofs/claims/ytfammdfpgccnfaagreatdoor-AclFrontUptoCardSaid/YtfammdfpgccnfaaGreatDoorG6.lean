/- Parts of the proof, laid together. -/
import Derived.Test.YtfammdfpgccnfaaGreatDoorG5
import Derived.Lib.Builder
import Derived.Lib.UnsafeStr
import Derived.Lib.AppendStr
import Derived.WalkKit
set_option linter.unusedVariables false
set_option linter.unusedSimpArgs false
set_option maxRecDepth 100000
set_option maxHeartbeats 8000000
namespace Go.Proofs.YtfammdfpgccnfaaGreatDoor
open Go.RowKit
theorem rep1 {α:Type} {x:α}:List.replicate 1 x=[x]:=rfl
section
variable {G:Nat→Option (List D)}
end
end Go.Proofs.YtfammdfpgccnfaaGreatDoor
namespace Go.Proofs.YtfammdfpgccnfaaGreatDoor
theorem wt_atomT (b:List UInt8):(atomT b).wt=1+b.length:=by
 rw [Tree.wt_eq]
 simp [atomT,Tree.hint,Tree.data,Tree.kids]
theorem wt_listT (l:List Tree):(listT l).wt=1+(l.map Tree.wt).sum:=by
 rw [Tree.wt_eq]
 simp [listT,Tree.hint,Tree.data,Tree.kids]
theorem wt_bdT (b:Bd) (w:List UInt8) (hw:w.length≤1):((bdT b w).map Tree.wt).sum≤5+b.txt.length:=by
 unfold bdT
 split
 ·simp only [List.map_cons,List.map_nil,List.sum_cons,List.sum_nil,wt_atomT]
  split<;>simp<;>omega
 ·simp
theorem ordN_len (o:UInt8):(ordN o).length≤7:=by
 unfold ordN
 generalize o.toNat-1=k
 match k with
 | 0|1|2|3|4=>decide
 | k+5=>simp [ordW]
theorem val_wt: ∀ t:Tg,t.val.wt≤t.wt+40*t.nodes:=by
 refine Tg.ind fun t ih=>?_
 have hs: ∀ l:List Tg,(∀ x∈l,x.val.wt≤x.wt+40*x.nodes)→((l.map Tg.val).map Tree.wt).sum≤(l.map Tg.wt).sum+40*(l.map Tg.nodes).sum:=by
  intro l
  induction l with
  | nil=>simp
  | cons x l ih =>
   intro h
   have h0:=h x (by simp)
   have:=ih fun y hy=>h y (by simp [hy])
   simp only [List.map_cons,List.sum_cons]
   omega
 have hk:=hs t.kids ih
 have hl:=wt_bdT t.lo wG (by decide)
 have hh:=wt_bdT t.hi wL (by decide)
 have ho:=ordN_len t.ord
 rw [Tg.wt_eq,Tg.nodes_eq,Tg.val_eq]
 repeat' split
 all_goals simp only [wt_listT,wt_atomT,List.map_cons,List.map_nil,List.map_append,List.sum_append,List.sum_cons,List.sum_nil,wStar,wSet,wPrefix,wRange,List.length_cons,List.length_nil]
 all_goals omega
def endP (l:List Tree) (w:List UInt8):Option (Bd × List Tree):=match l with
 | []=>some (Bd.none,[])
 | x::l=>if x.list||x.hinted then none else endT (x::l) w
theorem endP_eq {l:List Tree} {w:List UInt8} {p:Bd × List Tree} (h:endP l w=some p):endT l w=some p:=by
 cases l with
 | nil=>exact h
 | cons x l =>
  unfold endP at h
  dsimp only at h
  split at h
  ·cases h
  ·exact h
theorem endP_none {l:List Tree} {w:List UInt8} (h:endP l w=none):endT l w=none∨ ∃ x m,l=x::m∧(x.list||x.hinted)=true∧endT l w=some (Bd.none,l):=by
 cases l with
 | nil=>cases h
 | cons x l =>
  unfold endP at h
  dsimp only at h
  split at h
  ·rename_i hx
   right
   have hb: ∀ s,isB x s=false:=fun s=>by
    unfold isB
    cases h1:x.list<;>cases h2:x.hinted<;>simp_all
   exact ⟨x,l,rfl,hx,by unfold endT;simp [hb]⟩
  ·exact .inl h
section
variable (isV:UInt8→List UInt8→Bool)
def ends2 (l:List Tree):Option (Bd × Bd):=
 match endP l wG with
 | none=>none
 | some (lo,l1)=>match endP l1 wL with
  | none=>none
  | some (hi,l2)=>if emptyL l2 then some (lo,hi) else none
def ends2T (l:List Tree):Option (Bd × Bd):=
 match endT l wG with
 | none=>none
 | some (lo,l1)=>match endT l1 wL with
  | none=>none
  | some (hi,l2)=>if emptyL l2 then some (lo,hi) else none
theorem ends2_eq (l:List Tree):ends2 l=ends2T l:=by
 unfold ends2 ends2T
 cases h1:endP l wG with
 | none =>
  rcases endP_none h1 with h|⟨x,m,rfl,hx,h⟩
  ·rw [h]
  ·rw [h]
   dsimp only
   have hb: ∀ s,isB x s=false:=fun s=>by
    unfold isB
    cases h1:x.list<;>cases h2:x.hinted<;>simp_all
   rw [show endT (x::m) wL=some (Bd.none,x::m) by unfold endT;simp [hb]]
   rfl
 | some p =>
  rw [endP_eq h1]
  obtain ⟨lo,l1⟩:=p
  dsimp only
  cases h2:endP l1 wL with
  | none =>
   rcases endP_none h2 with h|⟨x,m,rfl,hx,h⟩
   ·rw [h]
   ·rw [h]
    rfl
  | some p=>rw [endP_eq h2]
theorem rangeT_eq (x:Tree) (l:List Tree):rangeT isV (x::l)=match findW x ordW 1 with
  | none=>none
  | some o=>match ends2 l with
   | none=>none
   | some (lo,hi)=>if mayR isV (UInt8.ofNat o) lo hi then some (.mk 6 [] [] (UInt8.ofNat o) lo hi) else none:=by
 rw [ends2_eq]
 unfold ends2T
 rw [rangeT]
 cases findW x ordW 1 with
 | none=>rfl
 | some o =>
  dsimp only
  cases endT l wG with
  | none=>rfl
  | some p =>
   obtain ⟨lo,l1⟩:=p
   dsimp only
   cases endT l1 wL with
   | none=>rfl
   | some p =>
    obtain ⟨hi,l2⟩:=p
    dsimp only
    cases emptyL l2<;>simp
theorem isB_no {x:Tree} (h:(x.list||x.hinted)=true) (s:List UInt8):isB x s=false:=by
 unfold isB
 cases h1:x.list<;>cases h2:x.hinted<;>simp_all
theorem isB_yes {x:Tree} (h:(x.list||x.hinted)=false) (s:List UInt8):isB x s=(x.data==s):=by
 unfold isB
 cases h1:x.list<;>cases h2:x.hinted<;>simp_all
end
end Go.Proofs.YtfammdfpgccnfaaGreatDoor
namespace Go.Proofs.YtfammdfpgccnfaaGreatDoor
open Go.RowKit
section
variable {G:Nat→Option (List D)}
theorem bsame_m (x y:Bd):Spec Tryz.prog G 109 [.g [.v (.bool x.is),.v (.bool x.opn),bytesD x.txt],.g [.v (.bool y.is),.v (.bool y.opn),bytesD y.txt]] (.one (.c (.v (.bool (bdSame x y))))):=by
 obtain ⟨a,b,c⟩:=x
 obtain ⟨a',b',c'⟩:=y
 have he:=equal_m (G:=G) c c'
 unfold bdSame
 dsimp only
 generalize (c==c')=q at *
 cases h1:a==a'<;>cases h2:b==b'<;>cases q
 all_goals
  refine spec_of Tryz.func109 rfl rfl rfl (by kernel_rfl) rfl fun K=>?_
  (repeat' (first|with_reducible (first|refine zA fun Kn hK=>?_|refine zU ?_|refine Nx.go ?_|go_step)|refine ⟨_,he,?_⟩|with_reducible (first|refine zI ?_|refine zV ?_)|simp (maxSteps:=9^9) (disch:=omega) only [wq]|with_reducible refine zM (fun hb=>?_) (fun hb=>?_)<;>try simp only [hb]|with_reducible refine And.intro (by first|omega|(simp;done)|(simp;omega)) ?_|simp (maxSteps:=9^9) -implicitDefEqProofs only [go_sem,h1,h2]))
  all_goals try rfl
theorem prsame_m (o:UInt8) (lo hi:Bd) (o':UInt8) (lo' hi':Bd):Spec Tryz.prog G 80 [.g (rgD o lo hi),.g (rgD o' lo' hi')] (.one (.c (.v (.bool (rgSame o lo hi o' lo' hi'))))):=by
 have s1:=bsame_m (G:=G) lo lo'
 have s2:=bsame_m (G:=G) hi hi'
 have e:=u8_beq o o'
 unfold rgSame
 generalize bdSame lo lo'=q1 at *
 generalize bdSame hi hi'=q2 at *
 generalize (o==o')=q0 at *
 unfold rgD bD
 cases q0<;>cases q1<;>cases q2
 all_goals
  refine spec_of Tryz.func80 rfl rfl rfl (by kernel_rfl) rfl fun K=>?_
  (repeat' (first|with_reducible (first|refine zA fun Kn hK=>?_|refine zU ?_|refine Nx.go ?_|go_step)|refine ⟨_,s1,?_⟩|refine ⟨_,s2,?_⟩|with_reducible (first|refine zI ?_|refine zV ?_)|simp (maxSteps:=9^9) (disch:=omega) only [wq]|with_reducible refine zM (fun hb=>?_) (fun hb=>?_)<;>try simp only [hb]|with_reducible refine And.intro (by first|omega|(simp;done)|(simp;omega)) ?_|simp (maxSteps:=9^9) -implicitDefEqProofs only [go_sem,e]))
  all_goals try rfl
theorem pos_len {α:Type} (l:List α):decide ((0:Int)<(l.length:Int))= !emptyL l:=by
 cases l with
 | nil=>rfl
 | cons a l =>
  rw [show emptyL (a::l)=false from rfl,Bool.not_false,decide_eq_true_iff,List.length_cons]
  omega
theorem blank_m (t:Tg) {cs:List D} (hcs:tagC t=cs) (hw:t.wt≤1000000000):Spec Tryz.prog G 164 [.g cs] (.one (.c (.v (.bool (t.blank isV))))):=by
 subst hcs
 have hs:=prsame_m (G:=G) t.ord t.lo t.hi 0 Bd.none Bd.none
 have hm:=may11_m (G:=G) t.ord t.lo t.hi (by rw [t.wt_eq] at hw;omega) (by rw [t.wt_eq] at hw;omega)
 have hp:=plain_same t
 rw [← hp] at hs
 have ed:=pos_len t.data
 have ek:=pos_len t.kids
 have key: ∀ k:UInt8,((t.kind.toNat:Int)==(k.toNat:Int))=decide (t.kind=k):=fun k=>by rw [u8_beq];exact Bool.beq_eq_decide_eq _ _
 have e1:((t.kind.toNat:Int)==1)=decide (t.kind=1):=key 1
 have e2:((t.kind.toNat:Int)==2)=decide (t.kind=2):=key 2
 have e3:((t.kind.toNat:Int)==3)=decide (t.kind=3):=key 3
 have e4:((t.kind.toNat:Int)==4)=decide (t.kind=4):=key 4
 have e5:((t.kind.toNat:Int)==5)=decide (t.kind=5):=key 5
 have e6:((t.kind.toNat:Int)==6)=decide (t.kind=6):=key 6
 clear key hp
 have hq:t.blank isV=if t.kind=1 then t.plain&&(emptyL t.data&&emptyL t.kids) else if t.kind=2∨t.kind=5 then t.plain&&emptyL t.kids else if t.kind=3∨t.kind=4 then t.plain&&emptyL t.data else decide (t.kind=6)&&(mayR isV t.ord t.lo t.hi&&(emptyL t.data&&emptyL t.kids)):=rfl
 rw [hq,tagC_eq]
 clear hq
 generalize t.plain=pl at *
 generalize mayR isV t.ord t.lo t.hi=mr at *
 generalize emptyL t.data=zd at *
 generalize emptyL t.kids=zk at *
 unfold rgD bdD bD bytesD at *
 by_cases c1:t.kind=1
 ·rw [decide_eq_true c1] at e1
  rw [if_pos c1]
  cases pl<;>cases zd<;>cases zk
  all_goals
   refine spec_of Tryz.func164 rfl rfl rfl (by kernel_rfl) rfl fun K=>?_
   (repeat' (first|with_reducible (first|refine zA fun Kn hK=>?_|refine zU ?_|refine Nx.go ?_|go_step)|refine ⟨_,hs,?_⟩|with_reducible (first|refine zI ?_|refine zV ?_)|simp (maxSteps:=9^9) (disch:=omega) only [wq]|with_reducible refine zM (fun hb=>?_) (fun hb=>?_)<;>try simp only [hb]|with_reducible refine And.intro (by first|omega|(simp;done)|(simp;omega)) ?_|simp (maxSteps:=9^9) -implicitDefEqProofs only [go_sem,gt_iff_lt,e1,ed,ek,bD]))
   all_goals try rfl
 rw [decide_eq_false c1] at e1
 rw [if_neg c1]
 by_cases c2:t.kind=2
 ·rw [decide_eq_true c2] at e2
  rw [if_pos (.inl c2)]
  cases pl<;>cases zk
  all_goals
   refine spec_of Tryz.func164 rfl rfl rfl (by kernel_rfl) rfl fun K=>?_
   (repeat' (first|with_reducible (first|refine zA fun Kn hK=>?_|refine zU ?_|refine Nx.go ?_|go_step)|refine ⟨_,hs,?_⟩|with_reducible (first|refine zI ?_|refine zV ?_)|simp (maxSteps:=9^9) (disch:=omega) only [wq]|with_reducible refine zM (fun hb=>?_) (fun hb=>?_)<;>try simp only [hb]|with_reducible refine And.intro (by first|omega|(simp;done)|(simp;omega)) ?_|simp (maxSteps:=9^9) -implicitDefEqProofs only [go_sem,gt_iff_lt,e1,e2,ed,ek,bD]))
   all_goals try rfl
 rw [decide_eq_false c2] at e2
 by_cases c5:t.kind=5
 ·rw [decide_eq_true c5] at e5
  rw [if_pos (.inr c5)]
  cases pl<;>cases zk
  all_goals
   refine spec_of Tryz.func164 rfl rfl rfl (by kernel_rfl) rfl fun K=>?_
   (repeat' (first|with_reducible (first|refine zA fun Kn hK=>?_|refine zU ?_|refine Nx.go ?_|go_step)|refine ⟨_,hs,?_⟩|with_reducible (first|refine zI ?_|refine zV ?_)|simp (maxSteps:=9^9) (disch:=omega) only [wq]|with_reducible refine zM (fun hb=>?_) (fun hb=>?_)<;>try simp only [hb]|with_reducible refine And.intro (by first|omega|(simp;done)|(simp;omega)) ?_|simp (maxSteps:=9^9) -implicitDefEqProofs only [go_sem,gt_iff_lt,e1,e2,e5,ed,ek,bD]))
   all_goals try rfl
 rw [decide_eq_false c5] at e5
 rw [if_neg (by simp [c2,c5])]
 by_cases c3:t.kind=3
 ·rw [decide_eq_true c3] at e3
  rw [if_pos (.inl c3)]
  cases pl<;>cases zd
  all_goals
   refine spec_of Tryz.func164 rfl rfl rfl (by kernel_rfl) rfl fun K=>?_
   (repeat' (first|with_reducible (first|refine zA fun Kn hK=>?_|refine zU ?_|refine Nx.go ?_|go_step)|refine ⟨_,hs,?_⟩|with_reducible (first|refine zI ?_|refine zV ?_)|simp (maxSteps:=9^9) (disch:=omega) only [wq]|with_reducible refine zM (fun hb=>?_) (fun hb=>?_)<;>try simp only [hb]|with_reducible refine And.intro (by first|omega|(simp;done)|(simp;omega)) ?_|simp (maxSteps:=9^9) -implicitDefEqProofs only [go_sem,gt_iff_lt,e1,e2,e3,e5,ed,ek,bD]))
   all_goals try rfl
 rw [decide_eq_false c3] at e3
 by_cases c4:t.kind=4
 ·rw [decide_eq_true c4] at e4
  rw [if_pos (.inr c4)]
  cases pl<;>cases zd
  all_goals
   refine spec_of Tryz.func164 rfl rfl rfl (by kernel_rfl) rfl fun K=>?_
   (repeat' (first|with_reducible (first|refine zA fun Kn hK=>?_|refine zU ?_|refine Nx.go ?_|go_step)|refine ⟨_,hs,?_⟩|with_reducible (first|refine zI ?_|refine zV ?_)|simp (maxSteps:=9^9) (disch:=omega) only [wq]|with_reducible refine zM (fun hb=>?_) (fun hb=>?_)<;>try simp only [hb]|with_reducible refine And.intro (by first|omega|(simp;done)|(simp;omega)) ?_|simp (maxSteps:=9^9) -implicitDefEqProofs only [go_sem,gt_iff_lt,e1,e2,e3,e4,e5,ed,ek,bD]))
   all_goals try rfl
 rw [decide_eq_false c4] at e4
 rw [if_neg (by simp [c3,c4])]
 by_cases c6:t.kind=6
 ·rw [decide_eq_true c6] at e6
  rw [decide_eq_true c6]
  cases zk<;>cases zd<;>cases mr
  all_goals
   refine spec_of Tryz.func164 rfl rfl rfl (by kernel_rfl) rfl fun K=>?_
   (repeat' (first|with_reducible (first|refine zA fun Kn hK=>?_|refine zU ?_|refine Nx.go ?_|go_step)|refine ⟨_,hs,?_⟩|refine ⟨_,hm,?_⟩|with_reducible (first|refine zI ?_|refine zV ?_)|simp (maxSteps:=9^9) (disch:=omega) only [wq]|with_reducible refine zM (fun hb=>?_) (fun hb=>?_)<;>try simp only [hb]|with_reducible refine And.intro (by first|omega|(simp;done)|(simp;omega)) ?_|simp (maxSteps:=9^9) -implicitDefEqProofs only [go_sem,gt_iff_lt,e1,e2,e3,e4,e5,e6,ed,ek,bD]))
   all_goals try rfl
 ·rw [decide_eq_false c6] at e6
  rw [decide_eq_false c6]
  skip
  all_goals
   refine spec_of Tryz.func164 rfl rfl rfl (by kernel_rfl) rfl fun K=>?_
   (repeat' (first|with_reducible (first|refine zA fun Kn hK=>?_|refine zU ?_|refine Nx.go ?_|go_step)|refine ⟨_,hs,?_⟩|with_reducible (first|refine zI ?_|refine zV ?_)|simp (maxSteps:=9^9) (disch:=omega) only [wq]|with_reducible refine zM (fun hb=>?_) (fun hb=>?_)<;>try simp only [hb]|with_reducible refine And.intro (by first|omega|(simp;done)|(simp;omega)) ?_|simp (maxSteps:=9^9) -implicitDefEqProofs only [go_sem,gt_iff_lt,e1,e2,e3,e4,e5,e6,ed,ek,bD]))
   all_goals try rfl
def hitI {α:Type} (q:α→Bool) (l:List α):Int:=if l.any q=true then (l.findIdx q:Int) else -1
theorem hit_pos {α:Type} (q:α→Bool) (l:List α):decide (hitI q l≥0)=l.any q:=by
 unfold hitI
 cases h:l.any q with
 | true =>
  simp only [if_true,decide_eq_true_iff]
  omega
 | false=>simp
theorem hit_at {α:Type} {q:α→Bool} {l:List α} {k:Nat} {x:α} (hx:l[k]?=some x) (hq:q x=true) (hall: ∀ y∈l.take k,q y=false):hitI q l=(k:Int):=by
 unfold hitI
 rw [if_pos (List.any_eq_true.2 ⟨x,List.mem_of_getElem? hx,hq⟩)]
 obtain ⟨hk,e⟩:=List.getElem?_eq_some_iff.1 hx
 have:l.findIdx q=k:=(List.findIdx_eq hk).2 ⟨by rw [e];exact hq,fun j hj=>hall _ (List.mem_take_iff_getElem.2 ⟨j,by omega,rfl⟩)⟩
 rw [this]
theorem hit_no {α:Type} {q:α→Bool} {l:List α} (hall: ∀ y∈l,q y=false):hitI q l= -1:=by
 unfold hitI
 rw [if_neg]
 rw [List.any_eq_true]
 rintro ⟨x,hx,h⟩
 rw [hall x hx] at h
 cases h
theorem take_more {α:Type} {q:α→Bool} {l:List α} {k:Nat} {x:α} (hx:l[k]?=some x) (hq:q x=false) (hall: ∀ y∈l.take k,q y=false): ∀ y∈l.take (k+1),q y=false:=by
 intro y hy
 rw [List.take_add_one,hx] at hy
 rcases List.mem_append.1 hy with h|h
 ·exact hall y h
 ·simp at h
  rw [h]
  exact hq
theorem indexFuncTag (l:List Tg) (q:Tg→Bool) (f:FuncId) (caps:List D) (hf:funcOk Tryz.prog f=true) (hl:l.length≤100000000) (ih: ∀ x∈l,Spec Tryz.prog G f (.g (tagC x)::caps.map DV.c) (.one (.c (.v (.bool (q x)))))) :
  Spec Tryz.prog G 180 [.c (.sl l.length (l.flatMap tagC)),.c (.fn f caps)] (.one (.c (.v (.int .i64 (hitI q l))))):=by
 refine spec_of Tryz.func180 rfl rfl rfl (by kernel_rfl) rfl fun K=>?_
 (repeat' (first|with_reducible (first|refine zA fun Kn hK=>?_|refine zU ?_|refine Nx.go ?_|go_step)|with_reducible (first|refine zI ?_|refine zV ?_)|simp (maxSteps:=9^9) (disch:=omega) only [wq]|with_reducible refine zM (fun hb=>?_) (fun hb=>?_)<;>try simp only [hb]|with_reducible refine And.intro (by first|omega|(simp;done)|(simp;omega)) ?_|simp (maxSteps:=9^9) -implicitDefEqProofs only [go_sem,true_and]))
 refine sound_loopR (fun x:{k:Nat // k≤l.length∧ ∀ y∈l.take k,q y=false}=>⟨[(0,vD (.sl l.length (l.flatMap tagC))),(1,vD (.fn f caps)),(7,vI l.length),(8,vI x.1)],[]⟩) (fun x=>l.length-x.1) ⟨0,by simp⟩ [] (by (iterate 2 ((try simp (maxSteps:=9^9) -implicitDefEqProofs only [go_sem,true_and]);(try simp (maxSteps:=9^9) (disch:=omega) only [wq])));try simp) (fun ⟨k,hk,hall⟩=>?_)
 by_cases hlt:k<l.length
 ·obtain ⟨x,hx⟩: ∃ x,l[k]?=some x:=⟨_,List.getElem?_eq_getElem hlt⟩
  have hb:decide ((k:Int)<(l.length:Int))=true:=by simpa using hlt
  have hi:=ih x (List.mem_of_getElem? hx)
  cases hq:q x with
  | true =>
   rw [hq] at hi
   rw [hit_at hx hq hall]
   (repeat' (first|with_reducible (first|refine zA fun Kn hK=>?_|refine zU ?_|refine Nx.go ?_|go_step)|refine ⟨_,hi,?_⟩|with_reducible (first|refine zI ?_|refine zV ?_)|simp (maxSteps:=9^9) (disch:=omega) only [wq]|with_reducible refine zM (fun hb=>?_) (fun hb=>?_)<;>try simp only [hb]|with_reducible refine And.intro (by first|omega|(simp;done)|(simp;omega)) ?_|simp (maxSteps:=9^9) -implicitDefEqProofs only [go_sem,hb,hf,flat_at tagC_len hx]))
  | false =>
   rw [hq] at hi
   (repeat' (first|with_reducible (first|refine zA fun Kn hK=>?_|refine zU ?_|refine Nx.go ?_|go_step)|refine ⟨_,hi,?_⟩|with_reducible (first|refine zI ?_|refine zV ?_)|simp (maxSteps:=9^9) (disch:=omega) only [wq]|with_reducible refine zM (fun hb=>?_) (fun hb=>?_)<;>try simp only [hb]|with_reducible refine And.intro (by first|omega|(simp;done)|(simp;omega)) ?_|simp (maxSteps:=9^9) -implicitDefEqProofs only [go_sem,hb,hf,flat_at tagC_len hx]))
   refine ⟨[],⟨k+1,hlt,take_more hx hq hall⟩,?_⟩
   (iterate 2 ((try simp (maxSteps:=9^9) -implicitDefEqProofs only [go_sem,true_and]);(try simp (maxSteps:=9^9) (disch:=omega) only [wq])))
   (simp only [ijq,true_and,and_true];first|done|omega|(split<;>omega)|(simp;done)|(simp;omega))
 ·have hb:decide ((k:Int)<(l.length:Int))=false:=by simpa using hlt
  obtain rfl:k=l.length:=by omega
  rw [List.take_length] at hall
  (repeat' (first|with_reducible (first|refine zA fun Kn hK=>?_|refine zU ?_|refine Nx.go ?_|go_step)|with_reducible (first|refine zI ?_|refine zV ?_)|simp (maxSteps:=9^9) (disch:=omega) only [wq]|with_reducible refine zM (fun hb=>?_) (fun hb=>?_)<;>try simp only [hb]|with_reducible refine And.intro (by first|omega|(simp;done)|(simp;omega)) ?_|simp (maxSteps:=9^9) -implicitDefEqProofs only [go_sem,hb]))
  rw [hit_no hall]
theorem containsFuncTag (l:List Tg) (q:Tg→Bool) (f:FuncId) (caps:List D) (hf:funcOk Tryz.prog f=true) (hl:l.length≤100000000) (ih: ∀ x∈l,Spec Tryz.prog G f (.g (tagC x)::caps.map DV.c) (.one (.c (.v (.bool (q x)))))) :
  Spec Tryz.prog G 165 [.c (.sl l.length (l.flatMap tagC)),.c (.fn f caps)] (.one (.c (.v (.bool (l.any q))))):=by
 have h1:=indexFuncTag (G:=G) l q f caps hf hl ih
 rw [← hit_pos q l]
 refine spec_of Tryz.func165 rfl rfl rfl (by kernel_rfl) rfl fun K=>?_
 (repeat' (first|with_reducible (first|refine zA fun Kn hK=>?_|refine zU ?_|refine Nx.go ?_|go_step)|refine ⟨_,h1,?_⟩|with_reducible (first|refine zI ?_|refine zV ?_)|simp (maxSteps:=9^9) (disch:=omega) only [wq]|with_reducible refine zM (fun hb=>?_) (fun hb=>?_)<;>try simp only [hb]|with_reducible refine And.intro (by first|omega|(simp;done)|(simp;omega)) ?_|simp (maxSteps:=9^9) -implicitDefEqProofs only [go_sem,true_and]))
end
theorem flat_drop {α:Type} {f:α→List D} {n:Nat} (hf: ∀ x,(f x).length=n): ∀ (l:List α) (k:Nat),(l.flatMap f).drop (k*n)=(l.drop k).flatMap f
 | l,0=>by simp
 | [],k+1=>by simp
 | x::l,k+1=>by
  rw [List.flatMap_cons,List.drop_append,List.drop_of_length_le (by rw [hf,Nat.add_mul];omega),List.nil_append,hf,show (k+1)*n-n=k*n by rw [Nat.add_mul];omega,flat_drop hf l k]
  rfl
theorem len_pos {α:Type} {l:List α} {i:Nat} {x:α} (h:l[i]?=some x):i<l.length:=(List.getElem?_eq_some_iff.1 h).1
@[go_sem] theorem flat_takeT (l:List Tree):(l.flatMap treeC).take (l.length*5)=l.flatMap treeC:=List.take_of_length_le (by rw [treeC_flen];exact Nat.le_refl _)
section
variable {G:Nat→Option (List D)}
end
theorem any_not {α:Type} (q:α→Bool) (l:List α):(!l.any fun x=> !q x)=l.all q:=by
 induction l with
 | nil=>rfl
 | cons x l ih=>rw [List.any_cons,List.all_cons,← ih];cases q x<;>simp
def nodesP (t:Tg) (m:Nat):Nat:=t.kids.attach.foldl (fun n x=>if m<n then n else n+nodesP x.1 (m-n)) 1
termination_by SizeOf.sizeOf t
decreasing_by exact Tg.kid_lt x.2
theorem nodesP_eq (t:Tg) (m:Nat):nodesP t m=t.kids.foldl (fun n x=>if m<n then n else n+nodesP x (m-n)) 1:=by
 rw [nodesP]
 simp
theorem fold_stop {α:Type} {m:Nat} {f:α→Nat→Nat}: ∀ (l:List α) (n:Nat),m<n→l.foldl (fun n x=>if m<n then n else n+f x (m-n)) n=n
 | [],n,h=>rfl
 | x::l,n,h=>by rw [List.foldl_cons,if_pos h];exact fold_stop l n h
theorem fold_sum {α:Type} {m:Nat} {f:α→Nat→Nat} {g:α→Nat}: ∀ (l:List α) (n:Nat),(∀ x∈l,∀ k,f x k≤g x∧(g x≤k→f x k=g x)∧(k<g x→k<f x k)) →
  (l.foldl (fun n x=>if m<n then n else n+f x (m-n)) n≤n+(l.map g).sum)∧(n+(l.map g).sum≤m→l.foldl (fun n x=>if m<n then n else n+f x (m-n)) n=n+(l.map g).sum)∧(m<n+(l.map g).sum→m<l.foldl (fun n x=>if m<n then n else n+f x (m-n)) n)
 | [],n,_=>by simp
 | x :: l,n,h=>by
  rw [List.foldl_cons,List.map_cons,List.sum_cons]
  by_cases hn:m<n
  ·rw [if_pos hn,fold_stop l n hn]
   omega
  ·rw [if_neg hn]
   have h0:=h x (by simp) (m-n)
   have ih:=fold_sum (m:=m) (f:=f) l (n+f x (m-n)) fun y hy=>h y (by simp [hy])
   omega
theorem nodesP_ok: ∀ (t:Tg) (m:Nat),nodesP t m≤t.nodes∧(t.nodes≤m→nodesP t m=t.nodes)∧(m<t.nodes→m<nodesP t m):=by
 refine Tg.ind fun t ih m=>?_
 rw [nodesP_eq,Tg.nodes_eq]
 exact fold_sum t.kids 1 fun x hx k=>ih x hx k
section
variable {G:Nat→Option (List D)}
theorem pnodes_m: ∀ t:Tg,∀ (cs:List D) (m:Nat),tagC t=cs→t.wt≤1000000000→m≤1000000→Spec Tryz.prog G 134 [.g cs,.c (.v (.int .i64 m))] (.one (.c (.v (.int .i64 (nodesP t m))))):=Tg.ind fun t ih cs m hcs hw hm=>by
 subst hcs
 refine spec_of Tryz.func134 rfl rfl rfl (by kernel_rfl) rfl fun K=>?_
 rw [tagC_eq]
 (repeat' (first|with_reducible (first|refine zA fun Kn hK=>?_|refine zU ?_|refine Nx.go ?_|go_step)|with_reducible (first|refine zI ?_|refine zV ?_)|simp (maxSteps:=9^9) (disch:=omega) only [wq]|with_reducible refine zM (fun hb=>?_) (fun hb=>?_)<;>try simp only [hb]|with_reducible refine And.intro (by first|omega|(simp;done)|(simp;omega)) ?_|simp (maxSteps:=9^9) -implicitDefEqProofs only [go_sem,true_and,bD]))
 refine sound_loopR (fun x:{k:Nat // k≤t.kids.length}=>⟨[(1,vI m),(5,vI ((t.kids.take x.1).foldl (fun n x=>if m<n then n else n+nodesP x (m-n)) 1:Nat)),(9,vD (.sl t.kids.length (t.kids.flatMap tagC))),(10,vI t.kids.length),(11,vI x.1)],[]⟩) (fun x=>t.kids.length-x.1) ⟨0,by omega⟩ [] (by (iterate 2 ((try simp (maxSteps:=9^9) -implicitDefEqProofs only [go_sem,true_and]);(try simp (maxSteps:=9^9) (disch:=omega) only [wq])));try simp) (fun ⟨k,hk⟩=>?_)
 by_cases hlt:k<t.kids.length
 ·obtain ⟨x,hx⟩: ∃ x,t.kids[k]?=some x:=⟨_,List.getElem?_eq_getElem hlt⟩
  have h5:=t.wt_kids
  have hb:decide ((k:Int)<(t.kids.length:Int))=true:=by simpa using hlt
  have hs:(t.kids.take (k+1)).foldl (fun n x=>if m<n then n else n+nodesP x (m-n)) 1=if m<(t.kids.take k).foldl (fun n x=>if m<n then n else n+nodesP x (m-n)) 1 then (t.kids.take k).foldl (fun n x=>if m<n then n else n+nodesP x (m-n)) 1 else (t.kids.take k).foldl (fun n x=>if m<n then n else n+nodesP x (m-n)) 1+nodesP x (m-(t.kids.take k).foldl (fun n x=>if m<n then n else n+nodesP x (m-n)) 1):=by
   rw [List.take_add_one,hx,List.foldl_append]
   rfl
  have hbn:=(nodesP_ok x (m-(t.kids.take k).foldl (fun n x=>if m<n then n else n+nodesP x (m-n)) 1)).1
  have hxw:=Tg.nodes_wt x
  have hxk:=Tg.wt_kid (List.mem_of_getElem? hx)
  have hst:m<(t.kids.take k).foldl (fun n x=>if m<n then n else n+nodesP x (m-n)) 1→nodesP t m=(t.kids.take k).foldl (fun n x=>if m<n then n else n+nodesP x (m-n)) 1:=fun h=>by
   rw [nodesP_eq]
   conv=>lhs;rw [← List.take_append_drop k t.kids,List.foldl_append]
   exact fold_stop _ _ h
  generalize (t.kids.take k).foldl (fun n x=>if m<n then n else n+nodesP x (m-n)) 1=n at *
  by_cases hn:m<n
  ·have d:decide ((m:Int)<(n:Int))=true:=by simpa using hn
   (repeat' (first|with_reducible (first|refine zA fun Kn hK=>?_|refine zU ?_|refine Nx.go ?_|go_step)|with_reducible (first|refine zI ?_|refine zV ?_)|simp (maxSteps:=9^9) (disch:=omega) only [wq]|with_reducible refine zM (fun hb=>?_) (fun hb=>?_)<;>try simp only [hb]|with_reducible refine And.intro (by first|omega|(simp;done)|(simp;omega)) ?_|simp (maxSteps:=9^9) -implicitDefEqProofs only [go_sem,gt_iff_lt,hb,d,List.length_map,true_and,flat_at tagC_len hx]))
   rw [hst hn]
  ·have d:decide ((m:Int)<(n:Int))=false:=by simpa using hn
   have hc:=ih x (List.mem_of_getElem? hx) _ (m-n) rfl (by omega) (by omega)
   have em:(m:Int)-(n:Int)=((m-n:Nat):Int):=by omega
   rw [if_neg hn] at hs
   (repeat' (first|with_reducible (first|refine zA fun Kn hK=>?_|refine zU ?_|refine Nx.go ?_|go_step)|refine ⟨_,hc,?_⟩|with_reducible (first|refine zI ?_|refine zV ?_)|simp (maxSteps:=9^9) (disch:=omega) only [wq]|with_reducible refine zM (fun hb=>?_) (fun hb=>?_)<;>try simp only [hb]|with_reducible refine And.intro (by first|omega|(simp;done)|(simp;omega)) ?_|simp (maxSteps:=9^9) -implicitDefEqProofs only [go_sem,gt_iff_lt,hb,d,em,List.length_map,true_and,flat_at tagC_len hx]))
   refine ⟨[],⟨k+1,hlt⟩,?_⟩
   rw [hs]
   (iterate 2 ((try simp (maxSteps:=9^9) -implicitDefEqProofs only [go_sem,true_and]);(try simp (maxSteps:=9^9) (disch:=omega) only [wq])))
   (simp only [ijq,true_and,and_true];first|done|omega|(split<;>omega)|(simp;done)|(simp;omega))
 ·have hb:decide ((k:Int)<(t.kids.length:Int))=false:=by simpa using hlt
  obtain rfl:k=t.kids.length:=by omega
  rw [List.take_length,← nodesP_eq]
  (repeat' (first|with_reducible (first|refine zA fun Kn hK=>?_|refine zU ?_|refine Nx.go ?_|go_step)|with_reducible (first|refine zI ?_|refine zV ?_)|simp (maxSteps:=9^9) (disch:=omega) only [wq]|with_reducible refine zM (fun hb=>?_) (fun hb=>?_)<;>try simp only [hb]|with_reducible refine And.intro (by first|omega|(simp;done)|(simp;omega)) ?_|simp (maxSteps:=9^9) -implicitDefEqProofs only [go_sem,hb]))
theorem ordN_neq {x:Tg}:((x.kind.toNat:Int)==2)=decide (x.kind=2):=by
 have:((x.kind.toNat:Int)==((2:UInt8).toNat:Int))=decide (x.kind=2):=by rw [u8_beq];exact Bool.beq_eq_decide_eq _ _
 exact this
theorem tright_m: ∀ t:Tg,∀ (cs:List D) (k:Nat),tagC t=cs→t.wt≤30000000→k≤18→Spec Tryz.prog G 135 [.g cs,.c (.v (.int .i64 k))] (.one (.c (.v (.bool (t.rightD isV k))))):=Tg.ind fun t ih cs k hcs hw hk=>by
 subst hcs
 have hb:=blank_m (G:=G) t rfl (by omega)
 have h5:=t.wt_kids
 have hc:k≤17→Spec Tryz.prog G 165 [.c (.sl t.kids.length (t.kids.flatMap tagC)),.c (.fn 166 [.ptr [.v (.int .i64 k)] 0])] (.one (.c (.v (.bool (t.kids.any fun x=> !x.rightD isV (k+1)))))):=fun hk7=>by
  refine containsFuncTag t.kids _ _ _ (by kernel_rfl) (by omega) fun x hx=>?_
  have hx':=ih x hx _ (k+1) rfl (by have:=Tg.wt_kid hx;omega) (by omega)
  rw [tagC_eq] at hx' ⊢
  unfold bD bytesD at *
  refine spec_of Tryz.func166 rfl rfl rfl (by kernel_rfl) rfl fun K=>?_
  (repeat' (first|with_reducible (first|refine zA fun Kn hK=>?_|refine zU ?_|refine Nx.go ?_|go_step)|refine ⟨_,hx',?_⟩|with_reducible (first|refine zI ?_|refine zV ?_)|simp (maxSteps:=9^9) (disch:=omega) only [wq]|with_reducible refine zM (fun hb=>?_) (fun hb=>?_)<;>try simp only [hb]|with_reducible refine And.intro (by first|omega|(simp;done)|(simp;omega)) ?_|simp (maxSteps:=9^9) -implicitDefEqProofs only [go_sem,List.map_cons]))
 have dk:decide ((k:Int)>17)= !decide (k≤17):=by
  rw [← decide_not,decide_eq_decide]
  omega
 have e3:((t.kind.toNat:Int)==3)=decide (t.kind=3):=by
  have:((t.kind.toNat:Int)==((3:UInt8).toNat:Int))=decide (t.kind=3):=by rw [u8_beq];exact Bool.beq_eq_decide_eq _ _
  exact this
 rw [Tg.rightD_eq,Tg.ok,← any_not]
 rw [tagC_eq] at hb ⊢
 have hst:t.starL=(decide (t.kind=3)&&headA t.kids):=rfl
 rw [hst]
 clear hst
 generalize (t.kids.any fun x=> !x.rightD isV (k+1))=y at *
 unfold bD bytesD at *
 cases hbl:t.blank isV with
 | false =>
  rw [hbl] at hb
  refine spec_of Tryz.func135 rfl rfl rfl (by kernel_rfl) rfl fun K=>?_
  (repeat' (first|with_reducible (first|refine zA fun Kn hK=>?_|refine zU ?_|refine Nx.go ?_|go_step)|refine ⟨_,hb,?_⟩|with_reducible (first|refine zI ?_|refine zV ?_)|simp (maxSteps:=9^9) (disch:=omega) only [wq]|with_reducible refine zM (fun hb=>?_) (fun hb=>?_)<;>try simp only [hb]|with_reducible refine And.intro (by first|omega|(simp;done)|(simp;omega)) ?_|simp (maxSteps:=9^9) -implicitDefEqProofs only [go_sem,gt_iff_lt,Bool.false_and]))
 | true =>
  rw [hbl] at hb
  by_cases hk7:k≤17
  ·have hc:=hc hk7
   rw [decide_eq_true hk7] at dk ⊢
   by_cases c3:t.kind=3
   ·rw [decide_eq_true c3] at e3 ⊢
    by_cases hk0:t.kids=[]
    ·have hh:headA t.kids=false:=by rw [hk0];rfl
     have ek:decide ((t.kids.length:Int)>0)=false:=by rw [hk0];rfl
     rw [hh]
     clear hk0
     refine spec_of Tryz.func135 rfl rfl rfl (by kernel_rfl) rfl fun K=>?_
     (repeat' (first|with_reducible (first|refine zA fun Kn hK=>?_|refine zU ?_|refine Nx.go ?_|go_step)|refine ⟨_,hb,?_⟩|refine ⟨_,hc,?_⟩|with_reducible (first|refine zI ?_|refine zV ?_)|simp (maxSteps:=9^9) (disch:=omega) only [wq]|with_reducible refine zM (fun hb=>?_) (fun hb=>?_)<;>try simp only [hb]|with_reducible refine And.intro (by first|omega|(simp;done)|(simp;omega)) ?_|simp (maxSteps:=9^9) -implicitDefEqProofs only [go_sem,dk,List.mapM_cons,List.mapM_nil,Option.bind_some,Option.pure_def,e3,ek,Bool.true_and]))
     all_goals try rfl
    ·obtain ⟨x,l,hkc⟩:=List.exists_cons_of_ne_nil hk0
     have hh:headA t.kids=(decide (x.kind=2)&&decide (x.data=wStar)):=by rw [hkc];rfl
     have ek:decide ((t.kids.length:Int)>0)=true:=by rw [hkc,List.length_cons];simp
     have hl:(0:Int)<(t.kids.length:Int):=by rw [hkc,List.length_cons];omega
     have hl2:0<t.kids.length:=by omega
     have hx:t.kids[0]?=some x:=by rw [hkc];rfl
     have f2:=ordN_neq (x:=x)
     have f3:(x.data==[42])=decide (x.data=wStar):=Bool.beq_eq_decide_eq _ _
     clear hkc hk0
     rw [hh]
     have hF:=flat_at (f:=tagC) tagC_len hx
     simp only [Nat.zero_mul,List.drop_zero] at hF
     have kk: ∀ i,i<10→(t.kids.flatMap tagC)[i]?=(tagC x)[i]?:=fun i hi=>by rw [← hF,List.getElem?_take,if_pos hi]
     have g0:=kk 0 (by omega)
     have g1:=kk 1 (by omega)
     clear kk
     rw [tagC_eq] at g0 g1
     simp only [List.getElem?_cons_zero,List.getElem?_cons_succ,bD,bytesD] at g0 g1
     generalize decide (x.kind=2)=y1 at *
     generalize decide (x.data=wStar)=y2 at *
     cases y1<;>cases y2
     all_goals
      refine spec_of Tryz.func135 rfl rfl rfl (by kernel_rfl) rfl fun K=>?_
      (repeat' (first|with_reducible (first|refine zA fun Kn hK=>?_|refine zU ?_|refine Nx.go ?_|go_step)|refine ⟨_,hb,?_⟩|refine ⟨_,hc,?_⟩|(refine ⟨x.data,?_⟩)|with_reducible (first|refine zI ?_|refine zV ?_)|simp (maxSteps:=9^9) (disch:=omega) only [wq]|with_reducible refine zM (fun hb=>?_) (fun hb=>?_)<;>try simp only [hb]|with_reducible refine And.intro (by first|omega|(simp;done)|(simp;omega)) ?_|simp (maxSteps:=9^9) -implicitDefEqProofs only [go_sem,dk,List.mapM_cons,List.mapM_nil,Option.bind_some,Option.pure_def,e3,ek,hl,hl2,true_and,g0,g1,f2,f3,bD,decide_true,Bool.true_and]))
      all_goals try rfl
   ·rw [decide_eq_false c3] at e3 ⊢
    refine spec_of Tryz.func135 rfl rfl rfl (by kernel_rfl) rfl fun K=>?_
    (repeat' (first|with_reducible (first|refine zA fun Kn hK=>?_|refine zU ?_|refine Nx.go ?_|go_step)|refine ⟨_,hb,?_⟩|refine ⟨_,hc,?_⟩|with_reducible (first|refine zI ?_|refine zV ?_)|simp (maxSteps:=9^9) (disch:=omega) only [wq]|with_reducible refine zM (fun hb=>?_) (fun hb=>?_)<;>try simp only [hb]|with_reducible refine And.intro (by first|omega|(simp;done)|(simp;omega)) ?_|simp (maxSteps:=9^9) -implicitDefEqProofs only [go_sem,dk,List.mapM_cons,List.mapM_nil,Option.bind_some,Option.pure_def,e3,Bool.true_and]))
    all_goals try rfl
  ·rw [decide_eq_false hk7] at dk ⊢
   refine spec_of Tryz.func135 rfl rfl rfl (by kernel_rfl) rfl fun K=>?_
   (repeat' (first|with_reducible (first|refine zA fun Kn hK=>?_|refine zU ?_|refine Nx.go ?_|go_step)|refine ⟨_,hb,?_⟩|with_reducible (first|refine zI ?_|refine zV ?_)|simp (maxSteps:=9^9) (disch:=omega) only [wq]|with_reducible refine zM (fun hb=>?_) (fun hb=>?_)<;>try simp only [hb]|with_reducible refine And.intro (by first|omega|(simp;done)|(simp;omega)) ?_|simp (maxSteps:=9^9) -implicitDefEqProofs only [go_sem,dk,List.mapM_cons,List.mapM_nil,Option.bind_some,Option.pure_def,Bool.true_and]))
   all_goals simp
end
theorem list_m' {G:Nat→Option (List D)} (l:List Tree) {n:Nat} {cs:List D} (hn:n=l.length) (hc:cs=l.flatMap treeC) (hl:l.length≤100000000):Spec Tryz.prog G 51 [.c (.sl n cs)] (.one (.g (treeC (listT l)))):=by
 subst hn hc
 exact list_m l hl
@[go_sem] def keyC (s:Bool) (d:List UInt8):List D:=[.v (.bool s),bytesD d]
theorem kmay_m {G:Nat→Option (List D)} (s:Bool) (d:List UInt8):Spec Tryz.prog G 128 [.g (keyC s d)] (.one (.c (.v (.bool (keyMay s d))))):=by
 refine spec_of Tryz.func128 rfl rfl rfl (by kernel_rfl) rfl fun K=>?_
 cases s<;>(repeat' (first|with_reducible (first|refine zA fun Kn hK=>?_|refine zU ?_|refine Nx.go ?_|go_step)|with_reducible (first|refine zI ?_|refine zV ?_)|simp (maxSteps:=9^9) (disch:=omega) only [wq]|with_reducible refine zM (fun hb=>?_) (fun hb=>?_)<;>try simp only [hb]|with_reducible refine And.intro (by first|omega|(simp;done)|(simp;omega)) ?_|simp (maxSteps:=9^9) -implicitDefEqProofs only [go_sem,int_beqL]))
 all_goals (rw [keyMay];rfl)
theorem kput_m {G:Nat→Option (List D)} (s:Bool) (d:List UInt8) (hd:d.length≤1000000000):Spec Tryz.prog G 111 [.g (keyC s d)] (.many [.g (treeC (keyOut s d)),.c (.v (.int .i64 (keyErr s d)))]):=by
 refine spec_of Tryz.func111 rfl rfl rfl (by kernel_rfl) rfl fun K=>?_
 cases hm:keyMay s d with
 | false =>
  (repeat' (first|with_reducible (first|refine zA fun Kn hK=>?_|refine zU ?_|refine Nx.go ?_|go_step)|refine ⟨none,?_⟩|(refine ⟨_,bclone_m d (by omega),?_⟩)|refine ⟨_,kmay_m s d,?_⟩|with_reducible (first|refine zI ?_|refine zV ?_)|simp (maxSteps:=9^9) (disch:=omega) only [wq]|with_reducible refine zM (fun hb=>?_) (fun hb=>?_)<;>try simp only [hb]|with_reducible refine And.intro (by first|omega|(simp;done)|(simp;omega)) ?_|simp (maxSteps:=9^9) -implicitDefEqProofs only [go_sem,hm]))
  all_goals (rw [keyOut,keyErr,hm];simp only [↓reduceIte,Bool.false_eq_true,zeroT,treeC_mk];rfl)
 | true =>
  cases s with
  | false =>
   (repeat' (first|with_reducible (first|refine zA fun Kn hK=>?_|refine zU ?_|refine Nx.go ?_|go_step)|refine ⟨none,?_⟩|(refine ⟨_,bclone_m d (by omega),?_⟩)|refine ⟨_,kmay_m false d,?_⟩|(refine ⟨_,atom_m tPub (by decide),?_⟩)|(refine ⟨_,atom_m tEd (by decide),?_⟩)|(refine ⟨_,list_m' [atomT tEd,atomT d] (by rfl) (by first|(simp only [atomT,listT,List.flatMap_cons,List.flatMap_nil,treeC_mk,bytesD,List.cons_append,List.nil_append,List.length_cons,List.length_nil,List.map_nil,Nat.reduceAdd,List.append_nil];done)|(simp only [atomT,listT,List.flatMap_cons,List.flatMap_nil,treeC_mk,bytesD,List.cons_append,List.nil_append,List.length_cons,List.length_nil,List.map_nil,Nat.reduceAdd,List.append_nil];rfl)) (by simp),?_⟩)|(refine ⟨_,list_m' [atomT tPub,listT [atomT tEd,atomT d] ] (by rfl) (by first|(simp only [atomT,listT,List.flatMap_cons,List.flatMap_nil,treeC_mk,bytesD,List.cons_append,List.nil_append,List.length_cons,List.length_nil,List.map_nil,Nat.reduceAdd,List.append_nil];done)|(simp only [atomT,listT,List.flatMap_cons,List.flatMap_nil,treeC_mk,bytesD,List.cons_append,List.nil_append,List.length_cons,List.length_nil,List.map_nil,Nat.reduceAdd,List.append_nil];rfl)) (by simp),?_⟩)|with_reducible (first|refine zI ?_|refine zV ?_)|simp (maxSteps:=9^9) (disch:=omega) only [wq]|with_reducible refine zM (fun hb=>?_) (fun hb=>?_)<;>try simp only [hb]|with_reducible refine And.intro (by first|omega|(simp;done)|(simp;omega)) ?_|simp (maxSteps:=9^9) -implicitDefEqProofs only [go_sem,hm,treeC_mk,atomT,listT]))
   all_goals (simp only [keyOut,keyErr,hm,keyV, ↓reduceIte,Bool.false_eq_true,listT,atomT,treeC_mk,List.flatMap_cons,List.flatMap_nil];rfl)
  | true =>
   (repeat' (first|with_reducible (first|refine zA fun Kn hK=>?_|refine zU ?_|refine Nx.go ?_|go_step)|refine ⟨none,?_⟩|(refine ⟨_,bclone_m d (by omega),?_⟩)|refine ⟨_,kmay_m true d,?_⟩|(refine ⟨_,atom_m tHash (by decide),?_⟩)|(refine ⟨_,atom_m tSha (by decide),?_⟩)|(refine ⟨_,list_m' [atomT tHash,atomT tSha,atomT d] (by rfl) (by first|(simp only [atomT,listT,List.flatMap_cons,List.flatMap_nil,treeC_mk,bytesD,List.cons_append,List.nil_append,List.length_cons,List.length_nil,List.map_nil,Nat.reduceAdd,List.append_nil];done)|(simp only [atomT,listT,List.flatMap_cons,List.flatMap_nil,treeC_mk,bytesD,List.cons_append,List.nil_append,List.length_cons,List.length_nil,List.map_nil,Nat.reduceAdd,List.append_nil];rfl)) (by simp),?_⟩)|with_reducible (first|refine zI ?_|refine zV ?_)|simp (maxSteps:=9^9) (disch:=omega) only [wq]|with_reducible refine zM (fun hb=>?_) (fun hb=>?_)<;>try simp only [hb]|with_reducible refine And.intro (by first|omega|(simp;done)|(simp;omega)) ?_|simp (maxSteps:=9^9) -implicitDefEqProofs only [go_sem,hm,treeC_mk,atomT,listT]))
   all_goals (simp only [keyOut,keyErr,hm,keyV, ↓reduceIte,Bool.false_eq_true,listT,atomT,treeC_mk,List.flatMap_cons,List.flatMap_nil];rfl)
def sbC (s:Sb):List D:=[bD s.kind,.v (.bool s.ks),bytesD s.kd,.sl s.names.length (s.names.map bytesD),.v (.int .i64 s.k),.sl s.kids.length (s.kids.attach.map fun x=>sbC x.1).flatten]
termination_by SizeOf.sizeOf s
decreasing_by exact Sb.kid_lt x.2
theorem sbC_eq (s:Sb):sbC s=[bD s.kind,.v (.bool s.ks),bytesD s.kd,.sl s.names.length (s.names.map bytesD),.v (.int .i64 s.k),.sl s.kids.length (s.kids.flatMap sbC)]:=by
 rw [sbC]
 simp [List.flatMap]
theorem sbC_mk (a:UInt8) (b:Bool) (c:List UInt8) (ns:List (List UInt8)) (k:Int) (l:List Sb):sbC (.mk a b c ns k l)=[bD a,.v (.bool b),bytesD c,.sl ns.length (ns.map bytesD),.v (.int .i64 k),.sl l.length (l.flatMap sbC)]:=sbC_eq _
@[go_sem] theorem sbC_len (s:Sb):(sbC s).length=6:=by rw [sbC_eq];rfl
@[go_sem] theorem sbC_take (s:Sb):((sbC s).map C.d).take 6=(sbC s).map C.d:=List.take_of_length_le (by rw [List.length_map,sbC_len];exact Nat.le_refl _)
@[go_sem] theorem sbC_flen (l:List Sb):(l.flatMap sbC).length=l.length*6:=flat_len sbC_len l
def Sb.fit (s:Sb):Prop:=(s.kids.length≤1000∧s.names.length≤1000∧s.kd.length≤5000∧ ∀ n∈s.names,n.length≤5000)∧ ∀ (x:Sb) (h:x∈s.kids),Sb.fit x
termination_by SizeOf.sizeOf s
decreasing_by exact Sb.kid_lt h
theorem Sb.fit_eq (s:Sb):s.fit=((s.kids.length≤1000∧s.names.length≤1000∧s.kd.length≤5000∧ ∀ n∈s.names,n.length≤5000)∧ ∀ (x:Sb) (h:x∈s.kids),Sb.fit x):=by
 rw [Sb.fit]
theorem Sb.fit.here {s:Sb} (h:s.fit):s.kids.length≤1000∧s.names.length≤1000∧s.kd.length≤5000∧ ∀ n∈s.names,n.length≤5000:=by
 rw [Sb.fit_eq] at h
 exact h.1
theorem Sb.fit.kid {s x:Sb} (h:s.fit) (hx:x∈s.kids):x.fit:=by
 rw [Sb.fit_eq] at h
 exact h.2 x hx
theorem row_at {l:List (List UInt8)} {k:Nat} {x:List UInt8} (h:l[k]?=some x):(l.map bytesD)[k]?=some (bytesD x):=by
 rw [List.getElem?_map,h]
 rfl
section
variable {G:Nat→Option (List D)}
theorem blank1_m (x:List UInt8):Spec Tryz.prog G 152 [.c (bytesD x)] (.one (.c (.v (.bool (emptyL x))))):=by
 have e:=len0_empty x
 unfold bytesD
 generalize emptyL x=q at *
 refine spec_of Tryz.func152 rfl rfl rfl (by kernel_rfl) rfl fun K=>?_
 (repeat' (first|with_reducible (first|refine zA fun Kn hK=>?_|refine zU ?_|refine Nx.go ?_|go_step)|with_reducible (first|refine zI ?_|refine zV ?_)|simp (maxSteps:=9^9) (disch:=omega) only [wq]|with_reducible refine zM (fun hb=>?_) (fun hb=>?_)<;>try simp only [hb]|with_reducible refine And.intro (by first|omega|(simp;done)|(simp;omega)) ?_|simp (maxSteps:=9^9) -implicitDefEqProofs only [go_sem,e]))
theorem indexN_m (l:List (List UInt8)) (hl:l.length≤100000000):Spec Tryz.prog G 173 [.c (.sl l.length (l.map bytesD)),.c (.v (.func (.func 152) #[] #[]))] (.one (.c (.v (.int .i64 (hitI emptyL l))))):=by
 refine spec_of Tryz.func173 rfl rfl rfl (by kernel_rfl) rfl fun K=>?_
 (repeat' (first|with_reducible (first|refine zA fun Kn hK=>?_|refine zU ?_|refine Nx.go ?_|go_step)|with_reducible (first|refine zI ?_|refine zV ?_)|simp (maxSteps:=9^9) (disch:=omega) only [wq]|with_reducible refine zM (fun hb=>?_) (fun hb=>?_)<;>try simp only [hb]|with_reducible refine And.intro (by first|omega|(simp;done)|(simp;omega)) ?_|simp (maxSteps:=9^9) -implicitDefEqProofs only [go_sem,true_and]))
 refine sound_loopR (fun x:{k:Nat // k≤l.length∧ ∀ y∈l.take k,emptyL y=false}=>⟨[(0,vD (.sl l.length (l.map bytesD))),(1,vD (.v (.func (.func 152) #[] #[]))),(7,vI l.length),(8,vI x.1)],[]⟩) (fun x=>l.length-x.1) ⟨0,by simp⟩ [] (by (iterate 2 ((try simp (maxSteps:=9^9) -implicitDefEqProofs only [go_sem,true_and]);(try simp (maxSteps:=9^9) (disch:=omega) only [wq])));try simp) (fun ⟨k,hk,hall⟩=>?_)
 by_cases hlt:k<l.length
 ·obtain ⟨x,hx⟩: ∃ x,l[k]?=some x:=⟨_,List.getElem?_eq_getElem hlt⟩
  have hb:decide ((k:Int)<(l.length:Int))=true:=by simpa using hlt
  have hi:=blank1_m (G:=G) x
  have hr:=row_at hx
  cases hq:emptyL x with
  | true =>
   rw [hq] at hi
   (repeat' (first|with_reducible (first|refine zA fun Kn hK=>?_|refine zU ?_|refine Nx.go ?_|go_step)|refine ⟨_,hi,?_⟩|with_reducible (first|refine zI ?_|refine zV ?_)|simp (maxSteps:=9^9) (disch:=omega) only [wq]|with_reducible refine zM (fun hb=>?_) (fun hb=>?_)<;>try simp only [hb]|with_reducible refine And.intro (by first|omega|(simp;done)|(simp;omega)) ?_|simp (maxSteps:=9^9) -implicitDefEqProofs only [go_sem,hb,hr,List.length_map]))
   rw [hit_at hx hq hall]
  | false =>
   rw [hq] at hi
   (repeat' (first|with_reducible (first|refine zA fun Kn hK=>?_|refine zU ?_|refine Nx.go ?_|go_step)|refine ⟨_,hi,?_⟩|with_reducible (first|refine zI ?_|refine zV ?_)|simp (maxSteps:=9^9) (disch:=omega) only [wq]|with_reducible refine zM (fun hb=>?_) (fun hb=>?_)<;>try simp only [hb]|with_reducible refine And.intro (by first|omega|(simp;done)|(simp;omega)) ?_|simp (maxSteps:=9^9) -implicitDefEqProofs only [go_sem,hb,hr,List.length_map]))
   refine ⟨[],⟨k+1,hlt,take_more hx hq hall⟩,?_⟩
   (iterate 2 ((try simp (maxSteps:=9^9) -implicitDefEqProofs only [go_sem,true_and]);(try simp (maxSteps:=9^9) (disch:=omega) only [wq])))
   (simp only [ijq,true_and,and_true];first|done|omega|(split<;>omega)|(simp;done)|(simp;omega))
 ·have hb:decide ((k:Int)<(l.length:Int))=false:=by simpa using hlt
  obtain rfl:k=l.length:=by omega
  rw [List.take_length] at hall
  (repeat' (first|with_reducible (first|refine zA fun Kn hK=>?_|refine zU ?_|refine Nx.go ?_|go_step)|with_reducible (first|refine zI ?_|refine zV ?_)|simp (maxSteps:=9^9) (disch:=omega) only [wq]|with_reducible refine zM (fun hb=>?_) (fun hb=>?_)<;>try simp only [hb]|with_reducible refine And.intro (by first|omega|(simp;done)|(simp;omega)) ?_|simp (maxSteps:=9^9) -implicitDefEqProofs only [go_sem,hb]))
  rw [hit_no hall]
theorem containsN_m (l:List (List UInt8)) (hl:l.length≤100000000):Spec Tryz.prog G 153 [.c (.sl l.length (l.map bytesD)),.c (.v (.func (.func 152) #[] #[]))] (.one (.c (.v (.bool (l.any emptyL))))):=by
 have h1:=indexN_m (G:=G) l hl
 rw [← hit_pos emptyL l]
 refine spec_of Tryz.func153 rfl rfl rfl (by kernel_rfl) rfl fun K=>?_
 (repeat' (first|with_reducible (first|refine zA fun Kn hK=>?_|refine zU ?_|refine Nx.go ?_|go_step)|refine ⟨_,h1,?_⟩|with_reducible (first|refine zI ?_|refine zV ?_)|simp (maxSteps:=9^9) (disch:=omega) only [wq]|with_reducible refine zM (fun hb=>?_) (fun hb=>?_)<;>try simp only [hb]|with_reducible refine And.intro (by first|omega|(simp;done)|(simp;omega)) ?_|simp (maxSteps:=9^9) -implicitDefEqProofs only [go_sem,true_and]))
theorem indexFuncSb (l:List Sb) (q:Sb→Bool) (f:FuncId) (caps:List D) (hf:funcOk Tryz.prog f=true) (hl:l.length≤100000000) (ih: ∀ x∈l,Spec Tryz.prog G f (.g (sbC x)::caps.map DV.c) (.one (.c (.v (.bool (q x)))))) :
  Spec Tryz.prog G 174 [.c (.sl l.length (l.flatMap sbC)),.c (.fn f caps)] (.one (.c (.v (.int .i64 (hitI q l))))):=by
 refine spec_of Tryz.func174 rfl rfl rfl (by kernel_rfl) rfl fun K=>?_
 (repeat' (first|with_reducible (first|refine zA fun Kn hK=>?_|refine zU ?_|refine Nx.go ?_|go_step)|with_reducible (first|refine zI ?_|refine zV ?_)|simp (maxSteps:=9^9) (disch:=omega) only [wq]|with_reducible refine zM (fun hb=>?_) (fun hb=>?_)<;>try simp only [hb]|with_reducible refine And.intro (by first|omega|(simp;done)|(simp;omega)) ?_|simp (maxSteps:=9^9) -implicitDefEqProofs only [go_sem,true_and]))
 refine sound_loopR (fun x:{k:Nat // k≤l.length∧ ∀ y∈l.take k,q y=false}=>⟨[(0,vD (.sl l.length (l.flatMap sbC))),(1,vD (.fn f caps)),(7,vI l.length),(8,vI x.1)],[]⟩) (fun x=>l.length-x.1) ⟨0,by simp⟩ [] (by (iterate 2 ((try simp (maxSteps:=9^9) -implicitDefEqProofs only [go_sem,true_and]);(try simp (maxSteps:=9^9) (disch:=omega) only [wq])));try simp) (fun ⟨k,hk,hall⟩=>?_)
 by_cases hlt:k<l.length
 ·obtain ⟨x,hx⟩: ∃ x,l[k]?=some x:=⟨_,List.getElem?_eq_getElem hlt⟩
  have hb:decide ((k:Int)<(l.length:Int))=true:=by simpa using hlt
  have hi:=ih x (List.mem_of_getElem? hx)
  cases hq:q x with
  | true =>
   rw [hq] at hi
   rw [hit_at hx hq hall]
   (repeat' (first|with_reducible (first|refine zA fun Kn hK=>?_|refine zU ?_|refine Nx.go ?_|go_step)|refine ⟨_,hi,?_⟩|with_reducible (first|refine zI ?_|refine zV ?_)|simp (maxSteps:=9^9) (disch:=omega) only [wq]|with_reducible refine zM (fun hb=>?_) (fun hb=>?_)<;>try simp only [hb]|with_reducible refine And.intro (by first|omega|(simp;done)|(simp;omega)) ?_|simp (maxSteps:=9^9) -implicitDefEqProofs only [go_sem,hb,hf,flat_at sbC_len hx]))
  | false =>
   rw [hq] at hi
   (repeat' (first|with_reducible (first|refine zA fun Kn hK=>?_|refine zU ?_|refine Nx.go ?_|go_step)|refine ⟨_,hi,?_⟩|with_reducible (first|refine zI ?_|refine zV ?_)|simp (maxSteps:=9^9) (disch:=omega) only [wq]|with_reducible refine zM (fun hb=>?_) (fun hb=>?_)<;>try simp only [hb]|with_reducible refine And.intro (by first|omega|(simp;done)|(simp;omega)) ?_|simp (maxSteps:=9^9) -implicitDefEqProofs only [go_sem,hb,hf,flat_at sbC_len hx]))
   refine ⟨[],⟨k+1,hlt,take_more hx hq hall⟩,?_⟩
   (iterate 2 ((try simp (maxSteps:=9^9) -implicitDefEqProofs only [go_sem,true_and]);(try simp (maxSteps:=9^9) (disch:=omega) only [wq])))
   (simp only [ijq,true_and,and_true];first|done|omega|(split<;>omega)|(simp;done)|(simp;omega))
 ·have hb:decide ((k:Int)<(l.length:Int))=false:=by simpa using hlt
  obtain rfl:k=l.length:=by omega
  rw [List.take_length] at hall
  (repeat' (first|with_reducible (first|refine zA fun Kn hK=>?_|refine zU ?_|refine Nx.go ?_|go_step)|with_reducible (first|refine zI ?_|refine zV ?_)|simp (maxSteps:=9^9) (disch:=omega) only [wq]|with_reducible refine zM (fun hb=>?_) (fun hb=>?_)<;>try simp only [hb]|with_reducible refine And.intro (by first|omega|(simp;done)|(simp;omega)) ?_|simp (maxSteps:=9^9) -implicitDefEqProofs only [go_sem,hb]))
  rw [hit_no hall]
theorem containsFuncSb (l:List Sb) (q:Sb→Bool) (f:FuncId) (caps:List D) (hf:funcOk Tryz.prog f=true) (hl:l.length≤100000000) (ih: ∀ x∈l,Spec Tryz.prog G f (.g (sbC x)::caps.map DV.c) (.one (.c (.v (.bool (q x)))))) :
  Spec Tryz.prog G 154 [.c (.sl l.length (l.flatMap sbC)),.c (.fn f caps)] (.one (.c (.v (.bool (l.any q))))):=by
 have h1:=indexFuncSb (G:=G) l q f caps hf hl ih
 rw [← hit_pos q l]
 refine spec_of Tryz.func154 rfl rfl rfl (by kernel_rfl) rfl fun K=>?_
 (repeat' (first|with_reducible (first|refine zA fun Kn hK=>?_|refine zU ?_|refine Nx.go ?_|go_step)|refine ⟨_,h1,?_⟩|with_reducible (first|refine zI ?_|refine zV ?_)|simp (maxSteps:=9^9) (disch:=omega) only [wq]|with_reducible refine zM (fun hb=>?_) (fun hb=>?_)<;>try simp only [hb]|with_reducible refine And.intro (by first|omega|(simp;done)|(simp;omega)) ?_|simp (maxSteps:=9^9) -implicitDefEqProofs only [go_sem,true_and]))
theorem int0 (n:Int):(n==0)=decide (n=0):=Bool.beq_eq_decide_eq _ _
theorem splain_m (s:Sb) {cs:List D} (hcs:sbC s=cs):Spec Tryz.prog G 151 [.g cs] (.one (.c (.v (.bool s.plain)))):=by
 subst hcs
 have hk:=kmay_m (G:=G) s.ks s.kd
 have e:=len0_empty s.kids
 have e0:=int0 s.k
 unfold Sb.plain
 rw [sbC_eq]
 generalize keyMay s.ks s.kd=q at *
 generalize emptyL s.kids=z at *
 generalize decide (s.k=0)=y at *
 unfold keyC bD bytesD at *
 cases y<;>cases z
 all_goals
  refine spec_of Tryz.func151 rfl rfl rfl (by kernel_rfl) rfl fun K=>?_
  (repeat' (first|with_reducible (first|refine zA fun Kn hK=>?_|refine zU ?_|refine Nx.go ?_|go_step)|refine ⟨_,hk,?_⟩|with_reducible (first|refine zI ?_|refine zV ?_)|simp (maxSteps:=9^9) (disch:=omega) only [wq]|with_reducible refine zM (fun hb=>?_) (fun hb=>?_)<;>try simp only [hb]|with_reducible refine And.intro (by first|omega|(simp;done)|(simp;omega)) ?_|simp (maxSteps:=9^9) -implicitDefEqProofs only [go_sem,e,e0,decide_true]))
  all_goals rfl
theorem any_empty (l:List (List UInt8)):(!l.any emptyL)=l.all fun n=> !emptyL n:=by
 induction l with
 | nil=>rfl
 | cons x l ih=>rw [List.any_cons,List.all_cons,← ih,Bool.not_or]
theorem sright_m: ∀ s:Sb,∀ (cs:List D) (k:Nat),sbC s=cs→s.fit→k≤4→Spec Tryz.prog G 129 [.g cs,.c (.v (.int .i64 k))] (.one (.c (.v (.bool (s.right k))))):=Sb.ind fun s ih cs k hcs hw hk=>by
 subst hcs
 have hp:=splain_m (G:=G) s rfl
 obtain ⟨f1,f2,f3,f4⟩:=hw.here
 have hcn:=containsN_m (G:=G) s.names (by omega)
 have hc:k≤3→Spec Tryz.prog G 154 [.c (.sl s.kids.length (s.kids.flatMap sbC)),.c (.fn 155 [.ptr [.v (.int .i64 k)] 0])] (.one (.c (.v (.bool (s.kids.any fun x=> !x.right (k+1)))))):=fun hk7=>by
  refine containsFuncSb s.kids _ _ _ (by kernel_rfl) (by omega) fun x hx=>?_
  have hx':=ih x hx _ (k+1) rfl (hw.kid hx) (by omega)
  rw [sbC_eq] at hx' ⊢
  unfold bD bytesD at *
  refine spec_of Tryz.func155 rfl rfl rfl (by kernel_rfl) rfl fun K=>?_
  (repeat' (first|with_reducible (first|refine zA fun Kn hK=>?_|refine zU ?_|refine Nx.go ?_|go_step)|refine ⟨_,hx',?_⟩|with_reducible (first|refine zI ?_|refine zV ?_)|simp (maxSteps:=9^9) (disch:=omega) only [wq]|with_reducible refine zM (fun hb=>?_) (fun hb=>?_)<;>try simp only [hb]|with_reducible refine And.intro (by first|omega|(simp;done)|(simp;omega)) ?_|simp (maxSteps:=9^9) -implicitDefEqProofs only [go_sem,List.map_cons]))
 have key: ∀ q:UInt8,((s.kind.toNat:Int)==(q.toNat:Int))=decide (s.kind=q):=fun q=>by rw [u8_beq];exact Bool.beq_eq_decide_eq _ _
 have e1:((s.kind.toNat:Int)==1)=decide (s.kind=1):=key 1
 have e2:((s.kind.toNat:Int)==2)=decide (s.kind=2):=key 2
 have e3:((s.kind.toNat:Int)==3)=decide (s.kind=3):=key 3
 clear key ih f4
 have n0:=len0_empty s.names
 have n1:decide ((s.names.length:Int)>0)= !emptyL s.names:=pos_len s.names
 have n8:decide ((s.names.length:Int)≤8)=decide (s.names.length≤8):=by rw [decide_eq_decide];omega
 have d3:decide ((k:Int)>3)= !decide (k≤3):=by
  rw [← decide_not,decide_eq_decide]
  omega
 have d5:decide ((s.kd.length:Int)+(s.names.length:Int)>0)= !(emptyL s.kd&&emptyL s.names):=by
  rw [← len0_empty s.kd,← len0_empty s.names]
  rw [Bool.eq_iff_iff]
  simp only [decide_eq_true_iff,Bool.not_eq_true',Bool.and_eq_false_iff,beq_eq_false_iff_ne]
  omega
 have d6:decide (s.k<1)= !decide (1≤s.k):=by
  rw [← decide_not,decide_eq_decide]
  omega
 have d7:decide (s.k>(s.kids.length:Int))= !decide (s.k≤(s.kids.length:Int)):=by
  rw [← decide_not,decide_eq_decide]
  omega
 have d8:decide ((s.kids.length:Int)>8)= !decide (s.kids.length≤8):=by
  rw [← decide_not,decide_eq_decide]
  omega
 have hnd:s.kd.length≤30000000∧s.names.length≤30000000:=by omega
 rw [Sb.right_eq,← any_not]
 rw [sbC_eq] at hp ⊢
 unfold Sb.names2 Sb.ok3
 rw [← any_empty]
 generalize (s.kids.any fun x=> !x.right (k+1))=y at *
 generalize s.names.any emptyL=yn at *
 generalize s.plain=pl at *
 unfold bD bytesD at *
 by_cases c1:s.kind=1
 ·rw [decide_eq_true c1] at e1
  rw [if_pos c1]
  generalize emptyL s.names=z at *
  cases pl
  all_goals
   refine spec_of Tryz.func129 rfl rfl rfl (by kernel_rfl) rfl fun K=>?_
   (repeat' (first|with_reducible (first|refine zA fun Kn hK=>?_|refine zU ?_|refine Nx.go ?_|go_step)|refine ⟨_,hp,?_⟩|with_reducible (first|refine zI ?_|refine zV ?_)|simp (maxSteps:=9^9) (disch:=omega) only [wq]|with_reducible refine zM (fun hb=>?_) (fun hb=>?_)<;>try simp only [hb]|with_reducible refine And.intro (by first|omega|(simp;done)|(simp;omega)) ?_|simp (maxSteps:=9^9) -implicitDefEqProofs only [go_sem,e1,n0,decide_true]))
   all_goals rfl
 rw [decide_eq_false c1] at e1
 rw [if_neg c1]
 by_cases c2:s.kind=2
 ·rw [decide_eq_true c2] at e2
  rw [if_pos c2]
  generalize emptyL s.names=z at *
  generalize decide (s.names.length≤8)=z8 at *
  cases pl<;>cases z<;>cases z8
  all_goals
   refine spec_of Tryz.func129 rfl rfl rfl (by kernel_rfl) rfl fun K=>?_
   (repeat' (first|with_reducible (first|refine zA fun Kn hK=>?_|refine zU ?_|refine Nx.go ?_|go_step)|refine ⟨_,hp,?_⟩|refine ⟨_,hcn,?_⟩|with_reducible (first|refine zI ?_|refine zV ?_)|simp (maxSteps:=9^9) (disch:=omega) only [wq]|with_reducible refine zM (fun hb=>?_) (fun hb=>?_)<;>try simp only [hb]|with_reducible refine And.intro (by first|omega|(simp;done)|(simp;omega)) ?_|simp (maxSteps:=9^9) -implicitDefEqProofs only [go_sem,e1,e2,n0,n1,n8,decide_true]))
   all_goals rfl
 rw [decide_eq_false c2] at e2
 rw [if_neg c2]
 by_cases c3:s.kind=3
 ·rw [decide_eq_true c3] at e3
  rw [if_pos c3]
  have hand:decide (1≤s.k∧s.k≤(s.kids.length:Int)∧s.kids.length≤8)=(decide (1≤s.k)&&(decide (s.k≤(s.kids.length:Int))&&decide (s.kids.length≤8))):=by
   rw [Bool.eq_iff_iff]
   simp
  have hmid:(!s.ks&&(emptyL s.kd&&(emptyL s.names&&(decide (1≤s.k)&&(decide (s.k≤(s.kids.length:Int))&&decide (s.kids.length≤8))))))=(!s.ks&&((emptyL s.kd&&emptyL s.names)&&(decide (1≤s.k)&&(decide (s.k≤(s.kids.length:Int))&&decide (s.kids.length≤8))))):=by
   rw [Bool.and_assoc (emptyL s.kd)]
  rw [hand,hmid]
  clear hand hmid n0 n1 n8 hp hcn
  generalize (emptyL s.kd&&emptyL s.names)=z5 at *
  generalize decide (1≤s.k)=z6 at *
  generalize decide (s.k≤(s.kids.length:Int))=z7 at *
  generalize decide (s.kids.length≤8)=z8 at *
  generalize s.ks=z4 at *
  by_cases hk7:k≤3
  ·have hc:=hc hk7
   rw [decide_eq_true hk7] at d3 ⊢
   cases z4<;>cases z5<;>cases z6<;>cases z7<;>cases z8
   all_goals
    refine spec_of Tryz.func129 rfl rfl rfl (by kernel_rfl) rfl fun K=>?_
    (repeat' (first|with_reducible (first|refine zA fun Kn hK=>?_|refine zU ?_|refine Nx.go ?_|go_step)|refine ⟨_,hc,?_⟩|with_reducible (first|refine zI ?_|refine zV ?_)|simp (maxSteps:=9^9) (disch:=omega) only [wq]|with_reducible refine zM (fun hb=>?_) (fun hb=>?_)<;>try simp only [hb]|with_reducible refine And.intro (by first|omega|(simp;done)|(simp;omega)) ?_|simp (maxSteps:=9^9) -implicitDefEqProofs only [go_sem,e1,e2,e3,d3,d5,d6,d7,d8,decide_true,List.mapM_cons,List.mapM_nil,Option.bind_some,Option.pure_def]))
    all_goals first|rfl|exact absurd (hb.symm.trans d5) (by decide)
  ·rw [decide_eq_false hk7] at d3 ⊢
   refine spec_of Tryz.func129 rfl rfl rfl (by kernel_rfl) rfl fun K=>?_
   (repeat' (first|with_reducible (first|refine zA fun Kn hK=>?_|refine zU ?_|refine Nx.go ?_|go_step)|with_reducible (first|refine zI ?_|refine zV ?_)|simp (maxSteps:=9^9) (disch:=omega) only [wq]|with_reducible refine zM (fun hb=>?_) (fun hb=>?_)<;>try simp only [hb]|with_reducible refine And.intro (by first|omega|(simp;done)|(simp;omega)) ?_|simp (maxSteps:=9^9) -implicitDefEqProofs only [go_sem,e1,e2,e3,d3,decide_true]))
   all_goals rfl
 ·rw [decide_eq_false c3] at e3
  rw [if_neg c3]
  refine spec_of Tryz.func129 rfl rfl rfl (by kernel_rfl) rfl fun K=>?_
  (repeat' (first|with_reducible (first|refine zA fun Kn hK=>?_|refine zU ?_|refine Nx.go ?_|go_step)|with_reducible (first|refine zI ?_|refine zV ?_)|simp (maxSteps:=9^9) (disch:=omega) only [wq]|with_reducible refine zM (fun hb=>?_) (fun hb=>?_)<;>try simp only [hb]|with_reducible refine And.intro (by first|omega|(simp;done)|(simp;omega)) ?_|simp (maxSteps:=9^9) -implicitDefEqProofs only [go_sem,e1,e2,e3,decide_true]))
  all_goals rfl
end
section
variable {G:Nat→Option (List D)}
def ordA:List D:=[.v (.string ⟨#[]⟩),.v (.string ⟨#[97,108,112,104,97]⟩),.v (.string ⟨#[110,117,109,101,114,105,99]⟩),.v (.string ⟨#[116,105,109,101]⟩),.v (.string ⟨#[98,105,110,97,114,121]⟩),.v (.string ⟨#[100,97,116,101]⟩)]
theorem names_m:Spec Tryz.prog G 136 [] (.one (.g ordA)):=by
 unfold ordA
 refine spec_of Tryz.func136 rfl rfl rfl (by kernel_rfl) rfl fun K=>?_
 (repeat' (first|with_reducible (first|refine zA fun Kn hK=>?_|refine zU ?_|refine Nx.go ?_|go_step)|with_reducible (first|refine zI ?_|refine zV ?_)|simp (maxSteps:=9^9) (disch:=omega) only [wq]|with_reducible refine zM (fun hb=>?_) (fun hb=>?_)<;>try simp only [hb]|with_reducible refine And.intro (by first|omega|(simp;done)|(simp;omega)) ?_|simp (maxSteps:=9^9) -implicitDefEqProofs only [go_sem,true_and]))
theorem pbound_m (b:Bd) (w:List UInt8) (hw:w.length≤1000000) (hb:b.txt.length≤1000000000):Spec Tryz.prog G 137 [.g (bdD b),.c (.v (.string ⟨w.toArray⟩))] (.one (.c (.sl (bdT b w).length ((bdT b w).flatMap treeC)))):=by
 obtain ⟨i,o,t⟩:=b
 have h1:=atom_m (G:=G) w (by omega)
 have h2:=atom_m (G:=G) (w++[101]) (by simp;omega)
 have h3:=bclone_m (G:=G) t (by dsimp only at hb;omega)
 have e1:=treeC_mk false false [] w []
 have e2:=treeC_mk false false [] (w++[101]) []
 have e3:=treeC_mk false false [] t []
 unfold bdT bdD bD at *
 dsimp only at *
 cases i with
 | false =>
  refine spec_of Tryz.func137 rfl rfl rfl (by kernel_rfl) rfl fun K=>?_
  (repeat' (first|with_reducible (first|refine zA fun Kn hK=>?_|refine zU ?_|refine Nx.go ?_|go_step)|with_reducible (first|refine zI ?_|refine zV ?_)|simp (maxSteps:=9^9) (disch:=omega) only [wq]|with_reducible refine zM (fun hb=>?_) (fun hb=>?_)<;>try simp only [hb]|with_reducible refine And.intro (by first|omega|(simp;done)|(simp;omega)) ?_|simp (maxSteps:=9^9) -implicitDefEqProofs only [go_sem, ]))
  all_goals rfl
 | true =>
  cases o with
  | false =>
   refine spec_of Tryz.func137 rfl rfl rfl (by kernel_rfl) rfl fun K=>?_
   (repeat' (first|with_reducible (first|refine zA fun Kn hK=>?_|refine zU ?_|refine Nx.go ?_|go_step)|refine ⟨_,h2,?_⟩|refine ⟨_,h3,?_⟩|with_reducible (first|refine zI ?_|refine zV ?_)|simp (maxSteps:=9^9) (disch:=omega) only [wq]|with_reducible refine zM (fun hb=>?_) (fun hb=>?_)<;>try simp only [hb]|with_reducible refine And.intro (by first|omega|(simp;done)|(simp;omega)) ?_|simp (maxSteps:=9^9) -implicitDefEqProofs only [go_sem,atomT,e1,e2,e3]))
   simp only [List.flatMap_cons,List.flatMap_nil,atomT,treeC_mk,List.cons_append,List.nil_append]
   rfl
  | true =>
   refine spec_of Tryz.func137 rfl rfl rfl (by kernel_rfl) rfl fun K=>?_
   (repeat' (first|with_reducible (first|refine zA fun Kn hK=>?_|refine zU ?_|refine Nx.go ?_|go_step)|refine ⟨_,h1,?_⟩|refine ⟨_,h3,?_⟩|with_reducible (first|refine zI ?_|refine zV ?_)|simp (maxSteps:=9^9) (disch:=omega) only [wq]|with_reducible refine zM (fun hb=>?_) (fun hb=>?_)<;>try simp only [hb]|with_reducible refine And.intro (by first|omega|(simp;done)|(simp;omega)) ?_|simp (maxSteps:=9^9) -implicitDefEqProofs only [go_sem,atomT,e1,e2,e3]))
   simp only [List.flatMap_cons,List.flatMap_nil,atomT,treeC_mk,List.cons_append,List.nil_append]
   rfl
theorem ord_at {o:UInt8} (h:1≤o.toNat∧o.toNat≤5):ordA[o.toNat]?=some (.v (.string ⟨(ordN o).toArray⟩)):=by
 unfold ordN
 generalize o.toNat=n at *
 match n,h with
 | 1,_|2,_|3,_|4,_|5,_=>rfl
theorem value12_m: ∀ t:Tg,∀ cs:List D,tagC t=cs→t.wt≤30000000→t.right isV=true→Spec Tryz.prog G 119 [.g cs] (.one (.g (treeC t.val))):=Tg.ind fun t ih cs hcs hw hr=>by
 subst hcs
 have hstar:=atom_m (G:=G) wStar (by decide)
 have hset:=atom_m (G:=G) wSet (by decide)
 have hpre:=atom_m (G:=G) wPrefix (by decide)
 have hrng:=atom_m (G:=G) wRange (by decide)
 have hnames:=names_m (G:=G)
 have hcl:=bclone_m (G:=G) t.data (by rw [t.wt_eq] at hw;omega)
 unfold wStar wSet wPrefix wRange at *
 unfold bytesD at hcl
 have key: ∀ k:UInt8,((t.kind.toNat:Int)==(k.toNat:Int))=decide (t.kind=k):=fun k=>by rw [u8_beq];exact Bool.beq_eq_decide_eq _ _
 have e1:((t.kind.toNat:Int)==1)=decide (t.kind=1):=key 1
 have e2:((t.kind.toNat:Int)==2)=decide (t.kind=2):=key 2
 have e4:((t.kind.toNat:Int)==4)=decide (t.kind=4):=key 4
 have e5:((t.kind.toNat:Int)==5)=decide (t.kind=5):=key 5
 have e6:((t.kind.toNat:Int)==6)=decide (t.kind=6):=key 6
 clear key
 have hv:=t.val_eq
 by_cases c1:t.kind=1
 ·have c2:t.kind≠2:=by rw [c1];decide
  rw [if_pos c1] at hv
  rw [decide_eq_true c1] at e1
  rw [decide_eq_false c2] at e2
  rw [hv,tagC_eq]
  refine spec_of Tryz.func119 rfl rfl rfl (by kernel_rfl) rfl fun K=>?_
  (repeat' (first|with_reducible (first|refine zA fun Kn hK=>?_|refine zU ?_|refine Nx.go ?_|go_step)|refine ⟨none,?_⟩|refine ⟨_,hstar,?_⟩|(refine ⟨_,list_m' [atomT wStar] (by rfl) (by first|(simp only [atomT,listT,List.flatMap_cons,List.flatMap_nil,treeC_mk,bytesD,List.cons_append,List.nil_append,List.length_cons,List.length_nil,List.map_nil,Nat.reduceAdd,List.append_nil];done)|(simp only [atomT,listT,List.flatMap_cons,List.flatMap_nil,treeC_mk,bytesD,List.cons_append,List.nil_append,List.length_cons,List.length_nil,List.map_nil,Nat.reduceAdd,List.append_nil];rfl)) (by simp),?_⟩)|with_reducible (first|refine zI ?_|refine zV ?_)|simp (maxSteps:=9^9) (disch:=omega) only [wq]|with_reducible refine zM (fun hb=>?_) (fun hb=>?_)<;>try simp only [hb]|with_reducible refine And.intro (by first|omega|(simp;done)|(simp;omega)) ?_|simp (maxSteps:=9^9) -implicitDefEqProofs only [go_sem,e1,e2,rep1,List.length_map,List.length_cons,List.length_nil,atomT,treeC_mk,bD,bytesD]))
  all_goals simp only [listT,atomT,treeC_mk,List.flatMap_cons,List.flatMap_nil,List.cons_append,List.nil_append,bytesD]
  all_goals rfl
 rw [if_neg c1] at hv
 rw [decide_eq_false c1] at e1
 by_cases c2:t.kind=2
 ·rw [if_pos c2] at hv
  rw [decide_eq_true c2] at e2
  rw [hv,tagC_eq]
  refine spec_of Tryz.func119 rfl rfl rfl (by kernel_rfl) rfl fun K=>?_
  (repeat' (first|with_reducible (first|refine zA fun Kn hK=>?_|refine zU ?_|refine Nx.go ?_|go_step)|refine ⟨_,hcl,?_⟩|with_reducible (first|refine zI ?_|refine zV ?_)|simp (maxSteps:=9^9) (disch:=omega) only [wq]|with_reducible refine zM (fun hb=>?_) (fun hb=>?_)<;>try simp only [hb]|with_reducible refine And.intro (by first|omega|(simp;done)|(simp;omega)) ?_|simp (maxSteps:=9^9) -implicitDefEqProofs only [go_sem,e1,e2,rep1,List.length_map,List.length_cons,List.length_nil,atomT,treeC_mk,bD,bytesD]))
  all_goals simp only [listT,atomT,treeC_mk,List.flatMap_cons,List.flatMap_nil,List.cons_append,List.nil_append,bytesD]
  all_goals rfl
 rw [if_neg c2] at hv
 rw [decide_eq_false c2] at e2
 by_cases c5:t.kind=5
 ·have c4:t.kind≠4:=by rw [c5];decide
  rw [if_neg c4,if_pos c5] at hv
  rw [decide_eq_false c4] at e4
  rw [decide_eq_true c5] at e5
  rw [hv,tagC_eq]
  refine spec_of Tryz.func119 rfl rfl rfl (by kernel_rfl) rfl fun K=>?_
  (repeat' (first|with_reducible (first|refine zA fun Kn hK=>?_|refine zU ?_|refine Nx.go ?_|go_step)|refine ⟨none,?_⟩|refine ⟨_,hstar,?_⟩|refine ⟨_,hpre,?_⟩|refine ⟨_,hcl,?_⟩|(refine ⟨_,list_m' [atomT wStar,atomT wPrefix,atomT t.data] (by rfl) (by first|(simp only [atomT,listT,List.flatMap_cons,List.flatMap_nil,treeC_mk,bytesD,List.cons_append,List.nil_append,List.length_cons,List.length_nil,List.map_nil,Nat.reduceAdd,List.append_nil];done)|(simp only [atomT,listT,List.flatMap_cons,List.flatMap_nil,treeC_mk,bytesD,List.cons_append,List.nil_append,List.length_cons,List.length_nil,List.map_nil,Nat.reduceAdd,List.append_nil];rfl)) (by simp),?_⟩)|with_reducible (first|refine zI ?_|refine zV ?_)|simp (maxSteps:=9^9) (disch:=omega) only [wq]|with_reducible refine zM (fun hb=>?_) (fun hb=>?_)<;>try simp only [hb]|with_reducible refine And.intro (by first|omega|(simp;done)|(simp;omega)) ?_|simp (maxSteps:=9^9) -implicitDefEqProofs only [go_sem,e1,e2,e4,e5,List.length_map,List.length_cons,List.length_nil,atomT,treeC_mk,bD,bytesD]))
  all_goals simp only [listT,atomT,treeC_mk,List.flatMap_cons,List.flatMap_nil,List.cons_append,List.nil_append,bytesD]
  all_goals rfl
 rw [if_neg c5] at hv
 rw [decide_eq_false c5] at e5
 have hrk: ∀ x∈t.kids,x.right isV=true:=by
  have:=hr
  rw [Tg.right_eq,Bool.and_eq_true,List.all_eq_true] at this
  exact this.2
 have h5:=t.wt_kids
 by_cases c3:t.kind=3
 ·have c4:t.kind≠4:=by rw [c3];decide
  have c6:t.kind≠6:=by rw [c3];decide
  rw [if_neg c4,if_neg c6] at hv
  rw [decide_eq_false c4] at e4
  rw [decide_eq_false c6] at e6
  rw [hv,tagC_eq]
  have hlist:=list_m (G:=G) (t.kids.map Tg.val) (by rw [List.length_map];omega)
  rw [List.flatMap_map,List.length_map] at hlist
  rw [show treeC (listT (t.kids.map Tg.val))=treeC (.mk true false [] [] (t.kids.map Tg.val)) from rfl]
  have hL:=treeC_eq (.mk true false [] [] (t.kids.map Tg.val))
  generalize treeC (.mk true false [] [] (t.kids.map Tg.val))=O at *
  rw [hL] at hlist
  refine spec_of Tryz.func119 rfl rfl rfl (by kernel_rfl) rfl fun K=>?_
  (repeat' (first|with_reducible (first|refine zA fun Kn hK=>?_|refine zU ?_|refine Nx.go ?_|go_step)|with_reducible (first|refine zI ?_|refine zV ?_)|simp (maxSteps:=9^9) (disch:=omega) only [wq]|with_reducible refine zM (fun hb=>?_) (fun hb=>?_)<;>try simp only [hb]|with_reducible refine And.intro (by first|omega|(simp;done)|(simp;omega)) ?_|simp (maxSteps:=9^9) -implicitDefEqProofs only [go_sem,e1,e2,e4,e5,e6,atomT,treeC_mk,bD,bytesD]))
  refine sound_void 3 1000 5 45 (by rfl) (by rfl) ?_
  refine sound_loopR (fun x:{k:Nat // k≤t.kids.length}=>⟨[(1,vP 1 0),(2,vP 2 0),(3,vR 1000 5 x.1),(59,vD (.sl t.kids.length (t.kids.flatMap tagC))),(60,vI t.kids.length),(61,vI x.1)],[(1,some ⟨35,tagK t,true,false⟩),(2,some ⟨45,zeroOf Tryz.prog 45,true,false⟩),(1000,some ⟨45,((t.kids.take x.1).flatMap fun x=>treeC x.val).map C.d,false,false⟩)]⟩) (fun x=>t.kids.length-x.1) ⟨0,by omega⟩ [] (by (iterate 2 ((try simp (maxSteps:=9^9) -implicitDefEqProofs only [go_sem,bD,AObj.trim,List.take_zero,List.flatMap_nil,List.map_nil]);(try simp (maxSteps:=9^9) (disch:=omega) only [wq])));try simp) (fun ⟨k,hk⟩=>?_)
  by_cases hlt:k<t.kids.length
  ·obtain ⟨x,hx⟩: ∃ x,t.kids[k]?=some x:=⟨_,List.getElem?_eq_getElem hlt⟩
   have hb:decide ((k:Int)<(t.kids.length:Int))=true:=by simpa using hlt
   have hm:=List.mem_of_getElem? hx
   have ht:(t.kids.take (k+1)).flatMap (fun x=>treeC x.val)=(t.kids.take k).flatMap (fun x=>treeC x.val)++treeC x.val:=by
    rw [List.take_add_one,hx,List.flatMap_append]
    simp
   have hlen:((t.kids.take k).flatMap fun x=>treeC x.val).length=k*5:=by
    rw [show ((t.kids.take k).flatMap fun x=>treeC x.val)=((t.kids.take k).map Tg.val).flatMap treeC from by rw [List.flatMap_map],treeC_flen,List.length_map,List.length_take,Nat.min_eq_left hk]
   generalize (t.kids.take k).flatMap (fun x=>treeC x.val)=W at *
   (repeat' (first|with_reducible (first|refine zA fun Kn hK=>?_|refine zU ?_|refine Nx.go ?_|go_step)|(refine ⟨_,ih x hm _ rfl (by have:=Tg.wt_kid hm;omega) (hrk x hm),?_⟩)|with_reducible (first|refine zI ?_|refine zV ?_)|simp (maxSteps:=9^9) (disch:=omega) only [wq]|with_reducible refine zM (fun hb=>?_) (fun hb=>?_)<;>try simp only [hb]|with_reducible refine And.intro (by first|omega|(simp;done)|(simp;omega)) ?_|simp (maxSteps:=9^9) -implicitDefEqProofs only [go_sem,hb,rep1,hlen,List.length_map,true_and,Nat.le_refl,List.append_nil,flat_at tagC_len hx]))
   refine ⟨[(1000,69)],⟨k+1,hlt⟩,?_⟩
   rw [ht]
   (iterate 2 ((try simp (maxSteps:=9^9) -implicitDefEqProofs only [go_sem,bD]);(try simp (maxSteps:=9^9) (disch:=omega) only [wq])))
   (simp only [ijq,true_and,and_true];first|done|omega|(split<;>omega)|(simp;done)|(simp;omega))
  ·have hb:decide ((k:Int)<(t.kids.length:Int))=false:=by simpa using hlt
   obtain rfl:k=t.kids.length:=by omega
   rw [List.take_length]
   have hlen:(t.kids.flatMap fun x=>treeC x.val).length=t.kids.length*5:=by
    rw [show (t.kids.flatMap fun x=>treeC x.val)=(t.kids.map Tg.val).flatMap treeC from by rw [List.flatMap_map],treeC_flen,List.length_map]
   (repeat' (first|with_reducible (first|refine zA fun Kn hK=>?_|refine zU ?_|refine Nx.go ?_|go_step)|refine ⟨none,?_⟩|refine ⟨_,hlist,?_⟩|with_reducible (first|refine zI ?_|refine zV ?_)|simp (maxSteps:=9^9) (disch:=omega) only [wq]|with_reducible refine zM (fun hb=>?_) (fun hb=>?_)<;>try simp only [hb]|with_reducible refine And.intro (by first|omega|(simp;done)|(simp;omega)) ?_|simp (maxSteps:=9^9) -implicitDefEqProofs only [go_sem,hb,hlen,bD,List.length_map]))
   all_goals (rw [hL];try rfl)
 by_cases c4:t.kind=4
 ·have c6:t.kind≠6:=by rw [c4];decide
  rw [if_pos c4] at hv
  rw [decide_eq_true c4] at e4
  rw [decide_eq_false c6] at e6
  rw [hv,tagC_eq]
  have hlist:=list_m (G:=G) (atomT wStar::atomT wSet::t.kids.map Tg.val) (by rw [List.length_cons,List.length_cons,List.length_map];omega)
  rw [show treeC (listT (atomT wStar::atomT wSet::t.kids.map Tg.val))=treeC (.mk true false [] [] (atomT wStar::atomT wSet::t.kids.map Tg.val)) from rfl]
  have hL:=treeC_eq (.mk true false [] [] (atomT wStar::atomT wSet::t.kids.map Tg.val))
  generalize treeC (.mk true false [] [] (atomT wStar::atomT wSet::t.kids.map Tg.val))=O at *
  rw [hL] at hlist
  rw [List.flatMap_cons,List.flatMap_cons,List.flatMap_map,← List.append_assoc,List.length_cons,List.length_cons,List.length_map,show t.kids.length+1+1=2+t.kids.length by omega] at hlist
  obtain ⟨T,hT⟩: ∃ T,T=treeC (atomT wStar)++treeC (atomT wSet):=⟨_,rfl⟩
  have hTl:T.length=10:=by rw [hT,List.length_append,treeC_len,treeC_len]
  rw [← hT] at hlist
  refine spec_of Tryz.func119 rfl rfl rfl (by kernel_rfl) rfl fun K=>?_
  (repeat' (first|with_reducible (first|refine zA fun Kn hK=>?_|refine zU ?_|refine Nx.go ?_|go_step)|refine ⟨none,?_⟩|refine ⟨_,hstar,?_⟩|refine ⟨_,hset,?_⟩|with_reducible (first|refine zI ?_|refine zV ?_)|simp (maxSteps:=9^9) (disch:=omega) only [wq]|with_reducible refine zM (fun hb=>?_) (fun hb=>?_)<;>try simp only [hb]|with_reducible refine And.intro (by first|omega|(simp;done)|(simp;omega)) ?_|simp (maxSteps:=9^9) -implicitDefEqProofs only [go_sem,e1,e2,e4,e5,e6,atomT,treeC_mk,bD,bytesD]))
  refine sound_grow 3 57 5 2 2 (by rfl) (by rfl) (by rfl) (by rfl) ?_
  refine sound_trim 57 10 (by rfl) ?_
  refine sound_loopR (fun x:{k:Nat // k≤t.kids.length}=>⟨[(1,vP 1 0),(2,vP 2 0),(3,vR 1000 5 (2+x.1)),(59,vD (.sl t.kids.length (t.kids.flatMap tagC))),(60,vI t.kids.length),(61,vI x.1)],[(1,some ⟨35,tagK t,true,false⟩),(2,some ⟨45,zeroOf Tryz.prog 45,true,false⟩),(1000,some ⟨45,(T++(t.kids.take x.1).flatMap fun x=>treeC x.val).map C.d,false,false⟩)]⟩) (fun x=>t.kids.length-x.1) ⟨0,by omega⟩ [(1000,57)] (by (iterate 2 ((try simp (maxSteps:=9^9) -implicitDefEqProofs only [go_sem,bD,AObj.trim,List.take_zero,List.flatMap_nil,List.map_nil,List.append_nil]);(try simp (maxSteps:=9^9) (disch:=omega) only [wq])));refine ⟨rfl,?_,by simp,by simp⟩;rw [hT,atomT,atomT,treeC_mk,treeC_mk];rfl) (fun ⟨k,hk⟩=>?_)
  by_cases hlt:k<t.kids.length
  ·obtain ⟨x,hx⟩: ∃ x,t.kids[k]?=some x:=⟨_,List.getElem?_eq_getElem hlt⟩
   have hb:decide ((k:Int)<(t.kids.length:Int))=true:=by simpa using hlt
   have hm:=List.mem_of_getElem? hx
   have ht:T++(t.kids.take (k+1)).flatMap (fun x=>treeC x.val)=T++(t.kids.take k).flatMap (fun x=>treeC x.val)++treeC x.val:=by
    rw [List.take_add_one,hx,List.flatMap_append,List.append_assoc]
    simp
   have hlen:(T++(t.kids.take k).flatMap fun x=>treeC x.val).length=(2+k)*5:=by
    rw [List.length_append,hTl,show ((t.kids.take k).flatMap fun x=>treeC x.val)=((t.kids.take k).map Tg.val).flatMap treeC from by rw [List.flatMap_map],treeC_flen,List.length_map,List.length_take,Nat.min_eq_left hk]
    omega
   generalize T++(t.kids.take k).flatMap (fun x=>treeC x.val)=W at *
   (repeat' (first|with_reducible (first|refine zA fun Kn hK=>?_|refine zU ?_|refine Nx.go ?_|go_step)|(refine ⟨_,ih x hm _ rfl (by have:=Tg.wt_kid hm;omega) (hrk x hm),?_⟩)|with_reducible (first|refine zI ?_|refine zV ?_)|simp (maxSteps:=9^9) (disch:=omega) only [wq]|with_reducible refine zM (fun hb=>?_) (fun hb=>?_)<;>try simp only [hb]|with_reducible refine And.intro (by first|omega|(simp;done)|(simp;omega)) ?_|simp (maxSteps:=9^9) -implicitDefEqProofs only [go_sem,hb,rep1,hlen,List.length_map,true_and,Nat.le_refl,List.append_nil,flat_at tagC_len hx]))
   refine ⟨[(1000,69)],⟨k+1,hlt⟩,?_⟩
   rw [ht]
   (iterate 2 ((try simp (maxSteps:=9^9) -implicitDefEqProofs only [go_sem,bD]);(try simp (maxSteps:=9^9) (disch:=omega) only [wq])))
   (simp only [ijq,true_and,and_true];first|done|omega|(split<;>omega)|(simp;done)|(simp;omega))
  ·have hb:decide ((k:Int)<(t.kids.length:Int))=false:=by simpa using hlt
   obtain rfl:k=t.kids.length:=by omega
   rw [List.take_length]
   have hlen:(T++t.kids.flatMap fun x=>treeC x.val).length=(2+t.kids.length)*5:=by
    rw [List.length_append,hTl,show (t.kids.flatMap fun x=>treeC x.val)=(t.kids.map Tg.val).flatMap treeC from by rw [List.flatMap_map],treeC_flen,List.length_map]
    omega
   generalize T++t.kids.flatMap (fun x=>treeC x.val)=W at *
   (repeat' (first|with_reducible (first|refine zA fun Kn hK=>?_|refine zU ?_|refine Nx.go ?_|go_step)|refine ⟨none,?_⟩|refine ⟨_,hlist,?_⟩|with_reducible (first|refine zI ?_|refine zV ?_)|simp (maxSteps:=9^9) (disch:=omega) only [wq]|with_reducible refine zM (fun hb=>?_) (fun hb=>?_)<;>try simp only [hb]|with_reducible refine And.intro (by first|omega|(simp;done)|(simp;omega)) ?_|simp (maxSteps:=9^9) -implicitDefEqProofs only [go_sem,hb,hlen,bD,List.length_map]))
   all_goals (rw [hL];try rfl)
 rw [if_neg c4] at hv
 rw [decide_eq_false c4] at e4
 have hok:t.ok isV=true:=by
  have:=hr
  rw [Tg.right_eq,Bool.and_eq_true] at this
  exact this.1
 by_cases c6:t.kind=6
 ·rw [if_pos c6] at hv
  rw [decide_eq_true c6] at e6
  have hmr:mayR isV t.ord t.lo t.hi=true:=by
   simp [Tg.ok,Tg.blank,c6] at hok
   exact hok.1.1
  have ho:1≤t.ord.toNat∧t.ord.toNat≤5:=by
   rw [mayR,Bool.and_eq_true,decide_eq_true_eq] at hmr
   exact hmr.1
  have hoa:(ordA.map C.d)[t.ord.toNat]?=some (.d (.v (.string ⟨(ordN t.ord).toArray⟩))):=by rw [List.getElem?_map,ord_at ho];rfl
  have hol:(0≤(t.ord.toNat:Int)∧(t.ord.toNat:Int)<((6:Nat):Int)∧t.ord.toNat+1≤ordA.length):=⟨by omega,by omega,by rw [show ordA.length=6 from rfl];omega⟩
  have hon:=atom_m (G:=G) (ordN t.ord) (by have:=ordN_len t.ord;omega)
  have hlo:=pbound_m (G:=G) t.lo [103] (by decide) (by rw [t.wt_eq] at hw;omega)
  have hhi:=pbound_m (G:=G) t.hi [108] (by decide) (by rw [t.wt_eq] at hw;omega)
  rw [hv,tagC_eq]
  rw [show treeC (listT (atomT wStar::atomT wRange::atomT (ordN t.ord)::(bdT t.lo wG++bdT t.hi wL)))=treeC (.mk true false [] [] (atomT wStar::atomT wRange::atomT (ordN t.ord)::(bdT t.lo wG++bdT t.hi wL))) from rfl]
  have hlist:=list_m (G:=G) (atomT wStar::atomT wRange::atomT (ordN t.ord)::(bdT t.lo wG++bdT t.hi wL)) (by
   have hb2: ∀ b w,(bdT b w).length≤2:=fun b w=>by unfold bdT;split<;>simp
   have n1:=hb2 t.lo wG
   have n2:=hb2 t.hi wL
   simp only [List.length_cons,List.length_append]
   omega)
  unfold wG wL at *
  have hL:=treeC_eq (.mk true false [] [] (atomT wStar::atomT wRange::atomT (ordN t.ord)::(bdT t.lo [103]++bdT t.hi [108])))
  generalize treeC (.mk true false [] [] (atomT wStar::atomT wRange::atomT (ordN t.ord)::(bdT t.lo [103]++bdT t.hi [108])))=O at *
  rw [hL] at hlist
  unfold bdD at hlo hhi
  have hb2: ∀ b w,(bdT b w).length≤2:=fun b w=>by unfold bdT;split<;>simp
  have n1:=hb2 t.lo [103]
  have n2:=hb2 t.hi [108]
  clear hb2
  generalize bdT t.lo [103]=L1 at *
  generalize bdT t.hi [108]=L2 at *
  have hl3:(atomT wStar::atomT wRange::atomT (ordN t.ord)::(L1++L2)).length=3+L1.length+L2.length:=by
   simp only [List.length_cons,List.length_append]
   omega
  rw [hl3] at hlist
  simp only [List.flatMap_cons,List.flatMap_append,atomT,treeC_mk,List.cons_append,List.nil_append,wStar,wRange,bytesD] at hlist
  have s1:(3+L1.length)*80≤140737488355328:=by omega
  have s2:3+L1.length≤9223372036854775807:=by omega
  have s3:(3+L1.length+L2.length)*80≤140737488355328:=by omega
  have s4:3+L1.length+L2.length≤9223372036854775807:=by omega
  have z1:(L1.flatMap treeC).length+15=(3+L1.length)*5:=by rw [treeC_flen];omega
  have z2:(L1.flatMap treeC).length+(L2.flatMap treeC).length+15=(3+L1.length+L2.length)*5:=by rw [treeC_flen,treeC_flen];omega
  refine spec_of Tryz.func119 rfl rfl rfl (by kernel_rfl) rfl fun K=>?_
  (repeat' (first|with_reducible (first|refine zA fun Kn hK=>?_|refine zU ?_|refine Nx.go ?_|go_step)|refine ⟨none,?_⟩|refine ⟨_,hnames,?_⟩|refine ⟨_,hstar,?_⟩|refine ⟨_,hrng,?_⟩|refine ⟨_,hon,?_⟩|refine ⟨_,hlo,?_⟩|refine ⟨_,hhi,?_⟩|refine ⟨_,hlist,?_⟩|with_reducible (first|refine zI ?_|refine zV ?_)|simp (maxSteps:=9^9) (disch:=omega) only [wq]|with_reducible refine zM (fun hb=>?_) (fun hb=>?_)<;>try simp only [hb]|with_reducible refine And.intro (by first|omega|(simp;done)|(simp;omega)) ?_|simp (maxSteps:=9^9) -implicitDefEqProofs only [go_sem,e1,e2,e4,e5,e6,s1,s2,s3,s4,z1,z2,hoa,hol,List.length_map,List.length_append,true_and,atomT,treeC_mk,bD,bytesD]))
  all_goals (rw [hL];try rfl)
  all_goals trace_state
 ·exfalso
  simp [Tg.ok,Tg.blank,c1,c2,c3,c4,c5,c6] at hok
end
def vNone:Value:= .iface 151 (.agg #[])
theorem ni_none:nonIface Tryz.prog 151=true:=by kernel_rfl
@[go_sem] theorem bld_none:bldOk Tryz.prog 151=false:=by kernel_rfl
@[go_sem] theorem emp_none:emptyTy Tryz.prog 151=true:=by kernel_rfl
@[go_sem] theorem zero_none:zeroOf Tryz.prog 151=[]:=by kernel_rfl
section
variable {G:Nat→Option (List D)}
theorem want_t:Spec Tryz.prog G 123 [.c (.v (.bool true))] (.many []):=by
 refine spec_of Tryz.func123 rfl rfl rfl (by kernel_rfl) rfl fun K=>?_
 (repeat' (first|with_reducible (first|refine zA fun Kn hK=>?_|refine zU ?_|refine Nx.go ?_|go_step)|with_reducible (first|refine zI ?_|refine zV ?_)|simp (maxSteps:=9^9) (disch:=omega) only [wq]|with_reducible refine zM (fun hb=>?_) (fun hb=>?_)<;>try simp only [hb]|with_reducible refine And.intro (by first|omega|(simp;done)|(simp;omega)) ?_|simp (maxSteps:=9^9) -implicitDefEqProofs only [go_sem,ni_none,valsOf,Bool.not_true]))
theorem want_f:Spec Tryz.prog G 123 [.c (.v (.bool false))] (.pan vNone):=by
 refine spec_of Tryz.func123 rfl rfl rfl (by kernel_rfl) rfl fun K=>?_
 (repeat' (first|with_reducible (first|refine zA fun Kn hK=>?_|refine zU ?_|refine Nx.go ?_|go_step)|with_reducible (first|refine zI ?_|refine zV ?_)|simp (maxSteps:=9^9) (disch:=omega) only [wq]|with_reducible refine zM (fun hb=>?_) (fun hb=>?_)<;>try simp only [hb]|with_reducible refine And.intro (by first|omega|(simp;done)|(simp;omega)) ?_|simp (maxSteps:=9^9) -implicitDefEqProofs only [go_sem,ni_none,valsOf,Bool.not_false]))
 exact ⟨_,rfl,rfl⟩
end
theorem tmay_eq (t:Tg):(t.right isV&&t.val.may)=(decide (t.nodes≤512)&&(t.rightD isV 1&&t.val.may)):=by
 cases hm:t.val.may with
 | false=>simp
 | true =>
  rw [Bool.and_true,Bool.and_true]
  have hm':=hm
  simp only [Tree.may,Bool.and_eq_true,decide_eq_true_eq] at hm'
  obtain ⟨⟨⟨_,h2⟩,h3⟩,_⟩:=hm'
  cases hr:t.right isV with
  | true =>
   have h1:=val_nodes t hr
   rw [D_of_right t 1 hr (by omega) (by omega),decide_eq_true (by omega)]
   rfl
  | false =>
   cases hd:t.rightD isV 1 with
   | false=>simp
   | true =>
    rw [right_of_D t 1 hd] at hr
    cases hr
def zeroC:List D:=[.v (.bool false),.v (.bool false),.sl 0 [],.sl 0 [],.sl 0 []]
def tMay (t:Tg):Bool:=t.right isV&&t.val.may
section
variable {G:Nat→Option (List D)}
theorem tmay_m (hG:G 0=some powD) (t:Tg) {cs:List D} (hcs:tagC t=cs) (hw:t.wt≤5000000) (hn:t.nodes≤100000):Spec Tryz.prog G 118 [.g cs] (.one (.c (.v (.bool (tMay t))))):=by
 subst hcs
 rw [tMay,tmay_eq]
 have h1:=pnodes_m (G:=G) t _ 512 rfl (by omega) (by omega)
 have h2:=tright_m (G:=G) t _ 1 rfl (by omega) (by omega)
 have hr:=right_of_D (isV:=isV) t 1
 have h3:=fun h=>value12_m (G:=G) t _ rfl (by omega) (hr h)
 have h4:=sxmay_m (G:=G) hG t.val rfl (by have:=val_wt t;omega)
 have hp:=nodesP_ok t 512
 have e:decide ((nodesP t 512:Int)≤512)=decide (t.nodes≤512):=by
  rw [decide_eq_decide]
  omega
 have ev:=treeC_eq t.val
 generalize t.val.may=m at *
 generalize treeC t.val=T at *
 rw [ev] at h3 h4
 rw [tagC_eq] at h1 h2 h3 ⊢
 generalize nodesP t 512=p at *
 unfold bD bytesD at *
 cases q1:decide (t.nodes≤512) with
 | false =>
  rw [q1] at e
  refine spec_of Tryz.func118 rfl rfl rfl (by kernel_rfl) rfl fun K=>?_
  (repeat' (first|with_reducible (first|refine zA fun Kn hK=>?_|refine zU ?_|refine Nx.go ?_|go_step)|refine ⟨_,h1,?_⟩|with_reducible (first|refine zI ?_|refine zV ?_)|simp (maxSteps:=9^9) (disch:=omega) only [wq]|with_reducible refine zM (fun hb=>?_) (fun hb=>?_)<;>try simp only [hb]|with_reducible refine And.intro (by first|omega|(simp;done)|(simp;omega)) ?_|simp (maxSteps:=9^9) -implicitDefEqProofs only [go_sem,e,Bool.false_and]))
 | true =>
  rw [q1] at e
  cases q2:t.rightD isV 1 with
  | false =>
   rw [q2] at h2
   refine spec_of Tryz.func118 rfl rfl rfl (by kernel_rfl) rfl fun K=>?_
   (repeat' (first|with_reducible (first|refine zA fun Kn hK=>?_|refine zU ?_|refine Nx.go ?_|go_step)|refine ⟨_,h1,?_⟩|refine ⟨_,h2,?_⟩|with_reducible (first|refine zI ?_|refine zV ?_)|simp (maxSteps:=9^9) (disch:=omega) only [wq]|with_reducible refine zM (fun hb=>?_) (fun hb=>?_)<;>try simp only [hb]|with_reducible refine And.intro (by first|omega|(simp;done)|(simp;omega)) ?_|simp (maxSteps:=9^9) -implicitDefEqProofs only [go_sem,e,Bool.false_and,Bool.true_and]))
  | true =>
   rw [q2] at h2
   have h3:=h3 q2
   refine spec_of Tryz.func118 rfl rfl rfl (by kernel_rfl) rfl fun K=>?_
   (repeat' (first|with_reducible (first|refine zA fun Kn hK=>?_|refine zU ?_|refine Nx.go ?_|go_step)|refine ⟨_,h1,?_⟩|refine ⟨_,h2,?_⟩|refine ⟨_,h3,?_⟩|refine ⟨_,h4,?_⟩|with_reducible (first|refine zI ?_|refine zV ?_)|simp (maxSteps:=9^9) (disch:=omega) only [wq]|with_reducible refine zM (fun hb=>?_) (fun hb=>?_)<;>try simp only [hb]|with_reducible refine And.intro (by first|omega|(simp;done)|(simp;omega)) ?_|simp (maxSteps:=9^9) -implicitDefEqProofs only [go_sem,e,Bool.true_and]))
theorem tput_m (hG:G 0=some powD) (t:Tg) {cs:List D} (hcs:tagC t=cs) (hw:t.wt≤5000000) (hn:t.nodes≤100000):Spec Tryz.prog G 95 [.g cs] (if tMay t=true then .many [.g (treeC t.val),.c (.v (.int .i64 0))] else .many [.g zeroC,.c (.v (.int .i64 13))]):=by
 subst hcs
 have h1:=tmay_m hG t rfl hw hn
 have h2:tMay t=true→Spec Tryz.prog G 119 [.g (tagC t)] (.one (.g (treeC t.val))):=fun h=>by
  rw [tMay,Bool.and_eq_true] at h
  exact value12_m t _ rfl (by omega) h.1
 have ev:=treeC_eq t.val
 generalize treeC t.val=T at *
 rw [ev] at h2 ⊢
 rw [tagC_eq] at h1 h2 ⊢
 unfold zeroC bD bytesD at *
 cases q:tMay t with
 | false =>
  rw [q] at h1
  rw [if_neg (by simp)]
  refine spec_of Tryz.func95 rfl rfl rfl (by kernel_rfl) rfl fun K=>?_
  (repeat' (first|with_reducible (first|refine zA fun Kn hK=>?_|refine zU ?_|refine Nx.go ?_|go_step)|refine ⟨_,h1,?_⟩|with_reducible (first|refine zI ?_|refine zV ?_)|simp (maxSteps:=9^9) (disch:=omega) only [wq]|with_reducible refine zM (fun hb=>?_) (fun hb=>?_)<;>try simp only [hb]|with_reducible refine And.intro (by first|omega|(simp;done)|(simp;omega)) ?_|simp (maxSteps:=9^9) -implicitDefEqProofs only [go_sem,true_and]))
 | true =>
  rw [q] at h1
  have h2:=h2 q
  rw [if_pos rfl]
  refine spec_of Tryz.func95 rfl rfl rfl (by kernel_rfl) rfl fun K=>?_
  (repeat' (first|with_reducible (first|refine zA fun Kn hK=>?_|refine zU ?_|refine Nx.go ?_|go_step)|refine ⟨_,h1,?_⟩|refine ⟨_,h2,?_⟩|with_reducible (first|refine zI ?_|refine zV ?_)|simp (maxSteps:=9^9) (disch:=omega) only [wq]|with_reducible refine zM (fun hb=>?_) (fun hb=>?_)<;>try simp only [hb]|with_reducible refine And.intro (by first|omega|(simp;done)|(simp;omega)) ?_|simp (maxSteps:=9^9) -implicitDefEqProofs only [go_sem,true_and]))
theorem patom_y (v:Tree) {cs:List D} (hcs:treeC v=cs) (hw:v.data.length≤1000000000) (hv:(v.list||v.hinted)=false):Spec Tryz.prog G 147 [.g cs] (.one (.c (bytesD v.data))):=by
 subst hcs
 have hc:=bclone_m (G:=G) v.data (by omega)
 have ht:=want_t (G:=G)
 rw [Bool.or_eq_false_iff] at hv
 rw [treeC_eq,hv.1,hv.2]
 unfold bytesD at *
 refine spec_of Tryz.func147 rfl rfl rfl (by kernel_rfl) rfl fun K=>?_
 (repeat' (first|with_reducible (first|refine zA fun Kn hK=>?_|refine zU ?_|refine Nx.go ?_|go_step)|refine ⟨_,ht,?_⟩|refine ⟨_,hc,?_⟩|with_reducible (first|refine zI ?_|refine zV ?_)|simp (maxSteps:=9^9) (disch:=omega) only [wq]|with_reducible refine zM (fun hb=>?_) (fun hb=>?_)<;>try simp only [hb]|with_reducible refine And.intro (by first|omega|(simp;done)|(simp;omega)) ?_|simp (maxSteps:=9^9) -implicitDefEqProofs only [go_sem,true_and]))
theorem patom_n (v:Tree) {cs:List D} (hcs:treeC v=cs) (hv:(v.list||v.hinted)=true):Spec Tryz.prog G 147 [.g cs] (.pan vNone):=by
 subst hcs
 have ht:=want_f (G:=G)
 rw [treeC_eq]
 generalize v.list=a at *
 generalize v.hinted=b at *
 cases a<;>cases b
 case false.false=>cases hv
 all_goals
  refine spec_of Tryz.func147 rfl rfl rfl (by kernel_rfl) rfl fun K=>?_
  (repeat' (first|with_reducible (first|refine zA fun Kn hK=>?_|refine zU ?_|refine Nx.go ?_|go_step)|refine ⟨_,ht,?_⟩|with_reducible (first|refine zI ?_|refine zV ?_)|simp (maxSteps:=9^9) (disch:=omega) only [wq]|with_reducible refine zM (fun hb=>?_) (fun hb=>?_)<;>try simp only [hb]|with_reducible refine And.intro (by first|omega|(simp;done)|(simp;omega)) ?_|simp (maxSteps:=9^9) -implicitDefEqProofs only [go_sem,true_and]))
  exact ⟨_,rfl,rfl⟩
end
theorem rep_1 {α:Type} {x:α}:List.replicate 1 x=[x]:=rfl
def keyOr (k:Option (Bool × List UInt8)):Bool × List UInt8:=k.getD (false,[])
@[go_sem] def keyD (k:Option (Bool × List UInt8)):List D:=keyC (keyOr k).1 (keyOr k).2
theorem Tree.kid_get {t:Tree} {i:Nat} (h:i<t.kids.length):t.kids[i]?=some (t.kid i):=by
 rw [Tree.kid_at (List.getElem?_eq_getElem h)]
 exact List.getElem?_eq_getElem h
theorem kid_wtT {t:Tree} {i:Nat} (h:i<t.kids.length):(t.kid i).wt<t.wt:=by
 have:t.kid i=t.kids[i]:=Tree.kid_at (List.getElem?_eq_getElem h)
 rw [this]
 exact Tree.wt_kid (List.getElem_mem h)
theorem out_wt {s:Bool} {d:List UInt8}:(keyOut s d).wt≤200+d.length:=by
 unfold keyOut
 split
 ·cases s<;>simp [keyV,Tree.wt_eq,listT,atomT,Tree.hint,Tree.data,Tree.kids,tHash,tSha,tPub,tEd]<;>omega
 ·simp [zeroT,Tree.wt_eq,Tree.hint,Tree.data,Tree.kids]
  omega
theorem kget_m {G:Nat→Option (List D)} (v:Tree) {cs:List D} (hcs:treeC v=cs) (hw:v.wt≤30000000):Spec Tryz.prog G 103 [.g cs] (.many [.g (keyD (getK v)),.c (.v (.int .i64 (if (getK v).isSome then 0 else 7)))]):=by
 subst hcs
 refine spec_of Tryz.func103 rfl rfl rfl (by kernel_rfl) rfl fun K=>?_
 rw [treeC_eq]
 have hg:getK v=match candK v with
  | some k=>if keyErr k.1 k.2==0&&v.same (keyOut k.1 k.2) then some k else none
  | none=>none:=rfl
 by_cases h3:v.kids.length=3
 ·have hk2:=kid_wtT (t:=v) (i:=2) (by omega)
  have hd2:=(v.kid 2).wt_data
  have hc:candK v=some (true,(v.kid 2).data):=by rw [candK,h3];rfl
  rw [hc] at hg
  dsimp only at hg
  have e0:v.kids[2]?=some (v.kid 2):=Tree.kid_get (by omega)
  have e1:=ptr_cells (flat_at treeC_len e0)
  simp only [Nat.reduceMul,Nat.reduceAdd] at e1
  obtain ⟨_,_,_,c3,_⟩:=e1
  have n0:((0:Nat):Int)=0:=rfl
  have n1:((1:Nat):Int)=1:=rfl
  have n3:((3:Nat):Int)=3:=rfl
  (repeat' (first|with_reducible (first|refine zA fun Kn hK=>?_|refine zU ?_|refine Nx.go ?_|go_step)|(refine ⟨_,bclone_m (v.kid 2).data (by omega),?_⟩)|(refine sound_loopN 2 ?_)|(refine ⟨_,kput_m true (v.kid 2).data (by omega),?_⟩)|(refine ⟨_,same_m v (keyOut true (v.kid 2).data) _ _ (by first|rfl|(rw [treeC_eq];first|rfl|(simp only [go_sem, *];done))) rfl hw,?_⟩)|with_reducible (first|refine zI ?_|refine zV ?_)|simp (maxSteps:=9^9) (disch:=omega) only [wq]|with_reducible refine zM (fun hb=>?_) (fun hb=>?_)<;>try simp only [hb]|with_reducible refine And.intro (by first|omega|(simp;done)|(simp;omega)) ?_|simp (maxSteps:=9^9) -implicitDefEqProofs only [go_sem,h3,c3,rep_1,keyMay_err,List.length_map,n0,n1,n3,int_beqL,Nat.reduceMul,decide_true,decide_false,Int.reduceAdd]))
  all_goals (rw [hg,keyMay_err];simp only [*];rfl)
 have n0:((0:Nat):Int)=0:=rfl
 have n1:((1:Nat):Int)=1:=rfl
 have n3:(v.kids.length==3)=false:=by simpa using h3
 have hc0:candK v=if v.kids.length==2&&(v.kid 1).kids.length==2 then some (false,((v.kid 1).kid 1).data) else none:=by rw [candK,n3];rfl
 by_cases h2:v.kids.length=2
 ·have hk1:=kid_wtT (t:=v) (i:=1) (by omega)
  have e0:v.kids[1]?=some (v.kid 1):=Tree.kid_get (by omega)
  have e1:=ptr_cells (flat_at treeC_len e0)
  simp only [Nat.reduceMul,Nat.reduceAdd] at e1
  obtain ⟨_,_,_,_,c4⟩:=e1
  by_cases h4:(v.kid 1).kids.length=2
  ·have hk3:=kid_wtT (t:=v.kid 1) (i:=1) (by omega)
   have hd2:=((v.kid 1).kid 1).wt_data
   have e0:(v.kid 1).kids[1]?=some ((v.kid 1).kid 1):=Tree.kid_get (by omega)
   have e1:=ptr_cells (flat_at treeC_len e0)
   simp only [Nat.reduceMul,Nat.reduceAdd] at e1
   obtain ⟨_,_,_,c3,_⟩:=e1
   have hc:candK v=some (false,((v.kid 1).kid 1).data):=by rw [hc0,h2,h4];rfl
   rw [hc] at hg
   dsimp only at hg
   (repeat' (first|with_reducible (first|refine zA fun Kn hK=>?_|refine zU ?_|refine Nx.go ?_|go_step)|(refine ⟨_,bclone_m ((v.kid 1).kid 1).data (by omega),?_⟩)|(refine sound_loopN 2 ?_)|(refine ⟨_,kput_m false ((v.kid 1).kid 1).data (by omega),?_⟩)|(refine ⟨_,same_m v (keyOut false ((v.kid 1).kid 1).data) _ _ (by first|rfl|(rw [treeC_eq];first|rfl|(simp only [go_sem, *];done))) rfl hw,?_⟩)|with_reducible (first|refine zI ?_|refine zV ?_)|simp (maxSteps:=9^9) (disch:=omega) only [wq]|with_reducible refine zM (fun hb=>?_) (fun hb=>?_)<;>try simp only [hb]|with_reducible refine And.intro (by first|omega|(simp;done)|(simp;omega)) ?_|simp (maxSteps:=9^9) -implicitDefEqProofs only [go_sem,h2,h4,c3,c4,rep_1,keyMay_err,List.length_map,n0,n1,n3,int_beqL,Nat.reduceMul,decide_true,decide_false,Int.reduceAdd]))
   all_goals (rw [hg];simp only [keyMay_err, *];rfl)
  ·have n4:((v.kid 1).kids.length==2)=false:=by simpa using h4
   have hc:candK v=none:=by rw [hc0,h2,n4];rfl
   rw [hc] at hg
   dsimp only at hg
   (repeat' (first|with_reducible (first|refine zA fun Kn hK=>?_|refine zU ?_|refine Nx.go ?_|go_step)|(refine sound_loopN 1 ?_)|with_reducible (first|refine zI ?_|refine zV ?_)|simp (maxSteps:=9^9) (disch:=omega) only [wq]|with_reducible refine zM (fun hb=>?_) (fun hb=>?_)<;>try simp only [hb]|with_reducible refine And.intro (by first|omega|(simp;done)|(simp;omega)) ?_|simp (maxSteps:=9^9) -implicitDefEqProofs only [go_sem,h2,int_beq,n4,c4,rep_1,keyMay_err,List.length_map,n0,n1,n3,int_beqL,Nat.reduceMul,decide_true,decide_false,Int.reduceAdd]))
   all_goals (rw [hg];rfl)
 ·have n2:(v.kids.length==2)=false:=by simpa using h2
  have hc:candK v=none:=by rw [hc0,n2];rfl
  rw [hc] at hg
  dsimp only at hg
  (repeat' (first|with_reducible (first|refine zA fun Kn hK=>?_|refine zU ?_|refine Nx.go ?_|go_step)|(refine sound_loopN 1 ?_)|with_reducible (first|refine zI ?_|refine zV ?_)|simp (maxSteps:=9^9) (disch:=omega) only [wq]|with_reducible refine zM (fun hb=>?_) (fun hb=>?_)<;>try simp only [hb]|with_reducible refine And.intro (by first|omega|(simp;done)|(simp;omega)) ?_|simp (maxSteps:=9^9) -implicitDefEqProofs only [go_sem,n2,n3,rep_1,keyMay_err,List.length_map,n0,n1,n3,int_beqL,Nat.reduceMul,decide_true,decide_false,Int.reduceAdd]))
  all_goals (rw [hg];rfl)
theorem right_kind {s:Sb} {k:Nat} (h:s.right k=true):s.kind=1∨s.kind=2∨s.kind=3:=by
 rw [Sb.right_eq] at h
 by_cases c1:s.kind=1
 ·exact .inl c1
 rw [if_neg c1] at h
 by_cases c2:s.kind=2
 ·exact .inr (.inl c2)
 rw [if_neg c2] at h
 by_cases c3:s.kind=3
 ·exact .inr (.inr c3)
 rw [if_neg c3] at h
 cases h
theorem right_key {s:Sb} {k:Nat} (h:s.right k=true) (hk:s.kind≠3):keyMay s.ks s.kd=true:=by
 rw [Sb.right_eq] at h
 by_cases c1:s.kind=1
 ·rw [if_pos c1] at h
  simp only [Bool.and_eq_true] at h
  exact (plainSb h.1).2.2
 rw [if_neg c1] at h
 by_cases c2:s.kind=2
 ·rw [if_pos c2] at h
  simp only [Bool.and_eq_true] at h
  exact (plainSb h.1).2.2
 rw [if_neg c2,if_neg hk] at h
 cases h
theorem right_3 {s:Sb} {k:Nat} (h:s.right k=true) (hk:s.kind=3):s.ok3 k=true∧ ∀ x∈s.kids,x.right (k+1)=true:=by
 rw [Sb.right_eq,hk,if_neg (by decide),if_neg (by decide),if_pos rfl] at h
 simp only [Bool.and_eq_true,List.all_eq_true] at h
 exact h
def atomC (x:List UInt8):List C:=[.d (.v (.bool false)),.d (.v (.bool false)),.nil,.d (.sl x.length (x.map bD)),.nil]
theorem atomC_len (l:List (List UInt8)):(l.flatMap atomC).length=l.length*5:=by
 induction l with
 | nil=>rfl
 | cons x l ih =>
  rw [List.flatMap_cons,List.length_append,ih,List.length_cons,show (atomC x).length=5 from rfl]
  omega
@[go_sem] theorem atomC_ren (ρ:Nat→Nat) (l:List (List UInt8)):(l.flatMap atomC).map (C.ren ρ)=l.flatMap atomC:=by
 induction l with
 | nil=>rfl
 | cons x l ih =>
  rw [List.flatMap_cons,List.map_append,ih]
  rfl
@[go_sem] theorem atomC_nm (ob:List (Nat × Option AObj)) (l:List (List UInt8)):nmL ob (l.flatMap atomC)=True:=by
 induction l with
 | nil=>simp [nmL]
 | cons x l ih =>
  rw [List.flatMap_cons,nmL_app,ih,atomC]
  simp [nmL,nmC,C.names]
theorem dOnly_mapd: ∀ l:List D,dOnly (l.map C.d)=some l
 | []=>rfl
 | x::l=>by
  rw [List.map_cons,dOnly,dOnly_mapd l]
  rfl
theorem dOnly_cat: ∀ {a b:List C} {x y:List D},dOnly a=some x→dOnly b=some y→dOnly (a++b)=some (x++y)
 | [],b,x,y,ha,hb=>by
  rw [dOnly] at ha
  injection ha with ha
  subst ha
  exact hb
 | c :: a,b,x,y,ha,hb=>by
  rw [dOnly] at ha
  rw [List.cons_append,dOnly]
  cases h1:dOf c with
  | none=>rw [h1] at ha;simp at ha
  | some d =>
   cases h2:dOnly a with
   | none=>rw [h1,h2] at ha;simp at ha
   | some ds =>
    rw [h1,h2] at ha
    simp only [Option.some.injEq] at ha
    subst ha
    rw [dOnly_cat h2 hb]
    rfl
theorem atomC_only: ∀ l:List (List UInt8),dOnly (l.flatMap atomC)=some (l.flatMap fun x=>treeC (atomT x))
 | []=>rfl
 | x::l=>by
  rw [List.flatMap_cons,List.flatMap_cons]
  refine dOnly_cat ?_ (atomC_only l)
  rw [atomT,treeC_mk]
  rfl
theorem val_flat {s:Sb} {k:Nat} (hf:s.fit) (hr:s.right k=true) (h3:s.kind≠3):s.val.wt≤46000:=by
 obtain ⟨f1,f2,f3,f4⟩:=hf.here
 have hkm:=right_key hr h3
 have ho:=out_wt (s:=s.ks) (d:=s.kd)
 rw [keyOut,if_pos hkm] at ho
 rw [Sb.val_eq]
 by_cases c1:s.kind=1
 ·rw [if_pos c1]
  omega
 ·have c2:s.kind=2:=by
   rcases right_kind hr with h|h|h
   ·exact (c1 h).elim
   ·exact h
   ·exact (h3 h).elim
  have h8:s.names.length≤8:=by
   rw [Sb.right_eq,if_neg c1,if_pos c2] at hr
   simp only [Sb.names2,Bool.and_eq_true,decide_eq_true_eq] at hr
   exact hr.2.2.1
  have hs: ∀ l:List (List UInt8),(∀ n∈l,n.length≤5000)→((l.map atomT).map Tree.wt).sum≤5001*l.length:=by
   intro l
   induction l with
   | nil=>simp
   | cons x l ih =>
    intro h
    have h0:=h x (by simp)
    have:=ih fun y hy=>h y (by simp [hy])
    simp only [List.map_cons,List.sum_cons,List.length_cons,wt_atomT]
    omega
  have hs:=hs s.names f4
  rw [if_neg c1,if_pos c2,wt_listT]
  simp only [List.map_cons,List.sum_cons,wt_atomT,tName,List.length_cons,List.length_nil]
  omega
theorem val_join {s:Sb} {k M:Nat} (hr:s.right k=true) (h3:s.kind=3) (hM: ∀ x∈s.kids,x.val.wt≤M):s.val.wt≤100+8*M:=by
 obtain ⟨ho,_⟩:=right_3 hr h3
 obtain ⟨_,_,_,_,hk1,hk2,hk8⟩:=ok3S ho
 have hs: ∀ l:List Sb,(∀ x∈l,x.val.wt≤M)→((l.map Sb.val).map Tree.wt).sum≤M*l.length:=by
  intro l
  induction l with
  | nil=>simp
  | cons x l ih =>
   intro h
   have h0:=h x (by simp)
   have:=ih fun y hy=>h y (by simp [hy])
   simp only [List.map_cons,List.sum_cons,List.length_cons]
   rw [Nat.mul_succ]
   omega
 have hs:=hs s.kids hM
 have h9:M*s.kids.length≤M*8:=Nat.mul_le_mul_left _ hk8
 have hd1:(dec s.k.toNat).length≤1:=dec_len (n:=s.k.toNat) 0 (by omega)
 have hd2:(dec s.kids.length).length≤1:=dec_len (n:=s.kids.length) 0 (by omega)
 rw [Sb.val_eq,if_neg (by rw [h3];decide),if_neg (by rw [h3];decide),wt_listT]
 simp only [List.map_cons,List.sum_cons,wt_atomT,tKofN,List.length_cons,List.length_nil]
 omega
theorem val_step {k M N:Nat} (h: ∀ s:Sb,s.fit→s.right (k+1)=true→s.val.wt≤M) (hN:46000≤N∧100+8*M≤N): ∀ s:Sb,s.fit→s.right k=true→s.val.wt≤N:=by
 intro s hf hr
 by_cases h3:s.kind=3
 ·have:=val_join hr h3 fun x hx=>h x (hf.kid hx) ((right_3 hr h3).2 x hx)
  omega
 ·have:=val_flat hf hr h3
  omega
theorem val_4: ∀ s:Sb,s.fit→s.right 4=true→s.val.wt≤46000:=by
 intro s hf hr
 refine val_flat hf hr fun h3=>?_
 have:=(ok3S (right_3 hr h3).1).1
 omega
theorem sval_wt {s:Sb} (hf:s.fit) (hr:s.right 1=true):s.val.wt≤24000000:=
 val_step (k:=1) (M:=2944900) (val_step (k:=2) (M:=368100) (val_step (k:=3) (M:=46000) val_4 (by omega)) (by omega)) (by omega) s hf hr
section
variable {G:Nat→Option (List D)}
theorem svalue_m (hG:G 0=some powD): ∀ s:Sb,∀ (cs:List D) (k:Nat),sbC s=cs→s.fit→s.right k=true→Spec Tryz.prog G 113 [.g cs] (.one (.g (treeC s.val))):=Sb.ind fun s ih cs k hcs hw hr=>by
 subst hcs
 obtain ⟨f1,f2,f3,f4⟩:=hw.here
 have hv:=s.val_eq
 have hkp:=kput_m (G:=G) s.ks s.kd (by omega)
 by_cases c3:s.kind=3
 ·obtain ⟨ho,hrk⟩:=right_3 hr c3
  obtain ⟨_,_,_,_,hk1,hk2,hk8⟩:=ok3S ho
  have hkid: ∀ x∈s.kids,x.fit:=fun x hx=>hw.kid hx
  rw [if_neg (by rw [c3];decide),if_neg (by rw [c3];decide)] at hv
  obtain ⟨K,hK⟩: ∃ K:Nat,s.k=(K:Int):=⟨s.k.toNat,by omega⟩
  have hl1:=putlen_m (G:=G) hG K (by omega)
  have hl2:=putlen_m (G:=G) hG s.kids.length (by omega)
  have hd1:(dec K).length≤1000:=by have:=dec_len (n:=K) 0 (by omega);omega
  have hd2:(dec s.kids.length).length≤1000:=by have:=dec_len (n:=s.kids.length) 0 (by omega);omega
  have a0:=atom_m (G:=G) tKofN (by decide)
  have a1:=atom_m (G:=G) (dec K) (by omega)
  have a2:=atom_m (G:=G) (dec s.kids.length) (by omega)
  rw [hK,Int.toNat_natCast] at hv
  rw [hv,sbC_eq,hK]
  have hlist:=list_m (G:=G) (atomT tKofN::atomT (dec K)::atomT (dec s.kids.length)::s.kids.map Sb.val) (by rw [List.length_cons,List.length_cons,List.length_cons,List.length_map];omega)
  rw [show treeC (listT (atomT tKofN::atomT (dec K)::atomT (dec s.kids.length)::s.kids.map Sb.val))=treeC (.mk true false [] [] (atomT tKofN::atomT (dec K)::atomT (dec s.kids.length)::s.kids.map Sb.val)) from rfl]
  have hL:=treeC_eq (.mk true false [] [] (atomT tKofN::atomT (dec K)::atomT (dec s.kids.length)::s.kids.map Sb.val))
  generalize treeC (.mk true false [] [] (atomT tKofN::atomT (dec K)::atomT (dec s.kids.length)::s.kids.map Sb.val))=O at *
  rw [hL] at hlist
  rw [List.flatMap_cons,List.flatMap_cons,List.flatMap_cons,List.flatMap_map,← List.append_assoc,← List.append_assoc,List.length_cons,List.length_cons,List.length_cons,List.length_map,show s.kids.length+1+1+1=3+s.kids.length by omega] at hlist
  obtain ⟨T,hT⟩: ∃ T,T=treeC (atomT tKofN)++treeC (atomT (dec K))++treeC (atomT (dec s.kids.length)):=⟨_,rfl⟩
  have hTl:T.length=15:=by rw [hT,List.length_append,List.length_append,treeC_len,treeC_len,treeC_len]
  rw [← hT] at hlist
  clear hkp hr
  have e3:((s.kind.toNat:Int)==3)=true:=by rw [c3];rfl
  unfold tKofN at *
  unfold bD bytesD at *
  refine spec_of Tryz.func113 rfl rfl rfl (by kernel_rfl) rfl fun K=>?_
  (repeat' (first|with_reducible (first|refine zA fun Kn hK=>?_|refine zU ?_|refine Nx.go ?_|go_step)|refine ⟨none,?_⟩|refine ⟨_,a0,?_⟩|refine ⟨_,hl1,?_⟩|refine ⟨_,a1,?_⟩|refine ⟨_,hl2,?_⟩|refine ⟨_,a2,?_⟩|with_reducible (first|refine zI ?_|refine zV ?_)|simp (maxSteps:=9^9) (disch:=omega) only [wq]|with_reducible refine zM (fun hb=>?_) (fun hb=>?_)<;>try simp only [hb]|with_reducible refine And.intro (by first|omega|(simp;done)|(simp;omega)) ?_|simp (maxSteps:=9^9) -implicitDefEqProofs only [go_sem,e3,List.length_map,List.length_cons,List.length_nil,atomT,treeC_mk,bytesD]))
  refine sound_grow 3 24 5 3 3 (by rfl) (by rfl) (by rfl) (by rfl) ?_
  refine sound_trim 24 15 (by rfl) ?_
  refine sound_loopR (fun x:{k:Nat // k≤s.kids.length}=>⟨[(2,vP 2 0),(3,vR 1000 5 (3+x.1)),(26,vD (.sl s.kids.length (s.kids.flatMap sbC))),(27,vI s.kids.length),(28,vI x.1)],[(2,some ⟨45,zeroOf Tryz.prog 45,true,false⟩),(1000,some ⟨45,(T++(s.kids.take x.1).flatMap fun x=>treeC x.val).map C.d,false,false⟩)]⟩) (fun x=>s.kids.length-x.1) ⟨0,by omega⟩ [(1000,24)] (by (iterate 2 ((try simp (maxSteps:=9^9) -implicitDefEqProofs only [go_sem,bD,AObj.trim,List.take_zero,List.flatMap_nil,List.map_nil,List.append_nil]);(try simp (maxSteps:=9^9) (disch:=omega) only [wq])));refine ⟨rfl,?_,by simp⟩;rw [hT,atomT,atomT,atomT,treeC_mk,treeC_mk,treeC_mk];rfl) (fun ⟨k,hk⟩=>?_)
  by_cases hlt:k<s.kids.length
  ·obtain ⟨x,hx⟩: ∃ x,s.kids[k]?=some x:=⟨_,List.getElem?_eq_getElem hlt⟩
   have hb:decide ((k:Int)<(s.kids.length:Int))=true:=by simpa using hlt
   have hm:=List.mem_of_getElem? hx
   have ht:T++(s.kids.take (k+1)).flatMap (fun x=>treeC x.val)=T++(s.kids.take k).flatMap (fun x=>treeC x.val)++treeC x.val:=by
    rw [List.take_add_one,hx,List.flatMap_append,List.append_assoc]
    simp
   have hlen:(T++(s.kids.take k).flatMap fun x=>treeC x.val).length=(3+k)*5:=by
    rw [List.length_append,hTl,show ((s.kids.take k).flatMap fun x=>treeC x.val)=((s.kids.take k).map Sb.val).flatMap treeC from by rw [List.flatMap_map],treeC_flen,List.length_map,List.length_take,Nat.min_eq_left hk]
    omega
   have hxv:=ih x hm _ _ rfl (hkid x hm) (hrk x hm)
   have hf:=flat_at sbC_len hx
   rw [sbC_eq x] at hxv hf
   unfold bD bytesD at hxv hf
   generalize T++(s.kids.take k).flatMap (fun x=>treeC x.val)=W at *
   (repeat' (first|with_reducible (first|refine zA fun Kn hK=>?_|refine zU ?_|refine Nx.go ?_|go_step)|refine ⟨_,hxv,?_⟩|with_reducible (first|refine zI ?_|refine zV ?_)|simp (maxSteps:=9^9) (disch:=omega) only [wq]|with_reducible refine zM (fun hb=>?_) (fun hb=>?_)<;>try simp only [hb]|with_reducible refine And.intro (by first|omega|(simp;done)|(simp;omega)) ?_|simp (maxSteps:=9^9) -implicitDefEqProofs only [go_sem,hb,rep1,hlen,List.length_map,true_and,Nat.le_refl,List.append_nil,hf]))
   refine ⟨[(1000,36)],⟨k+1,hlt⟩,?_⟩
   rw [ht]
   (iterate 2 ((try simp (maxSteps:=9^9) -implicitDefEqProofs only [go_sem,bD]);(try simp (maxSteps:=9^9) (disch:=omega) only [wq])))
   (simp only [ijq,true_and,and_true];first|done|omega|(split<;>omega)|(simp;done)|(simp;omega))
  ·have hb:decide ((k:Int)<(s.kids.length:Int))=false:=by simpa using hlt
   obtain rfl:k=s.kids.length:=by omega
   rw [List.take_length]
   have hlen:(T++s.kids.flatMap fun x=>treeC x.val).length=(3+s.kids.length)*5:=by
    rw [List.length_append,hTl,show (s.kids.flatMap fun x=>treeC x.val)=(s.kids.map Sb.val).flatMap treeC from by rw [List.flatMap_map],treeC_flen,List.length_map]
    omega
   generalize T++s.kids.flatMap (fun x=>treeC x.val)=W at *
   (repeat' (first|with_reducible (first|refine zA fun Kn hK=>?_|refine zU ?_|refine Nx.go ?_|go_step)|refine ⟨none,?_⟩|refine ⟨_,hlist,?_⟩|with_reducible (first|refine zI ?_|refine zV ?_)|simp (maxSteps:=9^9) (disch:=omega) only [wq]|with_reducible refine zM (fun hb=>?_) (fun hb=>?_)<;>try simp only [hb]|with_reducible refine And.intro (by first|omega|(simp;done)|(simp;omega)) ?_|simp (maxSteps:=9^9) -implicitDefEqProofs only [go_sem,hb,hlen,bD,List.length_map]))
   all_goals (rw [hL];try rfl)
 ·have hkm:=right_key hr c3
  have e3:((s.kind.toNat:Int)==3)=false:=by
   rw [beq_eq_false_iff_ne]
   intro h
   exact c3 (UInt8.toNat_inj.1 (show s.kind.toNat=3 by omega))
  rw [keyOut,if_pos hkm,keyErr,if_pos hkm] at hkp
  have hKl:(keyV s.ks s.kd)=keyV s.ks s.kd:=rfl
  by_cases c1:s.kind=1
  ·have e1:((s.kind.toNat:Int)==1)=true:=by rw [c1];rfl
   rw [if_pos c1] at hv
   rw [hv,sbC_eq]
   rw [treeC_eq (keyV s.ks s.kd)] at hkp ⊢
   generalize keyV s.ks s.kd=V at *
   unfold keyC bD bytesD at *
   refine spec_of Tryz.func113 rfl rfl rfl (by kernel_rfl) rfl fun K=>?_
   (repeat' (first|with_reducible (first|refine zA fun Kn hK=>?_|refine zU ?_|refine Nx.go ?_|go_step)|refine ⟨_,hkp,?_⟩|with_reducible (first|refine zI ?_|refine zV ?_)|simp (maxSteps:=9^9) (disch:=omega) only [wq]|with_reducible refine zM (fun hb=>?_) (fun hb=>?_)<;>try simp only [hb]|with_reducible refine And.intro (by first|omega|(simp;done)|(simp;omega)) ?_|simp (maxSteps:=9^9) -implicitDefEqProofs only [go_sem,e3,e1]))
   all_goals rfl
  have e1:((s.kind.toNat:Int)==1)=false:=by
   rw [beq_eq_false_iff_ne]
   intro h
   exact c1 (UInt8.toNat_inj.1 (show s.kind.toNat=1 by omega))
  have c2:s.kind=2:=by
   rcases right_kind hr with h|h|h
   ·exact (c1 h).elim
   ·exact h
   ·exact (c3 h).elim
  have a0:=atom_m (G:=G) tName (by decide)
  have hnm: ∀ x∈s.names,x.length≤30000000:=fun x hx=>by have:=f4 x hx;omega
  rw [if_neg c1,if_pos c2] at hv
  rw [hv,sbC_eq]
  have hlist:=list_m (G:=G) (atomT tName::keyV s.ks s.kd::s.names.map atomT) (by rw [List.length_cons,List.length_cons,List.length_map];omega)
  rw [show treeC (listT (atomT tName::keyV s.ks s.kd::s.names.map atomT))=treeC (.mk true false [] [] (atomT tName::keyV s.ks s.kd::s.names.map atomT)) from rfl]
  have hL:=treeC_eq (.mk true false [] [] (atomT tName::keyV s.ks s.kd::s.names.map atomT))
  generalize treeC (.mk true false [] [] (atomT tName::keyV s.ks s.kd::s.names.map atomT))=O at *
  rw [hL] at hlist
  generalize keyV s.ks s.kd=V at *
  rw [List.flatMap_cons,List.flatMap_cons,List.flatMap_map,← List.append_assoc,List.length_cons,List.length_cons,List.length_map,show s.names.length+1+1=2+s.names.length by omega] at hlist
  obtain ⟨T,hT⟩: ∃ T,T=treeC (atomT tName)++treeC V:=⟨_,rfl⟩
  have hTl:T.length=10:=by rw [hT,List.length_append,treeC_len,treeC_len]
  rw [← hT] at hlist
  rw [treeC_eq V] at hkp hT
  clear hr hKl hkm
  unfold tName at *
  unfold keyC bD bytesD at *
  refine spec_of Tryz.func113 rfl rfl rfl (by kernel_rfl) rfl fun K=>?_
  (repeat' (first|with_reducible (first|refine zA fun Kn hK=>?_|refine zU ?_|refine Nx.go ?_|go_step)|refine ⟨none,?_⟩|refine ⟨_,hkp,?_⟩|refine ⟨_,a0,?_⟩|with_reducible (first|refine zI ?_|refine zV ?_)|simp (maxSteps:=9^9) (disch:=omega) only [wq]|with_reducible refine zM (fun hb=>?_) (fun hb=>?_)<;>try simp only [hb]|with_reducible refine And.intro (by first|omega|(simp;done)|(simp;omega)) ?_|simp (maxSteps:=9^9) -implicitDefEqProofs only [go_sem,e3,e1,List.length_map,List.length_cons,List.length_nil,atomT,treeC_mk,bytesD]))
  refine sound_grow 8 52 5 2 2 (by rfl) (by rfl) (by rfl) (by rfl) ?_
  refine sound_trim 52 10 (by rfl) ?_
  refine sound_loopR (fun x:{k:Nat // k≤s.names.length}=>⟨[(2,vP 2 0),(8,vR 1000 5 (2+x.1)),(54,vD (.sl s.names.length (s.names.map bytesD))),(55,vI s.names.length),(56,vI x.1)],[(2,some ⟨45,zeroOf Tryz.prog 45,true,false⟩),(1000,some ⟨45,T.map C.d++(s.names.take x.1).flatMap atomC,false,false⟩)]⟩) (fun x=>s.names.length-x.1) ⟨0,by omega⟩ [(1000,52)] (by (iterate 2 ((try simp (maxSteps:=9^9) -implicitDefEqProofs only [go_sem,bD,bytesD,AObj.trim,List.take_zero,List.flatMap_nil,List.map_nil,List.append_nil]);(try simp (maxSteps:=9^9) (disch:=omega) only [wq])));refine ⟨⟨rfl,rfl⟩,?_,by simp⟩;rw [hT,atomT,treeC_mk];rfl) (fun ⟨k,hk⟩=>?_)
  by_cases hlt:k<s.names.length
  ·obtain ⟨x,hx⟩: ∃ x,s.names[k]?=some x:=⟨_,List.getElem?_eq_getElem hlt⟩
   have hb:decide ((k:Int)<(s.names.length:Int))=true:=by simpa using hlt
   have hm:=List.mem_of_getElem? hx
   have ht:T.map C.d++(s.names.take (k+1)).flatMap atomC=T.map C.d++(s.names.take k).flatMap atomC++atomC x:=by
    rw [List.take_add_one,hx,List.flatMap_append,List.append_assoc]
    simp
   have hlen:(T.map C.d++(s.names.take k).flatMap atomC).length=(2+k)*5:=by
    rw [List.length_append,List.length_map,hTl,atomC_len,List.length_take,Nat.min_eq_left hk]
    omega
   have hxv:=bclone_m (G:=G) x (by have:=hnm x hm;omega)
   have hr:(s.names.map bytesD)[k]?=some (D.sl x.length (x.map bD)):=row_at hx
   unfold bytesD at hxv
   generalize T.map C.d++(s.names.take k).flatMap atomC=W at *
   (repeat' (first|with_reducible (first|refine zA fun Kn hK=>?_|refine zU ?_|refine Nx.go ?_|go_step)|refine ⟨_,hxv,?_⟩|with_reducible (first|refine zI ?_|refine zV ?_)|simp (maxSteps:=9^9) (disch:=omega) only [wq]|with_reducible refine zM (fun hb=>?_) (fun hb=>?_)<;>try simp only [hb]|with_reducible refine And.intro (by first|omega|(simp;done)|(simp;omega)) ?_|simp (maxSteps:=9^9) -implicitDefEqProofs only [go_sem,hb,rep1,hlen,List.length_map,true_and,Nat.le_refl,List.append_nil,hr]))
   refine ⟨[(1000,65)],⟨k+1,hlt⟩,?_⟩
   (iterate 2 ((try simp (maxSteps:=9^9) -implicitDefEqProofs only [go_sem,bD]);(try simp (maxSteps:=9^9) (disch:=omega) only [wq])))
   rw [ht]
   simp only [atomC]
   (simp only [ijq,true_and,and_true];first|done|omega|(split<;>omega)|(simp;done)|(simp;omega))
  ·have hb:decide ((k:Int)<(s.names.length:Int))=false:=by simpa using hlt
   obtain rfl:k=s.names.length:=by omega
   rw [List.take_length]
   have hlen:(T.map C.d++s.names.flatMap atomC).length=(2+s.names.length)*5:=by
    rw [List.length_append,List.length_map,hTl,atomC_len]
    omega
   have hdo:=dOnly_cat (dOnly_mapd T) (atomC_only s.names)
   generalize T.map C.d++s.names.flatMap atomC=W at *
   (repeat' (first|with_reducible (first|refine zA fun Kn hK=>?_|refine zU ?_|refine Nx.go ?_|go_step)|refine ⟨none,?_⟩|refine ⟨_,hlist,?_⟩|with_reducible (first|refine zI ?_|refine zV ?_)|simp (maxSteps:=9^9) (disch:=omega) only [wq]|with_reducible refine zM (fun hb=>?_) (fun hb=>?_)<;>try simp only [hb]|with_reducible refine And.intro (by first|omega|(simp;done)|(simp;omega)) ?_|simp (maxSteps:=9^9) -implicitDefEqProofs only [go_sem,hb,hlen,hdo,bD,List.length_map]))
   all_goals (rw [hL];try rfl)
theorem smay_m (hG:G 0=some powD) (s:Sb) {cs:List D} (hcs:sbC s=cs) (hf:s.fit):Spec Tryz.prog G 112 [.g cs] (.one (.c (.v (.bool s.may)))):=by
 subst hcs
 have h1:=sright_m (G:=G) s _ 1 rfl hf (by omega)
 unfold Sb.may
 cases hr:s.right 1 with
 | false =>
  rw [hr] at h1
  rw [sbC_eq] at h1 ⊢
  unfold bD bytesD at *
  refine spec_of Tryz.func112 rfl rfl rfl (by kernel_rfl) rfl fun K=>?_
  (repeat' (first|with_reducible (first|refine zA fun Kn hK=>?_|refine zU ?_|refine Nx.go ?_|go_step)|refine ⟨_,h1,?_⟩|with_reducible (first|refine zI ?_|refine zV ?_)|simp (maxSteps:=9^9) (disch:=omega) only [wq]|with_reducible refine zM (fun hb=>?_) (fun hb=>?_)<;>try simp only [hb]|with_reducible refine And.intro (by first|omega|(simp;done)|(simp;omega)) ?_|simp (maxSteps:=9^9) -implicitDefEqProofs only [go_sem,decide_true]))
  all_goals rfl
 | true =>
  rw [hr] at h1
  have h2:=svalue_m (G:=G) hG s _ 1 rfl hf hr
  have h3:=sxmay_m (G:=G) hG s.val rfl (by have:=sval_wt hf hr;omega)
  generalize s.val.may=q at *
  rw [treeC_eq s.val] at h2 h3
  rw [sbC_eq] at h1 h2 ⊢
  unfold bD bytesD at *
  refine spec_of Tryz.func112 rfl rfl rfl (by kernel_rfl) rfl fun K=>?_
  (repeat' (first|with_reducible (first|refine zA fun Kn hK=>?_|refine zU ?_|refine Nx.go ?_|go_step)|refine ⟨_,h1,?_⟩|refine ⟨_,h2,?_⟩|refine ⟨_,h3,?_⟩|with_reducible (first|refine zI ?_|refine zV ?_)|simp (maxSteps:=9^9) (disch:=omega) only [wq]|with_reducible refine zM (fun hb=>?_) (fun hb=>?_)<;>try simp only [hb]|with_reducible refine And.intro (by first|omega|(simp;done)|(simp;omega)) ?_|simp (maxSteps:=9^9) -implicitDefEqProofs only [go_sem,decide_true]))
  all_goals (cases q<;>rfl)
def sputD (s:Sb):DR:= .many [.g (treeC (if s.may=true then s.val else zeroT)),.c (.v (.int .i64 (if s.may=true then 0 else 7)))]
theorem sbput_m (hG:G 0=some powD) (s:Sb) {cs:List D} (hcs:sbC s=cs) (hf:s.fit):Spec Tryz.prog G 84 [.g cs] (sputD s):=by
 subst hcs
 have h1:=smay_m (G:=G) hG s rfl hf
 unfold sputD
 cases hm:s.may with
 | false =>
  rw [hm] at h1
  rw [if_neg (by decide),if_neg (by decide)]
  rw [sbC_eq] at h1 ⊢
  unfold bD bytesD at *
  rw [show treeC zeroT=zeroC from by unfold zeroT;rw [treeC_mk];rfl]
  refine spec_of Tryz.func84 rfl rfl rfl (by kernel_rfl) rfl fun K=>?_
  (repeat' (first|with_reducible (first|refine zA fun Kn hK=>?_|refine zU ?_|refine Nx.go ?_|go_step)|refine ⟨_,h1,?_⟩|with_reducible (first|refine zI ?_|refine zV ?_)|simp (maxSteps:=9^9) (disch:=omega) only [wq]|with_reducible refine zM (fun hb=>?_) (fun hb=>?_)<;>try simp only [hb]|with_reducible refine And.intro (by first|omega|(simp;done)|(simp;omega)) ?_|simp (maxSteps:=9^9) -implicitDefEqProofs only [go_sem,decide_true]))
  all_goals rfl
 | true =>
  rw [hm] at h1
  rw [if_pos rfl,if_pos rfl]
  have hr:s.right 1=true:=by
   unfold Sb.may at hm
   rw [Bool.and_eq_true] at hm
   exact hm.1
  have h2:=svalue_m (G:=G) hG s _ 1 rfl hf hr
  rw [treeC_eq s.val] at h2 ⊢
  rw [sbC_eq] at h1 h2 ⊢
  unfold bD bytesD at *
  refine spec_of Tryz.func84 rfl rfl rfl (by kernel_rfl) rfl fun K=>?_
  (repeat' (first|with_reducible (first|refine zA fun Kn hK=>?_|refine zU ?_|refine Nx.go ?_|go_step)|refine ⟨_,h1,?_⟩|refine ⟨_,h2,?_⟩|with_reducible (first|refine zI ?_|refine zV ?_)|simp (maxSteps:=9^9) (disch:=omega) only [wq]|with_reducible refine zM (fun hb=>?_) (fun hb=>?_)<;>try simp only [hb]|with_reducible refine And.intro (by first|omega|(simp;done)|(simp;omega)) ?_|simp (maxSteps:=9^9) -implicitDefEqProofs only [go_sem,decide_true]))
  all_goals rfl
end
def putD (n:Nat):Nat→List UInt8
 | 0=>[]
 | k+1=>dgW (n/10^k)::putD n k
theorem putD_2 (n:Nat):putD n 2=put2 n:=by simp [putD,put2]
theorem putD_4 (n:Nat):putD n 4=put4 n:=by simp [putD,put4]
def isB72 (B b:Nat) (l:List UInt8) (w:World):Prop:=Lib.IsBuilder 182 5 B b (Lib.byteCells l) w
theorem byte_app (l k:List UInt8):Lib.byteCells l++Lib.byteCells k=Lib.byteCells (l++k):=by simp [Lib.byteCells]
theorem bsz:(Tryz.prog.info? 182).map (·.size)=some 2:=by kernel_rfl
theorem blies:liesAt Tryz.prog Tryz.prog.depth 182 (2/Tryz.prog.cellsOf 182) 0 182 1=true:=by kernel_rfl
theorem bt1:Tryz.prog.underlying 180=some (.pointer 182):=by kernel_rfl
theorem bt2:Tryz.prog.underlying 222=some .unsafePointer:=by kernel_rfl
theorem bt3:Tryz.prog.underlying 22=some (.slice 5):=by kernel_rfl
theorem bt4:Tryz.prog.underlying 9=some .string:=by kernel_rfl
theorem binfo:(Tryz.prog.info? 5).map (fun i=>(i.zero,i.size,i.bytes))=some (some (.int .u8 0),1,1):=by kernel_rfl
theorem cc_used (b:Nat) (w:World) (h0:w.cell? ⟨b,0,none⟩=some (.pointer (some ⟨b,0,none⟩))) :
  Calls Tryz.prog 184 #[.pointer (some ⟨b,0,none⟩)] w fun e w'=>e= .returned (.tuple #[])∧w'=w:=by
 obtain ⟨j,hj,_⟩:=Option.map_eq_some_iff.1 bsz
 go_enter Tryz.func184,Tryz.ntmps184
 go_wp2
 rw [Lib.run_neq_ptr_same w _ bt1 hj]
 go_wp2
 go_end0
 exact ⟨rfl,rfl⟩
theorem cc_fresh (b:Nat) (w:World) (h0:w.cell? ⟨b,0,none⟩=some (.pointer none)) (hsh:w.shape? b=some (182,2)) (hfz:w.frozen? ⟨b,0,none⟩=false) :
  Calls Tryz.prog 184 #[.pointer (some ⟨b,0,none⟩)] w fun e w'=>e= .returned (.tuple #[])∧w'=w.setCell ⟨b,0,none⟩ (.pointer (some ⟨b,0,none⟩)):=by
 obtain ⟨j,hj,hjs⟩:=Option.map_eq_some_iff.1 bsz
 go_enter Tryz.func184,Tryz.ntmps184
 go_wp2
 rw [Lib.run_to_unsafe w ⟨b,0,none⟩ bt1 bt2 hj (by rw [hjs];decide) hsh (Nat.zero_lt_succ 1)]
 simp only [Result.andThen]
 rw [Oper.upon_value]
 go_wp2
 rw [run_callFunc_extern Tryz.func191 (by kernel_rfl) (by kernel_rfl) (by kernel_rfl) (e:=Extern.AbiNoEscape.same) (by kernel_rfl)]
 rw [Lib.run_noEscape]
 simp only [Result.andThen]
 rw [Oper.upon_value]
 go_wp2
 rw [Lib.run_from_unsafe w ⟨b,0,none⟩ bt2 bt1 hj hsh blies]
 simp only [Result.andThen]
 rw [Oper.upon_value]
 go_wp2
 go_end0
 exact ⟨rfl,rfl⟩
theorem cc_c (B b:Nat) (bs:List Value) (w:World) (h:Lib.IsBuilder 182 5 B b bs w) :
  Calls Tryz.prog 184 #[.pointer (some ⟨b,0,none⟩)] w fun e w'=>e= .returned (.tuple #[])∧(Lib.BuilderAt 182 5 B b (.pointer (some ⟨b,0,none⟩)) bs w'∧Below B w w'):=by
 rcases h with h|h
 ·refine (cc_fresh b w h.cell0 h.shape h.frozen0).mono ?_
  rintro e w' ⟨rfl,rfl⟩
  exact ⟨rfl,h.used _,(Below.refl B w).setCell (p:=⟨b,0,none⟩) h.1 _⟩
 ·refine (cc_used b w h.cell0).mono ?_
  rintro e w' ⟨rfl,rfl⟩
  exact ⟨rfl,h,Below.refl B _⟩
theorem wbyte_c (B b:Nat) (bs:List Value) (c:Int) (w:World) (h:Lib.IsBuilder 182 5 B b bs w) (hlen:bs.length+1≤140737488355328) (hBw:B≤w.heap.size) :
  Calls Tryz.prog 176 #[.pointer (some ⟨b,0,none⟩),.int .u8 c] w fun e w'=>e= .returned .nilIface∧(Lib.IsBuilder 182 5 B b (bs++[.int .u8 c]) w'∧Below B w w'):=by
 obtain ⟨i0,hi,hz0,hz1,hz2⟩:=info_parts binfo
 go_enter Tryz.func176,Tryz.ntmps176
 go_wp2_with (go_at_call 184;refine Calls.mono (cc_c B b bs _ h) ?_)
 rintro e w1 ⟨rfl,h1,hb1⟩
 obtain ⟨hB,v,hbk,hown,hne⟩:=h1
 have c0:w1.cell? ⟨b,0,none⟩=some (.pointer (some ⟨b,0,none⟩)):=by rw [Lib.cell_of_heap hbk];rfl
 have c1:w1.cell? ⟨b,1,none⟩=some v:=by rw [Lib.cell_of_heap hbk];rfl
 go_wp2_with (at_builtin;refine wpList_append_own _ rfl _ _ 22 rfl B 5 i0 (.int .u8 0) 1 1 bt3 hi hz0 hz1 hz2 rfl (by decide) _ _ _ rfl (hown.alloc _) ⟨w1.heap.size,0,none⟩ 1 1 [.int .u8 c] rfl rfl ?c1 ?c2 ?c3 ?c4 ?c5 ?_)
 case c1 =>
  intro j u hj
  match j,hj with
  | 0,hj=>simp at hj;subst hj;simp [Addr.add]
 case c2=>intro u hu;simp at hu;subst hu;rfl
 case c3=>unfold maxLen;omega
 case c4=>omega
 case c5=>have:=hb1.size;simp;omega
 intro v' w2 hown' hgrow _
 have hlt:b<w1.heap.size:=by
  rcases Nat.lt_or_ge b w1.heap.size with h'|h'
  ·exact h'
  ·simp [Array.getElem?_eq_none h'] at hbk
 have hb2:w2.heap[b]?=some (.cells #[.pointer (some ⟨b,0,none⟩),v] 182 (0,0)):=by
  rw [hgrow.block b (by simp;omega) (fun e=>hne e.symm),Lib.alloc_old w1 _ b hlt]
  exact hbk
 have d0:w2.cell? ⟨b,0,none⟩=some (.pointer (some ⟨b,0,none⟩)):=by rw [Lib.cell_of_heap hb2];rfl
 have d1:w2.cell? ⟨b,1,none⟩=some v:=by rw [Lib.cell_of_heap hb2];rfl
 have f1:w2.frozen? ⟨b,1,none⟩=false:=Lib.frozen_of_heap hb2 1
 obtain ⟨g,cap,rfl⟩: ∃ g cap,v'= .slice (some ⟨g,0,none⟩) (bs.length+1) cap:=by
  rcases hown'.2 with ⟨_,h0⟩|⟨g,cap,cur,hv,_⟩
  ·omega
  ·exact ⟨g,cap,hv⟩
 go_wp2
 go_ret
 refine ⟨rfl,?_,?_⟩
 ·exact .inr (Lib.BuilderAt.put (T:=182) (e:=5) hB hb2 (bs':=bs++[.int .u8 c]) (by simpa using hown') (by decide))
 ·exact ((hb1.alloc (by have:=hb1.size;omega) _).grown hgrow (by have:=hb1.size;simp;omega) (fun k hk=>(hown.lt k hk).1)).setCell (p:=⟨b,1,none⟩) hB _
theorem wstr_c (B b:Nat) (bs:List Value) (s:ByteArray) (w:World) (h:Lib.IsBuilder 182 5 B b bs w) (hlen:bs.length+s.size≤140737488355328) (hBw:B≤w.heap.size) :
  Calls Tryz.prog 177 #[.pointer (some ⟨b,0,none⟩),.string s] w fun e w'=>e= .returned (.tuple #[.int .i64 s.size,.nilIface])∧(Lib.IsBuilder 182 5 B b (bs++Lib.strCells s) w'∧Below B w w'):=by
 obtain ⟨i0,hi,hz0,hz1,hz2⟩:=info_parts binfo
 go_enter Tryz.func177,Tryz.ntmps177
 go_wp2_with (go_at_call 184;refine Calls.mono (cc_c B b bs _ h) ?_)
 rintro e w1 ⟨rfl,h1,hb1⟩
 obtain ⟨hB,v,hbk,hown,hne⟩:=h1
 have c0:w1.cell? ⟨b,0,none⟩=some (.pointer (some ⟨b,0,none⟩)):=by rw [Lib.cell_of_heap hbk];rfl
 have c1:w1.cell? ⟨b,1,none⟩=some v:=by rw [Lib.cell_of_heap hbk];rfl
 go_wp2_with (at_builtin;refine Lib.wpList_append_own_string _ rfl _ _ 22 9 rfl B 5 i0 bt3 bt4 hi hz0 hz1 hz2 _ _ _ rfl hown s rfl ?c3 ?c4 ?c5 ?_)
 case c3=>unfold maxLen;omega
 case c4=>omega
 case c5=>have:=hb1.size;omega
 intro v' w2 hown' hgrow _
 have hlt:b<w1.heap.size:=by
  rcases Nat.lt_or_ge b w1.heap.size with h'|h'
  ·exact h'
  ·simp [Array.getElem?_eq_none h'] at hbk
 have hb2:w2.heap[b]?=some (.cells #[.pointer (some ⟨b,0,none⟩),v] 182 (0,0)):=by
  rw [hgrow.block b hlt (fun e=>hne e.symm)]
  exact hbk
 have d0:w2.cell? ⟨b,0,none⟩=some (.pointer (some ⟨b,0,none⟩)):=by rw [Lib.cell_of_heap hb2];rfl
 have d1:w2.cell? ⟨b,1,none⟩=some v:=by rw [Lib.cell_of_heap hb2];rfl
 have f1:w2.frozen? ⟨b,1,none⟩=false:=Lib.frozen_of_heap hb2 1
 obtain ⟨ao,n',cap,rfl⟩: ∃ ao n' cap,v'= .slice ao n' cap:=by
  rcases hown'.2 with ⟨hv,_⟩|⟨g,cap,cur,hv,_⟩
  ·exact ⟨_,_,_,hv⟩
  ·exact ⟨_,_,_,hv⟩
 go_wp2
 go_ret2
 refine ⟨rfl,?_,?_⟩
 ·exact .inr (Lib.BuilderAt.put (T:=182) (e:=5) hB hb2 (bs':=bs++Lib.strCells s) (by simpa [Lib.strCells_length] using hown') (by decide))
 ·exact (hb1.grown hgrow (by have:=hb1.size;omega) (fun k hk=>(hown.lt k hk).1)).setCell (p:=⟨b,1,none⟩) hB _
theorem dateput_c (B b:Nat) (l sg:List UInt8) (n wide:Nat) (w:World) (h:isB72 B b l w) (hl:l.length≤1000) (hs:sg.length≤10) (hw:wide≤4) (hn:n≤100000) (hB:B≤w.heap.size) :
  Calls Tryz.prog 157 #[.pointer (some ⟨b,0,none⟩),.int .i64 (n:Int),.int .i64 (wide:Int),.string ⟨sg.toArray⟩] w fun e w'=>e= .returned (.tuple #[])∧isB72 B b (l++putD n wide++sg) w'∧Below B w w':=by
 go_enter Tryz.func157,Tryz.ntmps157
 have e1:IntKind.i64.wrap ((wide:Int)-1)=(wide:Int)-1:=IntWalk.i64_in _ (by omega)
 go_wp2
 go_loopw [8] (fun i wq=> ∃ (k:Nat) (D:List UInt8),k≤wide∧i= .int .i64 ((k:Int)-1)∧D++putD n k=putD n wide∧D.length≤4∧isB72 B b (l++D) wq∧Below B w wq) (fun i _=>(intOf i+1).toNat)
 case atStart=>exact ⟨wide,[],Nat.le_refl _,by first|rfl|(rw [e1])|simp,rfl,by simp,by simpa using h,Below.refl _ _⟩
 case round =>
  rename World=>wo
  obtain ⟨k,D,hk,rfl,hD,hDl,hb,hBq⟩:=hrel
  have hsz:=hBq.size
  cases k with
  | zero =>
   have e0:((0:Nat):Int)-1= -1:=by omega
   rw [e0]
   have hD':D=putD n wide:=by simpa [putD] using hD
   subst hD'
   go_wp2_with (go_at_call 177;refine Calls.mono (wstr_c B b _ ⟨sg.toArray⟩ _ hb ?_ ?_) ?_)
   ·rw [Lib.byteCells_length,List.length_append,show (⟨sg.toArray⟩:ByteArray).size=sg.length from rfl]
    omega
   ·omega
   rintro e w2 ⟨rfl,hb2,hB2⟩
   go_wp2
   go_end0
   refine ⟨rfl,?_,hBq.trans hB2⟩
   have e3:Lib.strCells ⟨sg.toArray⟩=Lib.byteCells sg:=by simp [Lib.strCells,Lib.byteCells]
   rw [e3,byte_app,List.append_assoc] at hb2
   rw [List.append_assoc]
   exact hb2
  | succ j =>
   have e0:((j+1:Nat):Int)-1=(j:Int):=by omega
   rw [e0]
   go_wp2
   go_loopw [9,18] (fun x i wq=>wq=wo∧ ∃ m,m≤j∧x= .int .i64 ((n/10^m:Nat):Int)∧i= .int .i64 (m:Int)) (fun _ i _=>(j:Nat)-(intOf i).toNat)
   case atStart=>exact ⟨rfl,0,Nat.zero_le _,by simp,rfl⟩
   case round =>
    obtain ⟨rfl,m,hm,rfl,rfl⟩:=hrel
    have hle:n/10^m≤n:=Nat.div_le_self _ _
    have hnext:n/10^(m+1)=n/10^m/10:=by rw [Nat.pow_succ,← Nat.div_div_eq_div_mul]
    have hlast:putD n (m+1)=dgW (n/10^m)::putD n m:=rfl
    generalize n/10^m=x at *
    by_cases hmj:m<j
    ·have hb1:decide ((m:Int)<(j:Int))=true:=by simpa using hmj
     have hq:Int.tdiv (x:Int) 10=((x/10:Nat):Int):=rfl
     have hle2:x/10≤x:=Nat.div_le_self _ _
     have hw1:wrap64 ((x:Int)/10)=((x/10:Nat):Int):=IntWalk.wrap64_in _ (by omega)
     have hw2:IntKind.i64.wrap ((m:Int)+1)=(m:Int)+1:=IntWalk.i64_in _ (by omega)
     go_wp2
     refine ⟨⟨trivial,m+1,hmj,?_,by simp⟩,?_⟩
     ·rw [hnext,hw1]
     ·simp only [intOf]
      omega
    ·have hb1:decide ((m:Int)<(j:Int))=false:=by simpa using hmj
     obtain rfl:m=j:=by omega
     go_wp2_with (go_at_call 176;refine Calls.mono (wbyte_c B b _ _ _ hb ?_ ?_) ?_)
     ·rw [Lib.byteCells_length,List.length_append]
      omega
     ·omega
     rintro e w2 ⟨rfl,hb2,hB2⟩
     go_wp2
     have e4:(48+(x:Int)%10)=((dgW x).toNat:Int):=by
      rw [dgW_nat]
      omega
     have e5:Lib.byteCells (l++D)++[Value.int .u8 (48+(x:Int)%10)]=Lib.byteCells (l++(D++[dgW x])):=by
      rw [e4,← List.append_assoc,← byte_app (l++D)]
      rfl
     rw [e5] at hb2
     refine ⟨⟨m,D++[dgW x],by omega,rfl,?_,?_,hb2,hBq.trans hB2⟩,?_⟩
     ·rw [← hD,hlast,List.append_assoc]
      rfl
     ·have h1:=congrArg List.length hD
      have h2: ∀ k,(putD n k).length=k:=fun k=>by
       induction k with
       | zero=>rfl
       | succ k ih=>simp [putD,ih]
      rw [List.length_append,h2,h2] at h1
      simp only [List.length_append,List.length_cons,List.length_nil]
      omega
     ·simp only [intOf]
      omega
theorem call1 {P:Program} {f:FuncId} {a r:Int} (h:Spec P (fun _=>none) f [.c (.v (.int .i64 a))] (.one (.c (.v (.int .i64 r))))) (w:World) :
  Calls P f #[.int .i64 a] w fun e w'=>e= .returned (.int .i64 r)∧Below w.heap.size w w':=by
 refine Calls.mono ((h.get0 rfl) w (fun _=>False) [.int .i64 a] (fun b hb=>hb.elim) (fun g cs hg=>by cases hg) ⟨rfl,fun i x v hx hv=>?_⟩) ?_
 ·match i with
  | 0 =>
   simp only [List.getElem?_cons_zero,Option.some.injEq] at hx hv
   subst hx hv
   exact .v _ rfl
  | i+1=>simp at hx
 ·rintro e w' ⟨he,u,rfl,hu⟩
  have hu:RD w' _ (.v (.int .i64 r)) u:=hu
  cases hu
  exact ⟨rfl,he.os,he.tape,he.output,he.size,fun k hk=>he.block k hk (fun h=>h)⟩
theorem call2 {P:Program} {f:FuncId} {a b r:Int} (h:Spec P (fun _=>none) f [.c (.v (.int .i64 a)),.c (.v (.int .i64 b))] (.one (.c (.v (.int .i64 r))))) (w:World) :
  Calls P f #[.int .i64 a,.int .i64 b] w fun e w'=>e= .returned (.int .i64 r)∧Below w.heap.size w w':=by
 refine Calls.mono ((h.get0 rfl) w (fun _=>False) [.int .i64 a,.int .i64 b] (fun b hb=>hb.elim) (fun g cs hg=>by cases hg) ⟨rfl,fun i x v hx hv=>?_⟩) ?_
 ·match i with
  | 0 =>
   simp only [List.getElem?_cons_zero,Option.some.injEq] at hx hv
   subst hx hv
   exact .v _ rfl
  | 1 =>
   simp only [List.getElem?_cons_succ,List.getElem?_cons_zero,Option.some.injEq] at hx hv
   subst hx hv
   exact .v _ rfl
  | i+2=>simp at hx
 ·rintro e w' ⟨he,u,rfl,hu⟩
  have hu:RD w' _ (.v (.int .i64 r)) u:=hu
  cases hu
  exact ⟨rfl,he.os,he.tape,he.output,he.size,fun k hk=>he.block k hk (fun h=>h)⟩
theorem putD_len (n:Nat): ∀ k,(putD n k).length=k:=fun k=>by
 induction k with
 | zero=>rfl
 | succ k ih=>simp [putD,ih]
theorem max_val:aheadN 10000=3652425:=rfl
theorem maxN_eq:maxN=315569520000:=by
 unfold maxN
 rw [max_val]
def dateIn (n:Int):DR:= .many [.c (.v (.string ⟨(if decide (0≤n∧n<(maxN:Int))=true then dateS n.toNat else []).toArray⟩)),.c (.v (.bool (decide (0≤n∧n<(maxN:Int)))))]
theorem dput_yes (n:Nat) (h:n<maxN) (w:World):Calls Tryz.prog 132 #[.int .i64 (n:Int)] w fun e w'=>e= .returned (.tuple #[.string ⟨(dateS n).toArray⟩,.bool true])∧Below w.heap.size w w':=by
 rw [maxN_eq] at h
 have a1:=ahead_m (G:=fun _=>none) 10000 (by omega)
 rw [max_val] at a1
 have a2: ∀ w,_:=call1 a1
 clear a1
 have b1:decide ((n:Int)<0)=false:=by simp
 have b2:decide ((n:Int)≥315569520000)=false:=by
  rw [decide_eq_false_iff_not]
  omega
 unfold dateS
 obtain ⟨L,hL⟩: ∃ L,L=n/86400:=⟨_,rfl⟩
 obtain ⟨R,hR⟩: ∃ R,R=n%86400:=⟨_,rfl⟩
 obtain ⟨y0,hy0⟩: ∃ y,y=L/366:=⟨_,rfl⟩
 rw [← hL,← hR]
 have q1:(n:Int)/86400=(L:Int):=by omega
 have q2:(n:Int)%86400=(R:Int):=by omega
 have q3:(L:Int)/366=(y0:Int):=by omega
 have lb:L<3652425:=by omega
 have rb:R<86400:=by omega
 have yb:y0<10000:=by omega
 have h366:=ahead_366 L
 have hyok:=yearN_ok (left:=L) (by rw [max_val];exact lb)
 rw [← hy0] at h366
 have HL:Hid (L=n/86400):=hL
 have HR:Hid (R=n%86400):=hR
 have H366:Hid (aheadN y0≤L):=h366
 have Hyok:Hid (aheadN (yearN L)≤L∧L<aheadN (yearN L+1)∧yearN L<10000):=hyok
 clear hL hR hy0 h366 hyok
 go_enter Tryz.func132,Tryz.ntmps132
 go_wp2_with fail
 refine Calls.mono (a2 _) ?_
 rintro e w2 ⟨rfl,hB2⟩
 clear a2
 go_wp2
 simp only [q2]
 go_loopw [6] (fun x wq=> ∃ k:Nat,x= .int .i64 (k:Int)∧Hid (aheadN k≤L∧Below w.heap.size w wq)∧k<10000) (fun x _=>10000-(intOf x).toNat)
 case atStart=>exact ⟨y0,rfl,⟨H366.out,hB2⟩,yb⟩
 case round =>
  rename World=>wo
  obtain ⟨k,rfl,HB,hk⟩:=hrel
  have e1:IntKind.i64.wrap ((k:Int)+1)=(k:Int)+1:=IntWalk.i64_in _ (by omega)
  have a1:=ahead_m (G:=fun _=>none) (k+1) (by omega)
  have a2: ∀ w,_:=call1 a1
  have e2:((k+1:Nat):Int)=(k:Int)+1:=by omega
  rw [e2] at a2
  clear a1
  obtain ⟨A,hA⟩: ∃ A,A=aheadN (k+1):=⟨_,rfl⟩
  rw [← hA] at a2
  have HA:Hid (A=aheadN (k+1)):=hA
  clear hA e2
  go_wp2_with fail
  refine Calls.mono (a2 _) ?_
  rintro e w3 ⟨rfl,hB3⟩
  clear a2
  have HB3:Hid (Below w.heap.size w w3):=HB.out.2.trans (hB3.mono HB.out.2.size)
  clear hB3
  by_cases hle:A≤L
  ·have b3:decide ((A:Int)≤(L:Int))=true:=by simpa using hle
   go_wp2
   refine ⟨⟨k+1,by simp,⟨by rw [← HA.out];exact hle,HB3.out⟩,?_⟩,?_⟩
   ·have h1:=HA.out
    rw [← max_val] at lb
    apply Decidable.byContradiction
    intro hn
    have:=ahead_mono (show 10000≤k+1 by omega)
    omega
   ·simp only [intOf]
    omega
  ·have b3:decide (A≤L)=false:=by simpa using hle
   have hyk:k=yearN L:=year_one HB.out.1 (by rw [← HA.out];omega) Hyok.out.1 Hyok.out.2.1
   have H12:Hid (L-aheadN k<sumD k 12):=by
    have h1:=HA.out
    rw [aheadN_succ] at h1
    have h2:=sumD_all k
    unfold Hid
    omega
   have Hyk:Hid (k=yearN L):=hyk
   clear hle hyk
   have a1:=ahead_m (G:=fun _=>none) k (by omega)
   have a3: ∀ w,_:=call1 a1
   clear a1
   obtain ⟨A0,hA0⟩: ∃ A,A=aheadN k:=⟨_,rfl⟩
   rw [← hA0] at a3
   have hle0:A0≤L:=by rw [hA0];exact HB.out.1
   have HA0:Hid (A0=aheadN k):=hA0
   clear hA0
   have e4:IntKind.i64.wrap ((L:Int)-(A0:Int))=((L-A0:Nat):Int):=by
    rw [IntWalk.i64_in _ (by omega)]
    omega
   obtain ⟨l,hl⟩: ∃ l,l=L-A0:=⟨_,rfl⟩
   rw [← hl] at e4
   have hlb:l≤L:=by omega
   have Hl:Hid (l=L-A0):=hl
   clear hl
   go_wp2_with fail
   refine Calls.mono (a3 _) ?_
   rintro e w4 ⟨rfl,hB4⟩
   clear a3
   have HB4:Hid (Below w.heap.size w w4):=HB3.out.trans (hB4.mono HB3.out.size)
   clear hB4
   go_wp2
   go_loopw [4,7] (fun x y wq=> ∃ j v:Nat,x= .int .i64 (v:Int)∧y= .int .i64 ((j+1:Nat):Int)∧Hid (v+sumD k j=l∧Below w.heap.size w wq)∧j≤11∧v≤l) (fun _ y _=>12-(intOf y).toNat)
   case atStart=>exact ⟨0,l,rfl,rfl,⟨by simp [sumD],HB4.out⟩,by omega,Nat.le_refl _⟩
   case round =>
    rename World=>wo
    obtain ⟨j,v,rfl,rfl,HV,hj,hvl⟩:=hrel
    have a1:=days_m (G:=fun _=>none) k (j+1)
    have a4: ∀ w,_:=call2 a1
    clear a1
    have e5:((j+1:Nat):Int)=(j:Int)+1:=by omega
    rw [e5] at a4 ⊢
    clear e5
    obtain ⟨A,hA⟩: ∃ A,A=daysN k (j+1):=⟨_,rfl⟩
    rw [← hA] at a4
    have hsum:sumD k (j+1)=sumD k j+A:=by rw [sumD,hA]
    have h28:A≤31:=by
     rw [hA]
     unfold daysN
     repeat' split
     all_goals omega
    have Hs:Hid (sumD k (j+1)=sumD k j+A):=hsum
    have HA2:Hid (A=daysN k (j+1)):=hA
    clear hA hsum
    have e6:IntKind.i64.wrap ((j:Int)+1+1)=(j:Int)+1+1:=IntWalk.i64_in _ (by omega)
    go_wp2_with fail
    refine Calls.mono (a4 _) ?_
    rintro e w5 ⟨rfl,hB5⟩
    have HB5:Hid (Below w.heap.size w w5):=HV.out.2.trans (hB5.mono HV.out.2.size)
    clear hB5
    by_cases hle:A≤v
    ·have b4:decide (A≤v)=true:=by simpa using hle
     have e7:IntKind.i64.wrap ((v:Int)-(A:Int))=((v-A:Nat):Int):=by
      rw [IntWalk.i64_in _ (by omega)]
      omega
     obtain ⟨u,hu⟩: ∃ u,u=v-A:=⟨_,rfl⟩
     rw [← hu] at e7
     have Hu:Hid (u=v-A):=hu
     clear hu
     go_wp2_with fail
     refine Calls.mono (a4 _) ?_
     rintro e w6 ⟨rfl,hB6⟩
     have HB6:Hid (Below w.heap.size w w6):=HB5.out.trans (hB6.mono HB5.out.size)
     clear hB6
     go_wp2
     have h1:=Hs.out
     have h2:=HV.out.1
     have h3:=H12.out
     have h4:=Hl.out
     have h5:=Hu.out
     have h6:=HA0.out
     have hj10:j+1≤11:=by
      apply Decidable.byContradiction
      intro hn
      obtain rfl:j=11:=by omega
      have h1:sumD k 12=sumD k 11+A:=h1
      omega
     refine ⟨⟨j+1,u,rfl,by simp,⟨by omega,HB6.out⟩,hj10,by omega⟩,?_⟩
     ·simp only [intOf]
      omega
    ·have b4:decide (A≤v)=false:=by simpa using hle
     obtain ⟨M,hM⟩: ∃ M,M=j+1:=⟨_,rfl⟩
     obtain ⟨Dn,hDn⟩: ∃ M,M=v+1:=⟨_,rfl⟩
     obtain ⟨H,hH⟩: ∃ M,M=R/3600:=⟨_,rfl⟩
     obtain ⟨X,hX⟩: ∃ M,M=R/60:=⟨_,rfl⟩
     obtain ⟨Mi,hMi⟩: ∃ M,M=X%60:=⟨_,rfl⟩
     obtain ⟨Sx,hSx⟩: ∃ M,M=R%60:=⟨_,rfl⟩
     have g1:(j:Int)+1=(M:Int):=by omega
     have g2:(v:Int)+1=(Dn:Int):=by omega
     have g3:(R:Int)/3600=(H:Int):=by omega
     have g4:(R:Int)/60=(X:Int):=by omega
     have g5:(X:Int)%60=(Mi:Int):=by omega
     have g6:(R:Int)%60=(Sx:Int):=by omega
     have hMon:monN k l=M:=by
      have h0:=HV.out.1
      have h1:=Hs.out
      have h2:=H12.out
      have h3:=Hl.out
      have h4:=HA0.out
      have hm:=monF_ok k 11 1 l l (Nat.le_refl _) rfl (by simp [sumD]) (by omega)
      rw [hM]
      exact mon_one hm.1 (by omega) hm.2.2.1 hm.2.2.2 (by rw [Nat.add_sub_cancel];omega) (by omega)
     have HF:Hid (dateT (yearN L) (monN (yearN L) (L-aheadN (yearN L))) (L-aheadN (yearN L)-sumD (yearN L) (monN (yearN L) (L-aheadN (yearN L))-1)+1) (R/3600) (R/60%60) (R%60)=dateT k M Dn H Mi Sx):=by
      have h0:=HV.out.1
      have h3:=Hl.out
      have h4:=HA0.out
      have h5:L-aheadN k=l:=by omega
      rw [← Hyk.out,h5,hMon,← hH,← hX,← hMi,← hSx,hDn]
      have h6:M-1=j:=by omega
      rw [h6]
      have h7:l-sumD k j=v:=by omega
      rw [h7]
      rfl
     have bM:M≤12:=by omega
     have bD:Dn≤4000000:=by omega
     have hA31:=Nat.lt_of_not_le hle
     have bD:Dn≤31:=by omega
     have bH:H≤24:=by omega
     have bMi:Mi≤60:=by omega
     have bS:Sx≤60:=by omega
     clear hle a4 hMon hM hDn hH hX hMi hSx hA31
     go_wp2_with fail
     have hb0:isB72 w5.heap.size w5.heap.size [] (w5.alloc (.cells #[.pointer none,.slice none 0 0] 182)):=Lib.fresh_isBuilder _ _ _
     have hB0:Below w5.heap.size w5 (w5.alloc (.cells #[.pointer none,.slice none 0 0] 182)):=(Below.refl _ _).alloc (Nat.le_refl _) _
     have s0:=hB0.size
     generalize hb:w5.heap.size=b at *
     generalize (w5.alloc (.cells #[.pointer none,.slice none 0 0] 182))=wa at *
     have H0:Hid (isB72 b b [] wa∧Below b w5 wa∧b≤wa.heap.size):=⟨hb0,hB0,by omega⟩
     clear hb0 hB0 s0
     refine Calls.mono (dateput_c b b _ [45] k 4 _ H0.out.1 (by simp) (by simp) (by omega) (by omega) H0.out.2.2) ?_
     rintro e x1 ⟨rfl,c1,d1⟩
     have H1:Hid (isB72 b b ([]++putD k 4++[45]) x1∧Below b w5 x1∧b≤x1.heap.size):=⟨c1,H0.out.2.1.trans d1,Nat.le_trans H0.out.2.2 d1.size⟩
     clear c1 d1
     go_wp2_with fail
     refine Calls.mono (dateput_c b b _ [45] M 2 _ H1.out.1 (by simp [putD_len]) (by simp) (by omega) (by omega) H1.out.2.2) ?_
     rintro e x2 ⟨rfl,c1,d1⟩
     have H2:Hid (isB72 b b (([]++putD k 4++[45])++putD M 2++[45]) x2∧Below b w5 x2∧b≤x2.heap.size):=⟨c1,H1.out.2.1.trans d1,Nat.le_trans H1.out.2.2 d1.size⟩
     clear c1 d1 H1
     go_wp2_with fail
     refine Calls.mono (dateput_c b b _ [95] Dn 2 _ H2.out.1 (by simp [putD_len]) (by simp) (by omega) (by omega) H2.out.2.2) ?_
     rintro e x3 ⟨rfl,c1,d1⟩
     have H3:Hid (isB72 b b ((([]++putD k 4++[45])++putD M 2++[45])++putD Dn 2++[95]) x3∧Below b w5 x3∧b≤x3.heap.size):=⟨c1,H2.out.2.1.trans d1,Nat.le_trans H2.out.2.2 d1.size⟩
     clear c1 d1 H2
     go_wp2_with fail
     refine Calls.mono (dateput_c b b _ [58] H 2 _ H3.out.1 (by simp [putD_len]) (by simp) (by omega) (by omega) H3.out.2.2) ?_
     rintro e x4 ⟨rfl,c1,d1⟩
     have H4:Hid (isB72 b b (((([]++putD k 4++[45])++putD M 2++[45])++putD Dn 2++[95])++putD H 2++[58]) x4∧Below b w5 x4∧b≤x4.heap.size):=⟨c1,H3.out.2.1.trans d1,Nat.le_trans H3.out.2.2 d1.size⟩
     clear c1 d1 H3
     go_wp2_with fail
     refine Calls.mono (dateput_c b b _ [58] Mi 2 _ H4.out.1 (by simp [putD_len]) (by simp) (by omega) (by omega) H4.out.2.2) ?_
     rintro e x5 ⟨rfl,c1,d1⟩
     have H5:Hid (isB72 b b ((((([]++putD k 4++[45])++putD M 2++[45])++putD Dn 2++[95])++putD H 2++[58])++putD Mi 2++[58]) x5∧Below b w5 x5∧b≤x5.heap.size):=⟨c1,H4.out.2.1.trans d1,Nat.le_trans H4.out.2.2 d1.size⟩
     clear c1 d1 H4
     go_wp2_with fail
     refine Calls.mono (dateput_c b b _ [] Sx 2 _ H5.out.1 (by simp [putD_len]) (by simp) (by omega) (by omega) H5.out.2.2) ?_
     rintro e x6 ⟨rfl,c1,d1⟩
     have H6:Hid (isB72 b b (((((([]++putD k 4++[45])++putD M 2++[45])++putD Dn 2++[95])++putD H 2++[58])++putD Mi 2++[58])++putD Sx 2++[]) x6∧Below b w5 x6∧b≤x6.heap.size):=⟨c1,H5.out.2.1.trans d1,Nat.le_trans H5.out.2.2 d1.size⟩
     clear c1 d1 H5
     go_wp2_with fail
     refine Calls.mono (Tryz.Builder_String_any b b _ _ H6.out.1 H6.out.2.2) ?_
     rintro e x7 ⟨rfl,d1⟩
     have H7:Hid (Below w.heap.size w x7):=HB5.out.trans ((H6.out.2.1.trans d1).mono (by rw [← hb];exact HB5.out.size))
     clear d1 H6
     have HT:Hid (((((([]++putD k 4++[45])++putD M 2++[45])++putD Dn 2++[95])++putD H 2++[58])++putD Mi 2++[58])++putD Sx 2++[]=dateT k M Dn H Mi Sx):=by
      unfold Hid dateT
      rw [putD_4,putD_2,putD_2,putD_2,putD_2,putD_2]
      simp only [List.nil_append,List.append_nil,List.append_assoc]
     rw [HT.out,← HF.out]
     clear g1 g2 g3 g4 g5 g6
     go_wp2
     go_ret2
     exact ⟨rfl,H7.out⟩
section
variable {G:Nat→Option (List D)}
theorem dput_no (n:Int) (h: ¬ (0≤n∧n<(maxN:Int))):Spec Tryz.prog G 132 [.c (.v (.int .i64 n))] (.many [.c (.v (.string ⟨#[]⟩)),.c (.v (.bool false))]):=by
 rw [maxN_eq] at h
 have a1:=ahead_m (G:=G) 10000 (by omega)
 rw [max_val] at a1
 unfold iD at a1
 rw [show ((3652425:Nat):Int)=3652425 from rfl,show ((10000:Nat):Int)=10000 from rfl] at a1
 by_cases h0:n<0
 ·have b1:decide (n<0)=true:=by simpa using h0
  refine spec_of Tryz.func132 rfl rfl rfl (by kernel_rfl) rfl fun K=>?_
  (repeat' (first|with_reducible (first|refine zA fun Kn hK=>?_|refine zU ?_|refine Nx.go ?_|go_step)|with_reducible (first|refine zI ?_|refine zV ?_)|simp (maxSteps:=9^9) (disch:=omega) only [wq]|with_reducible refine zM (fun hb=>?_) (fun hb=>?_)<;>try simp only [hb]|with_reducible refine And.intro (by first|omega|(simp;done)|(simp;omega)) ?_|simp (maxSteps:=9^9) -implicitDefEqProofs only [go_sem,b1,decide_true]))
 ·have b1:decide (n<0)=false:=by simpa using h0
  have b2:decide (n≥3652425*86400)=true:=by
   rw [decide_eq_true_iff]
   omega
  refine spec_of Tryz.func132 rfl rfl rfl (by kernel_rfl) rfl fun K=>?_
  (repeat' (first|with_reducible (first|refine zA fun Kn hK=>?_|refine zU ?_|refine Nx.go ?_|go_step)|refine ⟨_,a1,?_⟩|with_reducible (first|refine zI ?_|refine zV ?_)|simp (maxSteps:=9^9) (disch:=omega) only [wq]|with_reducible refine zM (fun hb=>?_) (fun hb=>?_)<;>try simp only [hb]|with_reducible refine And.intro (by first|omega|(simp;done)|(simp;omega)) ?_|simp (maxSteps:=9^9) -implicitDefEqProofs only [go_sem,b1,b2,decide_true]))
theorem dput_m (n:Nat) (h:n<maxN):Spec Tryz.prog G 132 [.c (.v (.int .i64 (n:Int)))] (.many [.c (.v (.string ⟨(dateS n).toArray⟩)),.c (.v (.bool true))]):=by
 refine Spec.mk0 rfl ?_
 intro w S vs hS hT hA
 obtain ⟨hl,hc⟩:=hA
 match vs,hl with
 | [u],_ =>
 have hu:RD w S (.v (.int .i64 (n:Int))) u:=hc 0 _ _ rfl rfl
 obtain rfl:u= .int .i64 (n:Int):=by
  cases hu
  rfl
 refine Calls.mono (dput_yes n h w) ?_
 rintro e w' ⟨rfl,hB⟩
 refine ⟨⟨hB.os,hB.tape,hB.output,hB.size,fun k hk _=>hB.block k hk⟩,[.string ⟨(dateS n).toArray⟩,.bool true],rfl,rfl,fun i x v hx hv=>?_⟩
 match i with
 | 0 =>
  simp only [List.getElem?_cons_zero,Option.some.injEq] at hx hv
  subst hx hv
  exact .v _ rfl
 | 1 =>
  simp only [List.getElem?_cons_succ,List.getElem?_cons_zero,Option.some.injEq] at hx hv
  subst hx hv
  exact .v _ rfl
 | i+2=>simp at hx
theorem datePut_m (n:Int):Spec Tryz.prog G 132 [.c (.v (.int .i64 n))] (dateIn n):=by
 unfold dateIn
 by_cases h:0≤n∧n<(maxN:Int)
 ·rw [decide_eq_true h,if_pos rfl]
  obtain ⟨m,rfl⟩: ∃ m:Nat,n=(m:Int):=⟨n.toNat,by omega⟩
  exact dput_m m (by omega)
 ·rw [decide_eq_false h,if_neg (by decide)]
  exact dput_no n h
end
@[go_sem] def wdC (w:Wd):List D:=[.v (.bool w.aft),.v (.int .i64 w.frm),.v (.bool w.unt),.v (.int .i64 w.to)]
theorem maxN_val:maxN=315569520000:=by
 unfold maxN
 rfl
section
variable {G:Nat→Option (List D)}
theorem side_m (is:Bool) (n:Int):Spec Tryz.prog G 131 [.c (.v (.bool is)),.c (.v (.int .i64 n))] (.one (.c (.v (.bool (sideW is n))))):=by
 have hd:=datePut_m (G:=G) n
 have e:(n==0)=decide (n=0):=Bool.beq_eq_decide_eq _ _
 unfold sideW
 unfold dateIn at hd
 generalize decide (0≤n∧n<(maxN:Int))=q at *
 generalize decide (n=0)=z at *
 generalize (if q=true then dateS n.toNat else [])=s at *
 cases is<;>cases q<;>cases z
 all_goals
  refine spec_of Tryz.func131 rfl rfl rfl (by kernel_rfl) rfl fun K=>?_
  (repeat' (first|with_reducible (first|refine zA fun Kn hK=>?_|refine zU ?_|refine Nx.go ?_|go_step)|refine ⟨_,hd,?_⟩|with_reducible (first|refine zI ?_|refine zV ?_)|simp (maxSteps:=9^9) (disch:=omega) only [wq]|with_reducible refine zM (fun hb=>?_) (fun hb=>?_)<;>try simp only [hb]|with_reducible refine And.intro (by first|omega|(simp;done)|(simp;omega)) ?_|simp (maxSteps:=9^9) -implicitDefEqProofs only [go_sem,e,decide_true]))
  all_goals rfl
theorem wmay_m (w:Wd):Spec Tryz.prog G 114 [.g (wdC w)] (.one (.c (.v (.bool w.may)))):=by
 have s1:=side_m (G:=G) w.aft w.frm
 have s2:=side_m (G:=G) w.unt w.to
 unfold Wd.may
 generalize sideW w.aft w.frm=q1 at *
 generalize sideW w.unt w.to=q2 at *
 unfold wdC
 cases q1
 all_goals
  refine spec_of Tryz.func114 rfl rfl rfl (by kernel_rfl) rfl fun K=>?_
  (repeat' (first|with_reducible (first|refine zA fun Kn hK=>?_|refine zU ?_|refine Nx.go ?_|go_step)|refine ⟨_,s1,?_⟩|refine ⟨_,s2,?_⟩|with_reducible (first|refine zI ?_|refine zV ?_)|simp (maxSteps:=9^9) (disch:=omega) only [wq]|with_reducible refine zM (fun hb=>?_) (fun hb=>?_)<;>try simp only [hb]|with_reducible refine And.intro (by first|omega|(simp;done)|(simp;omega)) ?_|simp (maxSteps:=9^9) -implicitDefEqProofs only [go_sem,decide_true]))
  all_goals rfl
theorem dateS_len (n:Nat):(dateS n).length=19:=rfl
theorem wend_m (word:List UInt8) (n:Int) (hl:word.length≤1000) (h:0≤n∧n<(maxN:Int)):Spec Tryz.prog G 115 [.c (.v (.string ⟨word.toArray⟩)),.c (.v (.int .i64 n))] (.one (.g (treeC (endV word n)))):=by
 have hm:=maxN_val
 have hd:=datePut_m (G:=G) n
 unfold dateIn at hd
 rw [decide_eq_true h,if_pos rfl] at hd
 have a1:=atom_m (G:=G) word (by omega)
 have a2:=atom_m (G:=G) (dateS n.toNat) (by rw [dateS_len];omega)
 unfold endV
 generalize dateS n.toNat=s at *
 have e1:=treeC_mk false false [] word []
 have e2:=treeC_mk false false [] s []
 rw [e1] at a1
 rw [e2] at a2
 have hlist:=list_m' (G:=G) [atomT word,atomT s] rfl rfl (by simp)
 simp only [List.flatMap_cons,List.flatMap_nil,atomT,e1,e2,List.cons_append,List.nil_append,List.length_cons,List.length_nil] at hlist
 rw [listT,treeC_mk]
 rw [listT,treeC_mk] at hlist
 simp only [atomT]
 unfold bytesD at *
 simp only [List.flatMap_nil,List.length_nil,List.map_nil] at *
 refine spec_of Tryz.func115 rfl rfl rfl (by kernel_rfl) rfl fun K=>?_
 (repeat' (first|with_reducible (first|refine zA fun Kn hK=>?_|refine zU ?_|refine Nx.go ?_|go_step)|refine ⟨none,?_⟩|refine ⟨_,hd,?_⟩|refine ⟨_,a1,?_⟩|refine ⟨_,a2,?_⟩|refine ⟨_,hlist,?_⟩|with_reducible (first|refine zI ?_|refine zV ?_)|simp (maxSteps:=9^9) (disch:=omega) only [wq]|with_reducible refine zM (fun hb=>?_) (fun hb=>?_)<;>try simp only [hb]|with_reducible refine And.intro (by first|omega|(simp;done)|(simp;omega)) ?_|simp (maxSteps:=9^9) -implicitDefEqProofs only [go_sem,List.length_map,List.length_cons,List.length_nil,decide_true]))
 all_goals trace_state
end
def wputD (w:Wd):DR:=if w.may=true then .many [.g (treeC w.val),.c (.v (.int .i64 0))] else .many [.g zeroC,.c (.v (.int .i64 11))]
section
variable {G:Nat→Option (List D)}
theorem wput_m (w:Wd):Spec Tryz.prog G 87 [.g (wdC w)] (wputD w):=by
 have hm:=wmay_m (G:=G) w
 unfold wputD
 by_cases hmay:w.may=true
 ·rw [if_pos hmay]
  rw [hmay] at hm
  obtain ⟨aft,frm,unt,to⟩:=w
  rw [may_mk] at hmay
  have h1:sideW aft frm=true:=by
   revert hmay
   cases sideW aft frm<;>simp
  have h2:sideW unt to=true:=by
   revert hmay
   cases sideW aft frm<;>simp
  clear hmay
  have a1:=atom_m (G:=G) wValid (by decide)
  have e1:=treeC_mk false false [] wValid []
  rw [e1] at a1
  cases aft<;>cases unt
  ·rw [show (Wd.mk false frm false to).val=listT [atomT wValid] from rfl]
   have hl:=list_m' (G:=G) [atomT wValid] (n:=1) rfl rfl (by simp)
   simp only [List.flatMap_cons,List.flatMap_nil,atomT,e1,List.cons_append,List.nil_append,List.append_nil,List.length_cons,List.length_nil] at hl
   rw [listT,treeC_mk] at hl ⊢
   simp only [List.flatMap_cons,List.flatMap_nil,atomT,e1,List.cons_append,List.nil_append,List.append_nil,List.length_cons,List.length_nil] at hl ⊢
   unfold wdC at *
   try unfold wNB at *
   try unfold wNA at *
   unfold wValid bytesD at *
   refine spec_of Tryz.func87 rfl rfl rfl (by kernel_rfl) rfl fun K=>?_
   (repeat' (first|with_reducible (first|refine zA fun Kn hK=>?_|refine zU ?_|refine Nx.go ?_|go_step)|refine ⟨none,?_⟩|refine ⟨_,hm,?_⟩|refine ⟨_,a1,?_⟩|refine ⟨_,hl,?_⟩|with_reducible (first|refine zI ?_|refine zV ?_)|simp (maxSteps:=9^9) (disch:=omega) only [wq]|with_reducible refine zM (fun hb=>?_) (fun hb=>?_)<;>try simp only [hb]|with_reducible refine And.intro (by first|omega|(simp;done)|(simp;omega)) ?_|simp (maxSteps:=9^9) -implicitDefEqProofs only [go_sem,rep1,List.length_map,List.length_cons,List.length_nil,decide_true]))
   all_goals trace_state
  ·rw [show (Wd.mk false frm true to).val=listT [atomT wValid,endV wNA to] from rfl]
   have b2:=wend_m (G:=G) wNA to (by decide) (side_t h2)
   rw [treeC_eq (endV wNA to)] at b2
   generalize endV wNA to=E2 at *
   have f2:=treeC_eq E2
   have hl:=list_m' (G:=G) [atomT wValid,E2] (n:=2) rfl rfl (by simp)
   simp only [List.flatMap_cons,List.flatMap_nil,atomT,e1,f2,List.cons_append,List.nil_append,List.append_nil,List.length_cons,List.length_nil] at hl
   rw [listT,treeC_mk] at hl ⊢
   simp only [List.flatMap_cons,List.flatMap_nil,atomT,e1,f2,List.cons_append,List.nil_append,List.append_nil,List.length_cons,List.length_nil] at hl ⊢
   unfold wdC at *
   try unfold wNB at *
   try unfold wNA at *
   unfold wValid bytesD at *
   refine spec_of Tryz.func87 rfl rfl rfl (by kernel_rfl) rfl fun K=>?_
   (repeat' (first|with_reducible (first|refine zA fun Kn hK=>?_|refine zU ?_|refine Nx.go ?_|go_step)|refine ⟨none,?_⟩|refine ⟨_,hm,?_⟩|refine ⟨_,a1,?_⟩|refine ⟨_,b2,?_⟩|refine ⟨_,hl,?_⟩|with_reducible (first|refine zI ?_|refine zV ?_)|simp (maxSteps:=9^9) (disch:=omega) only [wq]|with_reducible refine zM (fun hb=>?_) (fun hb=>?_)<;>try simp only [hb]|with_reducible refine And.intro (by first|omega|(simp;done)|(simp;omega)) ?_|simp (maxSteps:=9^9) -implicitDefEqProofs only [go_sem,rep1,List.length_map,List.length_cons,List.length_nil,decide_true]))
   all_goals trace_state
  ·rw [show (Wd.mk true frm false to).val=listT [atomT wValid,endV wNB frm] from rfl]
   have b1:=wend_m (G:=G) wNB frm (by decide) (side_t h1)
   rw [treeC_eq (endV wNB frm)] at b1
   generalize endV wNB frm=E1 at *
   have f1:=treeC_eq E1
   have hl:=list_m' (G:=G) [atomT wValid,E1] (n:=2) rfl rfl (by simp)
   simp only [List.flatMap_cons,List.flatMap_nil,atomT,e1,f1,List.cons_append,List.nil_append,List.append_nil,List.length_cons,List.length_nil] at hl
   rw [listT,treeC_mk] at hl ⊢
   simp only [List.flatMap_cons,List.flatMap_nil,atomT,e1,f1,List.cons_append,List.nil_append,List.append_nil,List.length_cons,List.length_nil] at hl ⊢
   unfold wdC at *
   try unfold wNB at *
   try unfold wNA at *
   unfold wValid bytesD at *
   refine spec_of Tryz.func87 rfl rfl rfl (by kernel_rfl) rfl fun K=>?_
   (repeat' (first|with_reducible (first|refine zA fun Kn hK=>?_|refine zU ?_|refine Nx.go ?_|go_step)|refine ⟨none,?_⟩|refine ⟨_,hm,?_⟩|refine ⟨_,a1,?_⟩|refine ⟨_,b1,?_⟩|refine ⟨_,hl,?_⟩|with_reducible (first|refine zI ?_|refine zV ?_)|simp (maxSteps:=9^9) (disch:=omega) only [wq]|with_reducible refine zM (fun hb=>?_) (fun hb=>?_)<;>try simp only [hb]|with_reducible refine And.intro (by first|omega|(simp;done)|(simp;omega)) ?_|simp (maxSteps:=9^9) -implicitDefEqProofs only [go_sem,rep1,List.length_map,List.length_cons,List.length_nil,decide_true]))
   all_goals trace_state
  ·rw [show (Wd.mk true frm true to).val=listT [atomT wValid,endV wNB frm,endV wNA to] from rfl]
   have b1:=wend_m (G:=G) wNB frm (by decide) (side_t h1)
   rw [treeC_eq (endV wNB frm)] at b1
   have b2:=wend_m (G:=G) wNA to (by decide) (side_t h2)
   rw [treeC_eq (endV wNA to)] at b2
   generalize endV wNB frm=E1 at *
   generalize endV wNA to=E2 at *
   have f1:=treeC_eq E1
   have f2:=treeC_eq E2
   have hl:=list_m' (G:=G) [atomT wValid,E1,E2] (n:=3) rfl rfl (by simp)
   simp only [List.flatMap_cons,List.flatMap_nil,atomT,e1,f1,f2,List.cons_append,List.nil_append,List.append_nil,List.length_cons,List.length_nil] at hl
   rw [listT,treeC_mk] at hl ⊢
   simp only [List.flatMap_cons,List.flatMap_nil,atomT,e1,f1,f2,List.cons_append,List.nil_append,List.append_nil,List.length_cons,List.length_nil] at hl ⊢
   unfold wdC at *
   try unfold wNB at *
   try unfold wNA at *
   unfold wValid bytesD at *
   refine spec_of Tryz.func87 rfl rfl rfl (by kernel_rfl) rfl fun K=>?_
   (repeat' (first|with_reducible (first|refine zA fun Kn hK=>?_|refine zU ?_|refine Nx.go ?_|go_step)|refine ⟨none,?_⟩|refine ⟨_,hm,?_⟩|refine ⟨_,a1,?_⟩|refine ⟨_,b1,?_⟩|refine ⟨_,b2,?_⟩|refine ⟨_,hl,?_⟩|with_reducible (first|refine zI ?_|refine zV ?_)|simp (maxSteps:=9^9) (disch:=omega) only [wq]|with_reducible refine zM (fun hb=>?_) (fun hb=>?_)<;>try simp only [hb]|with_reducible refine And.intro (by first|omega|(simp;done)|(simp;omega)) ?_|simp (maxSteps:=9^9) -implicitDefEqProofs only [go_sem,rep1,List.length_map,List.length_cons,List.length_nil,decide_true]))
   all_goals trace_state
 ·rw [if_neg hmay]
  rw [show w.may=false by cases h:w.may<;>simp_all] at hm
  unfold wdC at *
  refine spec_of Tryz.func87 rfl rfl rfl (by kernel_rfl) rfl fun K=>?_
  (repeat' (first|with_reducible (first|refine zA fun Kn hK=>?_|refine zU ?_|refine Nx.go ?_|go_step)|refine ⟨_,hm,?_⟩|with_reducible (first|refine zI ?_|refine zV ?_)|simp (maxSteps:=9^9) (disch:=omega) only [wq]|with_reducible refine zM (fun hb=>?_) (fun hb=>?_)<;>try simp only [hb]|with_reducible refine And.intro (by first|omega|(simp;done)|(simp;omega)) ?_|simp (maxSteps:=9^9) -implicitDefEqProofs only [go_sem,decide_true]))
  all_goals rfl
end
theorem cat_e (w:List UInt8):ByteArray.toList ((⟨w.toArray⟩:ByteArray)++(⟨#[101]⟩:ByteArray))=w++[101]:=by
 rw [show ((⟨w.toArray⟩:ByteArray)++(⟨#[101]⟩:ByteArray))=⟨(w++[101]).toArray⟩ from ByteArray.ext (by simp),ba_list]
section
variable {G:Nat→Option (List D)}
def endsO (o:Option (Bd × List Tree)):DR:=match o with
 | some (b,m)=> .many [.g (bdD b),.c (.sl m.length (m.flatMap treeC))]
 | none=> .pan vNone
theorem ends_m (l:List Tree) (w:List UInt8) (hw:w.length≤1000) (hl:l.length≤100000000) (hd: ∀ x∈l,x.data.length≤1000000000):Spec Tryz.prog G 182 [.c (.sl l.length (l.flatMap treeC)),.c (.v (.string ⟨w.toArray⟩))] (endsO (endP l w)):=by
 match l,hl,hd with
 | [],_,_ =>
  have z0:(((([]:List Tree).length:Nat):Int)==0)=true:=rfl
  have z1:endP [] w=some (Bd.none,[]):=rfl
  rw [z1,endsO]
  clear z1
  generalize ([]:List Tree)=L at *
  unfold bdD Bd.none
  refine spec_of Tryz.func182 rfl rfl rfl (by kernel_rfl) rfl fun K=>?_
  (repeat' (first|with_reducible (first|refine zA fun Kn hK=>?_|refine zU ?_|refine Nx.go ?_|go_step)|with_reducible (first|refine zI ?_|refine zV ?_)|simp (maxSteps:=9^9) (disch:=omega) only [wq]|with_reducible refine zM (fun hb=>?_) (fun hb=>?_)<;>try simp only [hb]|with_reducible refine And.intro (by first|omega|(simp;done)|(simp;omega)) ?_|simp (maxSteps:=9^9) -implicitDefEqProofs only [go_sem,z0,bD,bytesD]))
  all_goals rfl
 | x :: l, hl,hd =>
  have hx:(x::l)[0]?=some x:=rfl
  have f0:=flat_at (f:=treeC) treeC_len hx
  simp only [Nat.zero_mul,List.drop_zero] at f0
  have n0:(((x::l).length:Int)==0)=false:=by rw [beq_eq_false_iff_ne,List.length_cons];omega
  have n1:(0:Int)<((x::l).length:Int):=by rw [List.length_cons];omega
  have n1':0<(x::l).length:=by rw [List.length_cons];omega
  have ex:=treeC_eq x
  cases hxb:x.list||x.hinted with
  | true =>
   have h1:=patom_n (G:=G) x rfl hxb
   have z1:endP (x::l) w=none:=by
    unfold endP
    dsimp only
    rw [if_pos hxb]
   rw [z1,endsO]
   clear z1
   generalize x::l=L at *
   refine spec_of Tryz.func182 rfl rfl rfl (by kernel_rfl) rfl fun K=>?_
   (repeat' (first|with_reducible (first|refine zA fun Kn hK=>?_|refine zU ?_|refine Nx.go ?_|go_step)|refine ⟨_,h1,?_⟩|with_reducible (first|refine zI ?_|refine zV ?_)|simp (maxSteps:=9^9) (disch:=omega) only [wq]|with_reducible refine zM (fun hb=>?_) (fun hb=>?_)<;>try simp only [hb]|with_reducible refine And.intro (by first|omega|(simp;done)|(simp;omega)) ?_|simp (maxSteps:=9^9) -implicitDefEqProofs only [go_sem,n0,n1,n1',f0,bD,bytesD]))
   exact ⟨_,rfl,rfl⟩
  | false =>
   have h1:=patom_y (G:=G) x rfl (hd x (by simp)) hxb
   have z1:endP (x::l) w=endT (x::l) w:=by
    unfold endP
    dsimp only
    rw [if_neg (by rw [hxb];simp)]
   have b1:=isB_yes hxb w
   have b2:=isB_yes hxb (w++[101])
   have ht:=want_t (G:=G)
   have hf:=want_f (G:=G)
   rw [z1]
   clear z1
   by_cases hw1:(isB x w||isB x (w++[101]))=true
   ·match l,hl,hd with
    | [],_,_ =>
     have he:endT [x] w=none:=by rw [endT,if_pos hw1]
     rw [he,endsO]
     rw [b1,b2] at hw1
     have d2:decide ((([x]:List Tree).length:Int)>1)=false:=rfl
     clear he b1 b2
     generalize [x]=L at *
     cases q1:x.data==w<;>cases q2:x.data==w++[101]
     case false.false=>rw [q1,q2] at hw1;cases hw1
     all_goals
      refine spec_of Tryz.func182 rfl rfl rfl (by kernel_rfl) rfl fun K=>?_
      (repeat' (first|with_reducible (first|refine zA fun Kn hK=>?_|refine zU ?_|refine Nx.go ?_|go_step)|refine ⟨_,h1,?_⟩|refine ⟨_,hf,?_⟩|with_reducible (first|refine zI ?_|refine zV ?_)|simp (maxSteps:=9^9) (disch:=omega) only [wq]|with_reducible refine zM (fun hb=>?_) (fun hb=>?_)<;>try simp only [hb]|with_reducible refine And.intro (by first|omega|(simp;done)|(simp;omega)) ?_|simp (maxSteps:=9^9) -implicitDefEqProofs only [go_sem,n0,n1,n1',d2,f0,q1,q2,cat_e,bD,bytesD]))
      all_goals exact ⟨_,rfl,rfl⟩
    | y :: l,hl,hd =>
     have hy:(x::y::l)[1]?=some y:=rfl
     have f1:=flat_at (f:=treeC) treeC_len hy
     simp only [Nat.one_mul] at f1
     have d2:decide ((((x::y::l):List Tree).length:Int)>1)=true:=by rw [decide_eq_true_iff,List.length_cons,List.length_cons];omega
     have m1:(1:Int)<((x::y::l).length:Int):=by rw [List.length_cons,List.length_cons];omega
     have m1':1<(x::y::l).length:=by rw [List.length_cons,List.length_cons];omega
     have m2:2≤(x::y::l).length:=by rw [List.length_cons,List.length_cons];omega
     have dr:=flat_drop (f:=treeC) treeC_len (x::y::l) 2
     have dl:(x::y::l).length-2=l.length:=by simp
     have dl2:(((x::y::l).length:Int)-2)=(l.length:Int):=by rw [List.length_cons,List.length_cons];omega
     have hdr:(x::y::l).drop 2=l:=rfl
     rw [hdr] at dr
     simp only [Nat.reduceMul] at dr
     cases hyb:y.list||y.hinted with
     | true =>
      have h2:=patom_n (G:=G) y rfl hyb
      have he:endT (x::y::l) w=none:=by
       rw [endT,if_pos hw1]
       rw [if_pos hyb]
      rw [he,endsO]
      rw [b1,b2] at hw1
      clear he b1 b2 hdr
      generalize x::y::l=L at *
      cases q1:x.data==w<;>cases q2:x.data==w++[101]
      case false.false=>rw [q1,q2] at hw1;cases hw1
      all_goals
       refine spec_of Tryz.func182 rfl rfl rfl (by kernel_rfl) rfl fun K=>?_
       (repeat' (first|with_reducible (first|refine zA fun Kn hK=>?_|refine zU ?_|refine Nx.go ?_|refine zO (by decide +kernel) ?_|refine zP ?_|go_step)|refine ⟨_,h1,?_⟩|refine ⟨_,ht,?_⟩|refine ⟨_,h2,?_⟩|with_reducible (first|refine zI ?_|refine zV ?_|exact (show logOk _ _=true by kernel_rfl))|simp (maxSteps:=9^9) (disch:=omega) only [wq]|with_reducible refine zM (fun hb=>?_) (fun hb=>?_)<;>try simp only [hb]|with_reducible refine And.intro (by first|omega|(simp;done)|(simp;omega)) ?_|simp (maxSteps:=9^9) -implicitDefEqProofs only [go_sem,n0,n1,n1',d2,f0,f1,m1,m1',m2,dr,dl,dl2,q1,q2,cat_e,bD,bytesD]))
       all_goals (first|exact ⟨_,rfl,rfl⟩|skip)
     | false =>
      have h2:=patom_y (G:=G) y rfl (hd y (by simp)) hyb
      have he:endT (x::y::l) w=some (⟨true,isB x w,y.data⟩,l):=by
       rw [endT,if_pos hw1]
       rw [if_neg (by rw [hyb];simp)]
      rw [he,endsO,b1]
      rw [b1,b2] at hw1
      clear he b1 b2 hdr
      generalize x::y::l=L at *
      unfold bdD
      cases q1:x.data==w<;>cases q2:x.data==w++[101]
      case false.false=>rw [q1,q2] at hw1;cases hw1
      all_goals
       refine spec_of Tryz.func182 rfl rfl rfl (by kernel_rfl) rfl fun K=>?_
       (repeat' (first|with_reducible (first|refine zA fun Kn hK=>?_|refine zU ?_|refine Nx.go ?_|refine zO (by decide +kernel) ?_|refine zP ?_|go_step)|refine ⟨_,h1,?_⟩|refine ⟨_,ht,?_⟩|refine ⟨_,h2,?_⟩|with_reducible (first|refine zI ?_|refine zV ?_|exact (show logOk _ _=true by kernel_rfl))|simp (maxSteps:=9^9) (disch:=omega) only [wq]|with_reducible refine zM (fun hb=>?_) (fun hb=>?_)<;>try simp only [hb]|with_reducible refine And.intro (by first|omega|(simp;done)|(simp;omega)) ?_|simp (maxSteps:=9^9) -implicitDefEqProofs only [go_sem,n0,n1,n1',d2,f0,f1,m1,m1',m2,dr,dl,dl2,q1,q2,cat_e,bD,bytesD]))
       all_goals try rfl
   ·have he:endT (x::l) w=some (Bd.none,x::l):=by unfold endT;dsimp only;rw [if_neg hw1]
    rw [he,endsO]
    simp only [Bool.or_eq_true,not_or,Bool.not_eq_true] at hw1
    rw [b1,b2] at hw1
    obtain ⟨q1,q2⟩:=hw1
    clear he b1 b2
    generalize x::l=L at *
    unfold bdD Bd.none
    refine spec_of Tryz.func182 rfl rfl rfl (by kernel_rfl) rfl fun K=>?_
    (repeat' (first|with_reducible (first|refine zA fun Kn hK=>?_|refine zU ?_|refine Nx.go ?_|go_step)|refine ⟨_,h1,?_⟩|with_reducible (first|refine zI ?_|refine zV ?_)|simp (maxSteps:=9^9) (disch:=omega) only [wq]|with_reducible refine zM (fun hb=>?_) (fun hb=>?_)<;>try simp only [hb]|with_reducible refine And.intro (by first|omega|(simp;done)|(simp;omega)) ?_|simp (maxSteps:=9^9) -implicitDefEqProofs only [go_sem,n0,n1,n1',f0,q1,q2,cat_e,bD,bytesD]))
    all_goals rfl
end
def preS {α:Type}:List (Option α)→List α
 | some x::l=>x::preS l
 | _=>[]
theorem preS_len {α β:Type} {f:α→Option β}: ∀ {l:List α},(preS (l.map f)).length≤l.length
 | []=>by simp [preS]
 | x::l=>by
  have:=preS_len (f:=f) (l:=l)
  cases h:f x<;>simp [preS,h]<;>omega
theorem preS_step {α β:Type} {f:α→Option β} {y:β}: ∀ {l:List α} {k:Nat} {x:α},k≤(preS (l.map f)).length→l[k]?=some x→f x=some y→(preS (l.map f))[k]?=some y
 | [],k,x,_,h,_=>by simp at h
 | a::l,0,x,hk,h,hf=>by
  have h:a=x:=by simpa using h
  subst h
  simp [preS,hf]
 | a :: l,k+1,x,hk,h,hf=>by
  have h:l[k]?=some x:=by simpa using h
  cases ha:f a with
  | none=>simp [preS,ha] at hk
  | some b =>
   simp only [List.map_cons,ha,preS,List.length_cons] at hk ⊢
   rw [List.getElem?_cons_succ]
   exact preS_step (by omega) h hf
theorem preS_stop {α β:Type} {f:α→Option β}: ∀ {l:List α} {k:Nat} {x:α},k≤(preS (l.map f)).length→l[k]?=some x→f x=none→(preS (l.map f)).length=k∧allSome (l.map f)=none
 | [],k,x,_,h,_=>by simp at h
 | a::l,0,x,hk,h,hf=>by
  have h:a=x:=by simpa using h
  subst h
  simp [preS,hf,allSome]
 | a :: l,k+1,x,hk,h,hf=>by
  have h:l[k]?=some x:=by simpa using h
  cases ha:f a with
  | none=>simp [preS,ha] at hk
  | some b =>
   simp only [List.map_cons,ha,preS,List.length_cons] at hk ⊢
   obtain ⟨h1,h2⟩:=preS_stop (l:=l) (k:=k) (by omega) h hf
   exact ⟨by omega,by rw [allSome,h2];rfl⟩
theorem preS_all {α β:Type} {f:α→Option β}: ∀ {l:List α},l.length≤(preS (l.map f)).length→allSome (l.map f)=some (preS (l.map f))
 | [],_=>rfl
 | a :: l,hk=>by
  cases ha:f a with
  | none=>simp [preS,ha] at hk
  | some b =>
   simp only [List.map_cons,ha,preS,List.length_cons] at hk ⊢
   rw [allSome,preS_all (by omega)]
   rfl
def zTg:Tg:= .mk 0 [] [] 0 Bd.none Bd.none
theorem tagC_mk (k:UInt8) (d:List UInt8) (l:List Tg) (o:UInt8) (lo hi:Bd):tagC (.mk k d l o lo hi)=[bD k,bytesD d,.sl l.length (l.flatMap tagC),bD o,.v (.bool lo.is),.v (.bool lo.opn),bytesD lo.txt,.v (.bool hi.is),.v (.bool hi.opn),bytesD hi.txt]:=tagC_eq _
section
variable {G:Nat→Option (List D)}
end
def strD (w:List UInt8):D:= .v (.string ⟨w.toArray⟩)
theorem str_at {ws:List (List UInt8)} {k:Nat} {w:List UInt8} (h:ws[k]?=some w):(ws.map strD)[k]?=some (strD w):=by
 rw [List.getElem?_map,h]
 rfl
theorem findW_no {x:Tree} (h:(x.list||x.hinted)=true): ∀ (ws:List (List UInt8)) (k:Nat),findW x ws k=none
 | [],_=>rfl
 | w::ws,k=>by rw [findW,isB_no h,findW_no h ws];rfl
theorem findW_yes {x:Tree} (h:(x.list||x.hinted)=false): ∀ (ws:List (List UInt8)) (k:Nat),findW x ws k=if ws.any (fun w=>x.data==w)=true then some (k+ws.findIdx (fun w=>x.data==w)) else none
 | [],_=>rfl
 | w :: ws,k=>by
  rw [findW,isB_yes h,findW_yes h ws,List.any_cons,List.findIdx_cons]
  cases hq:x.data==w with
  | true=>simp
  | false =>
   simp only [Bool.false_or,Bool.false_eq_true,if_false,cond_false]
   split
   ·congr 1
    omega
   ·rfl
theorem endT_sub {l m:List Tree} {w:List UInt8} {b:Bd} (h:endT l w=some (b,m)):(b.txt=[]∨ ∃ y∈l,b.txt=y.data)∧(∀ x∈m,x∈l)∧m.length≤l.length:=by
 cases l with
 | nil =>
  simp [endT] at h
  obtain ⟨rfl,rfl⟩:=h
  exact ⟨.inl rfl,fun x hx=>hx,Nat.le_refl _⟩
 | cons x l =>
  simp only [endT] at h
  split at h
  ·cases l with
   | nil=>cases h
   | cons y l =>
    dsimp only at h
    split at h
    ·cases h
    ·simp only [Option.some.injEq,Prod.mk.injEq] at h
     obtain ⟨rfl,rfl⟩:=h
     exact ⟨.inr ⟨y,by simp,rfl⟩,fun z hz=>by simp [hz],by simp;omega⟩
  ·simp only [Option.some.injEq,Prod.mk.injEq] at h
   obtain ⟨rfl,rfl⟩:=h
   exact ⟨.inl rfl,fun x hx=>hx,Nat.le_refl _⟩
def outT (o:Option Tg):DR:=match o with
 | some t=> .one (.g (tagC t))
 | none=> .pan vNone
def outL (o:Option (List Tg)):DR:=match o with
 | some m=> .one (.c (.sl m.length (m.flatMap tagC)))
 | none=> .pan vNone
section
variable {G:Nat→Option (List D)}
theorem indexS_m (ws:List (List UInt8)) (s:List UInt8) (hl:ws.length≤100000000):Spec Tryz.prog G 181 [.c (.sl ws.length (ws.map strD)),.c (.v (.string ⟨s.toArray⟩))] (.one (.c (.v (.int .i64 (hitI (fun w=>s==w) ws))))):=by
 refine spec_of Tryz.func181 rfl rfl rfl (by kernel_rfl) rfl fun K=>?_
 (repeat' (first|with_reducible (first|refine zA fun Kn hK=>?_|refine zU ?_|refine Nx.go ?_|go_step)|with_reducible (first|refine zI ?_|refine zV ?_)|simp (maxSteps:=9^9) (disch:=omega) only [wq]|with_reducible refine zM (fun hb=>?_) (fun hb=>?_)<;>try simp only [hb]|with_reducible refine And.intro (by first|omega|(simp;done)|(simp;omega)) ?_|simp (maxSteps:=9^9) -implicitDefEqProofs only [go_sem,true_and]))
 refine sound_loopR (fun x:{k:Nat // k≤ws.length∧ ∀ y∈ws.take k,(s==y)=false}=>⟨[(0,vD (.sl ws.length (ws.map strD))),(1,vD (.v (.string ⟨s.toArray⟩))),(7,vI ws.length),(8,vI x.1)],[]⟩) (fun x=>ws.length-x.1) ⟨0,by simp⟩ [] (by (iterate 2 ((try simp (maxSteps:=9^9) -implicitDefEqProofs only [go_sem,true_and]);(try simp (maxSteps:=9^9) (disch:=omega) only [wq])));try simp) (fun ⟨k,hk,hall⟩=>?_)
 by_cases hlt:k<ws.length
 ·obtain ⟨x,hx⟩: ∃ x,ws[k]?=some x:=⟨_,List.getElem?_eq_getElem hlt⟩
  have hb:decide ((k:Int)<(ws.length:Int))=true:=by simpa using hlt
  have hs:=str_at hx
  cases hq:s==x with
  | true =>
   (repeat' (first|with_reducible (first|refine zA fun Kn hK=>?_|refine zU ?_|refine Nx.go ?_|go_step)|with_reducible (first|refine zI ?_|refine zV ?_)|simp (maxSteps:=9^9) (disch:=omega) only [wq]|with_reducible refine zM (fun hb=>?_) (fun hb=>?_)<;>try simp only [hb]|with_reducible refine And.intro (by first|omega|(simp;done)|(simp;omega)) ?_|simp (maxSteps:=9^9) -implicitDefEqProofs only [go_sem,hb,hs,strD,hq,List.length_map]))
   rw [hit_at hx hq hall]
  | false =>
   (repeat' (first|with_reducible (first|refine zA fun Kn hK=>?_|refine zU ?_|refine Nx.go ?_|go_step)|with_reducible (first|refine zI ?_|refine zV ?_)|simp (maxSteps:=9^9) (disch:=omega) only [wq]|with_reducible refine zM (fun hb=>?_) (fun hb=>?_)<;>try simp only [hb]|with_reducible refine And.intro (by first|omega|(simp;done)|(simp;omega)) ?_|simp (maxSteps:=9^9) -implicitDefEqProofs only [go_sem,hb,hs,strD,hq,List.length_map]))
   refine ⟨[],⟨k+1,hlt,take_more hx hq hall⟩,?_⟩
   (iterate 2 ((try simp (maxSteps:=9^9) -implicitDefEqProofs only [go_sem,true_and]);(try simp (maxSteps:=9^9) (disch:=omega) only [wq])))
   (simp only [ijq,true_and,and_true];first|done|omega|(split<;>omega)|(simp;done)|(simp;omega))
 ·have hb:decide ((k:Int)<(ws.length:Int))=false:=by simpa using hlt
  obtain rfl:k=ws.length:=by omega
  rw [List.take_length] at hall
  (repeat' (first|with_reducible (first|refine zA fun Kn hK=>?_|refine zU ?_|refine Nx.go ?_|go_step)|with_reducible (first|refine zI ?_|refine zV ?_)|simp (maxSteps:=9^9) (disch:=omega) only [wq]|with_reducible refine zM (fun hb=>?_) (fun hb=>?_)<;>try simp only [hb]|with_reducible refine And.intro (by first|omega|(simp;done)|(simp;omega)) ?_|simp (maxSteps:=9^9) -implicitDefEqProofs only [go_sem,hb]))
  rw [hit_no hall]
theorem ranged_m (l:List Tree) (hl:l.length≤100000000) (hd: ∀ x∈l,x.data.length≤1000000000):Spec Tryz.prog G 168 [.c (.sl l.length (l.flatMap treeC))] (outT (rangeT isV l)):=by
 have ht:=want_t (G:=G)
 have hf:=want_f (G:=G)
 have hnames:=names_m (G:=G)
 match l,hl,hd with
 | [],_,_ =>
  rw [show rangeT isV []=none from rfl,outT]
  have d:decide (((([]:List Tree).length:Nat):Int)>0)=false:=rfl
  generalize ([]:List Tree)=L at *
  refine spec_of Tryz.func168 rfl rfl rfl (by kernel_rfl) rfl fun K=>?_
  (repeat' (first|with_reducible (first|refine zA fun Kn hK=>?_|refine zU ?_|refine Nx.go ?_|go_step)|refine ⟨_,hf,?_⟩|with_reducible (first|refine zI ?_|refine zV ?_)|simp (maxSteps:=9^9) (disch:=omega) only [wq]|with_reducible refine zM (fun hb=>?_) (fun hb=>?_)<;>try simp only [hb]|with_reducible refine And.intro (by first|omega|(simp;done)|(simp;omega)) ?_|simp (maxSteps:=9^9) -implicitDefEqProofs only [go_sem,d,bD,bytesD]))
  exact ⟨_,rfl,rfl⟩
 | x :: l, hl, hd =>
  rw [rangeT_eq]
  have hx:(x::l)[0]?=some x:=rfl
  have f0:=flat_at (f:=treeC) treeC_len hx
  simp only [Nat.zero_mul,List.drop_zero] at f0
  have n0:decide (((x::l).length:Int)>0)=true:=by rw [decide_eq_true_iff,List.length_cons];omega
  have n1:(0:Int)<((x::l).length:Int):=by rw [List.length_cons];omega
  have n1':0<(x::l).length:=by rw [List.length_cons];omega
  have n2:1≤(x::l).length:=by rw [List.length_cons];omega
  have dr:=flat_drop (f:=treeC) treeC_len (x::l) 1
  have dl:(x::l).length-1=l.length:=by simp
  have dl2:(((x::l).length:Int)-1)=(l.length:Int):=by rw [List.length_cons];omega
  have hdr:(x::l).drop 1=l:=rfl
  rw [hdr] at dr
  simp only [Nat.one_mul] at dr
  have ho:ordA=strD []::ordW.map strD:=rfl
  have hd1:=hd x (by simp)
  have hd2: ∀ y∈l,y.data.length≤1000000000:=fun y hy=>hd y (by simp [hy])
  have hl2:l.length≤100000000:=by rw [List.length_cons] at hl;omega
  clear hd hdr hx
  generalize x::l=L at *
  cases hxb:x.list||x.hinted with
  | true =>
   have h1:=patom_n (G:=G) x rfl hxb
   rw [findW_no hxb,outT]
   unfold ordA at hnames
   refine spec_of Tryz.func168 rfl rfl rfl (by kernel_rfl) rfl fun K=>?_
   (repeat' (first|with_reducible (first|refine zA fun Kn hK=>?_|refine zU ?_|refine Nx.go ?_|refine zO (by decide +kernel) ?_|refine zP ?_|go_step)|refine ⟨_,ht,?_⟩|refine ⟨_,hnames,?_⟩|refine ⟨_,h1,?_⟩|with_reducible (first|refine zI ?_|refine zV ?_|exact (show logOk _ _=true by kernel_rfl))|simp (maxSteps:=9^9) (disch:=omega) only [wq]|with_reducible refine zM (fun hb=>?_) (fun hb=>?_)<;>try simp only [hb]|with_reducible refine And.intro (by first|omega|(simp;done)|(simp;omega)) ?_|simp (maxSteps:=9^9) -implicitDefEqProofs only [go_sem,n0,n1,n1',f0,ordA,bD,bytesD]))
  | false =>
   have h1:=patom_y (G:=G) x rfl hd1 hxb
   have hi:=indexS_m (G:=G) ordW x.data (by decide)
   rw [findW_yes hxb]
   cases hany:ordW.any (fun w=>x.data==w) with
   | false =>
    rw [if_neg (by simp)]
    dsimp only
    rw [outT]
    unfold hitI at hi
    rw [hany,if_neg (by simp)] at hi
    unfold ordA at hnames
    refine spec_of Tryz.func168 rfl rfl rfl (by kernel_rfl) rfl fun K=>?_
    (repeat' (first|with_reducible (first|refine zA fun Kn hK=>?_|refine zU ?_|refine Nx.go ?_|refine zO (by decide +kernel) ?_|refine zP ?_|go_step)|refine ⟨none,?_⟩|refine ⟨_,ht,?_⟩|refine ⟨_,hnames,?_⟩|refine ⟨_,h1,?_⟩|refine ⟨_,hi,?_⟩|refine ⟨_,hf,?_⟩|with_reducible (first|refine zI ?_|refine zV ?_|exact (show logOk _ _=true by kernel_rfl))|simp (maxSteps:=9^9) (disch:=omega) only [wq]|with_reducible refine zM (fun hb=>?_) (fun hb=>?_)<;>try simp only [hb]|with_reducible refine And.intro (by first|omega|(simp;done)|(simp;omega)) ?_|simp (maxSteps:=9^9) -implicitDefEqProofs only [go_sem,n0,n1,n1',f0,ordA,bD,bytesD]))
    all_goals first|exact ⟨_,rfl,rfl⟩|trace_state
   | true =>
    rw [if_pos rfl]
    dsimp only
    unfold hitI at hi
    rw [hany,if_pos rfl] at hi
    have hj:ordW.findIdx (fun w=>x.data==w)<5:=List.findIdx_lt_length_of_exists (by simpa using hany)
    generalize ordW.findIdx (fun w=>x.data==w)=j at *
    have hO:((UInt8.ofNat (1+j)).toNat:Int)=(j:Int)+1:=by
     rw [UInt8.toNat_ofNat_of_lt' (by simp only [UInt8.size];omega)]
     omega
    generalize UInt8.ofNat (1+j)=o at *
    have hj0:decide ((j:Int)≥0)=true:=by simp
    have e1:=ends_m (G:=G) l wG (by decide) hl2 hd2
    unfold ends2
    cases hE1:endP l wG with
    | none =>
     rw [hE1,endsO] at e1
     dsimp only
     rw [outT]
     unfold ordA at hnames
     unfold wG at e1
     refine spec_of Tryz.func168 rfl rfl rfl (by kernel_rfl) rfl fun K=>?_
     (repeat' (first|with_reducible (first|refine zA fun Kn hK=>?_|refine zU ?_|refine Nx.go ?_|refine zO (by decide +kernel) ?_|refine zP ?_|go_step)|refine ⟨none,?_⟩|refine ⟨_,ht,?_⟩|refine ⟨_,hnames,?_⟩|refine ⟨_,h1,?_⟩|refine ⟨_,hi,?_⟩|refine ⟨_,e1,?_⟩|with_reducible (first|refine zI ?_|refine zV ?_|exact (show logOk _ _=true by kernel_rfl))|simp (maxSteps:=9^9) (disch:=omega) only [wq]|with_reducible refine zM (fun hb=>?_) (fun hb=>?_)<;>try simp only [hb]|with_reducible refine And.intro (by first|omega|(simp;done)|(simp;omega)) ?_|simp (maxSteps:=9^9) -implicitDefEqProofs only [go_sem,n0,n1,n1',n2,dr,dl,dl2,f0,hj0,ordA,bD,bytesD]))
     all_goals first|exact ⟨_,rfl,rfl⟩|trace_state
    | some p =>
     obtain ⟨lo,l1⟩:=p
     rw [hE1,endsO] at e1
     obtain ⟨t1,t2,t3⟩:=endT_sub (endP_eq hE1)
     have e2:=ends_m (G:=G) l1 wL (by decide) (by omega) (fun y hy=>hd2 y (t2 y hy))
     dsimp only
     unfold wG at e1
     unfold wL at e2
     unfold bdD at e1
     unfold ordA at hnames
     cases hE2:endP l1 wL with
     | none =>
      unfold wL at hE2
      rw [hE2,endsO] at e2
      dsimp only
      rw [outT]
      refine spec_of Tryz.func168 rfl rfl rfl (by kernel_rfl) rfl fun K=>?_
      (repeat' (first|with_reducible (first|refine zA fun Kn hK=>?_|refine zU ?_|refine Nx.go ?_|refine zO (by decide +kernel) ?_|refine zP ?_|go_step)|refine ⟨none,?_⟩|refine ⟨_,ht,?_⟩|refine ⟨_,hnames,?_⟩|refine ⟨_,h1,?_⟩|refine ⟨_,hi,?_⟩|refine ⟨_,e1,?_⟩|refine ⟨_,e2,?_⟩|with_reducible (first|refine zI ?_|refine zV ?_|exact (show logOk _ _=true by kernel_rfl))|simp (maxSteps:=9^9) (disch:=omega) only [wq]|with_reducible refine zM (fun hb=>?_) (fun hb=>?_)<;>try simp only [hb]|with_reducible refine And.intro (by first|omega|(simp;done)|(simp;omega)) ?_|simp (maxSteps:=9^9) -implicitDefEqProofs only [go_sem,n0,n1,n1',n2,dr,dl,dl2,f0,hj0,ordA,bD,bytesD]))
      all_goals first|exact ⟨_,rfl,rfl⟩|trace_state
     | some p =>
      obtain ⟨hi2,l2⟩:=p
      obtain ⟨u1,u2,u3⟩:=endT_sub (endP_eq hE2)
      unfold wL at hE2
      rw [hE2,endsO] at e2
      unfold bdD at e2
      have txt: ∀ (b:Bd) (k:List Tree),(∀ y∈k,y.data.length≤1000000000)→(b.txt=[]∨ ∃ y∈k,b.txt=y.data)→b.txt.length≤1000000000:=fun b k hk h=>by
       rcases h with h|⟨y,hy,h⟩<;>rw [h]
       ·simp
       ·exact hk y hy
      have hm:=may11_m (G:=G) o lo hi2 (txt lo l hd2 t1) (txt hi2 l1 (fun y hy=>hd2 y (t2 y hy)) u1)
      clear txt t1 t2 t3 u1 u2 u3 hE1 hE2
      have e0:=len0_empty l2
      unfold bdD bD at hm
      rw [hO] at hm
      dsimp only
      cases hz:emptyL l2 with
      | false =>
       rw [hz] at e0
       rw [if_neg (by simp)]
       dsimp only
       rw [outT]
       refine spec_of Tryz.func168 rfl rfl rfl (by kernel_rfl) rfl fun K=>?_
       (repeat' (first|with_reducible (first|refine zA fun Kn hK=>?_|refine zU ?_|refine Nx.go ?_|refine zO (by decide +kernel) ?_|refine zP ?_|go_step)|refine ⟨none,?_⟩|refine ⟨_,ht,?_⟩|refine ⟨_,hnames,?_⟩|refine ⟨_,h1,?_⟩|refine ⟨_,hi,?_⟩|refine ⟨_,e1,?_⟩|refine ⟨_,e2,?_⟩|refine ⟨_,hf,?_⟩|with_reducible (first|refine zI ?_|refine zV ?_|exact (show logOk _ _=true by kernel_rfl))|simp (maxSteps:=9^9) (disch:=omega) only [wq]|with_reducible refine zM (fun hb=>?_) (fun hb=>?_)<;>try simp only [hb]|with_reducible refine And.intro (by first|omega|(simp;done)|(simp;omega)) ?_|simp (maxSteps:=9^9) -implicitDefEqProofs only [go_sem,n0,n1,n1',n2,dr,dl,dl2,f0,hj0,ordA,bD,bytesD,e0]))
       all_goals first|exact ⟨_,rfl,rfl⟩|trace_state
      | true =>
       rw [hz] at e0
       rw [if_pos rfl]
       dsimp only
       cases hq:mayR isV o lo hi2 with
       | false =>
        rw [hq] at hm
        rw [if_neg (by simp),outT]
        refine spec_of Tryz.func168 rfl rfl rfl (by kernel_rfl) rfl fun K=>?_
        (repeat' (first|with_reducible (first|refine zA fun Kn hK=>?_|refine zU ?_|refine Nx.go ?_|refine zO (by decide +kernel) ?_|refine zP ?_|go_step)|refine ⟨none,?_⟩|refine ⟨_,ht,?_⟩|refine ⟨_,hnames,?_⟩|refine ⟨_,h1,?_⟩|refine ⟨_,hi,?_⟩|refine ⟨_,e1,?_⟩|refine ⟨_,e2,?_⟩|refine ⟨_,hm,?_⟩|refine ⟨_,hf,?_⟩|with_reducible (first|refine zI ?_|refine zV ?_|exact (show logOk _ _=true by kernel_rfl))|simp (maxSteps:=9^9) (disch:=omega) only [wq]|with_reducible refine zM (fun hb=>?_) (fun hb=>?_)<;>try simp only [hb]|with_reducible refine And.intro (by first|omega|(simp;done)|(simp;omega)) ?_|simp (maxSteps:=9^9) -implicitDefEqProofs only [go_sem,n0,n1,n1',n2,dr,dl,dl2,f0,hj0,ordA,bD,bytesD,e0]))
        all_goals first|exact ⟨_,rfl,rfl⟩|trace_state
       | true =>
        rw [hq] at hm
        rw [if_pos rfl,outT,tagC_mk]
        unfold bD
        rw [hO]
        refine spec_of Tryz.func168 rfl rfl rfl (by kernel_rfl) rfl fun K=>?_
        (repeat' (first|with_reducible (first|refine zA fun Kn hK=>?_|refine zU ?_|refine Nx.go ?_|refine zO (by decide +kernel) ?_|refine zP ?_|go_step)|refine ⟨none,?_⟩|refine ⟨_,ht,?_⟩|refine ⟨_,hnames,?_⟩|refine ⟨_,h1,?_⟩|refine ⟨_,hi,?_⟩|refine ⟨_,e1,?_⟩|refine ⟨_,e2,?_⟩|refine ⟨_,hm,?_⟩|refine ⟨_,hf,?_⟩|with_reducible (first|refine zI ?_|refine zV ?_|exact (show logOk _ _=true by kernel_rfl))|simp (maxSteps:=9^9) (disch:=omega) only [wq]|with_reducible refine zM (fun hb=>?_) (fun hb=>?_)<;>try simp only [hb]|with_reducible refine And.intro (by first|omega|(simp;done)|(simp;omega)) ?_|simp (maxSteps:=9^9) -implicitDefEqProofs only [go_sem,n0,n1,n1',n2,dr,dl,dl2,f0,hj0,ordA,bD,bytesD,e0]))
        all_goals first|rfl|trace_state
end
end Go.Proofs.YtfammdfpgccnfaaGreatDoor
