/- Parts of the proof, laid together. -/
import Derived.Test.YtfammdfpgccnfaaGreatDoorG6
import Derived.Defers
import Derived.Recover
import Derived.Laws.Pointers
import Derived.Deep.RegionWith
import Derived.BigQuiet
set_option linter.unusedVariables false
set_option linter.unusedSimpArgs false
set_option maxRecDepth 100000
set_option maxHeartbeats 8000000
namespace Go.Proofs.YtfammdfpgccnfaaGreatDoor
open Go.RowKit
theorem same_isB {x:Tree} (hx:x.clean=true) (s:List UInt8):x.same (atomT s)=isB x s:=by
 rw [Bool.eq_iff_iff,isB_iff (clean_fair hx)]
 exact ⟨fun h=>same_of h,fun h=>same_t h⟩
section
variable {G:Nat→Option (List D)}
theorem ptags_w (f:Tree→Option Tg) (l:List Tree) (hl:l.length≤100000000) (ih: ∀ x∈l,Spec Tryz.prog G 124 [.g (treeC x)] (outT (f x))) :
  Spec Tryz.prog G 146 [.c (.sl l.length (l.flatMap treeC))] (outL (allSome (l.map f))):=by
 have hP:=preS_len (f:=f) (l:=l)
 have s1: ∀ {k x y},k≤(preS (l.map f)).length→l[k]?=some x→f x=some y→(preS (l.map f))[k]?=some y:=preS_step
 have s2: ∀ {k x},k≤(preS (l.map f)).length→l[k]?=some x→f x=none→(preS (l.map f)).length=k∧allSome (l.map f)=none:=preS_stop
 have s3:=preS_all (f:=f) (l:=l)
 generalize allSome (l.map f)=A at *
 generalize preS (l.map f)=P at *
 refine spec_of Tryz.func146 rfl rfl rfl (by kernel_rfl) (by cases A<;>rfl) fun K=>?_
 (repeat' (first|with_reducible (first|refine zA fun Kn hK=>?_|refine zU ?_|refine Nx.go ?_|go_step)|with_reducible (first|refine zI ?_|refine zV ?_)|simp (maxSteps:=9^9) (disch:=omega) only [wq]|with_reducible refine zM (fun hb=>?_) (fun hb=>?_)<;>try simp only [hb]|with_reducible refine And.intro (by first|omega|(simp;done)|(simp;omega)) ?_|simp (maxSteps:=9^9) -implicitDefEqProofs only [go_sem,true_and]))
 refine sound_void 3 1000 10 35 (by rfl) (by rfl) ?_
 refine sound_loopR (fun x:{k:Nat // k≤l.length∧k≤P.length}=>⟨[(3,vR 1000 10 x.1),(6,vD (.sl l.length (l.flatMap treeC))),(7,vI l.length),(8,vI x.1)],[(1000,some ⟨35,((P.take x.1).flatMap tagC).map C.d,false,false⟩)]⟩) (fun x=>l.length-x.1) ⟨0,by omega⟩ [] (by (iterate 2 ((try simp (maxSteps:=9^9) -implicitDefEqProofs only [go_sem,AObj.trim,List.take_zero,List.flatMap_nil,List.map_nil]);(try simp (maxSteps:=9^9) (disch:=omega) only [wq])));try simp) (fun ⟨k,hk,hkP⟩=>?_)
 by_cases hlt:k<l.length
 ·obtain ⟨x,hx⟩: ∃ x,l[k]?=some x:=⟨_,List.getElem?_eq_getElem hlt⟩
  have hb:decide ((k:Int)<(l.length:Int))=true:=by simpa using hlt
  have hsp:=ih x (List.mem_of_getElem? hx)
  have hlen:((P.take k).flatMap tagC).length=k*10:=by rw [tagC_flen,List.length_take,Nat.min_eq_left hkP]
  cases hf:f x with
  | none =>
   obtain ⟨e1,e2⟩:=s2 hkP hx hf
   rw [hf,outT] at hsp
   (repeat' (first|with_reducible (first|refine zA fun Kn hK=>?_|refine zU ?_|refine Nx.go ?_|go_step)|refine ⟨_,hsp,?_⟩|with_reducible (first|refine zI ?_|refine zV ?_)|simp (maxSteps:=9^9) (disch:=omega) only [wq]|with_reducible refine zM (fun hb=>?_) (fun hb=>?_)<;>try simp only [hb]|with_reducible refine And.intro (by first|omega|(simp;done)|(simp;omega)) ?_|simp (maxSteps:=9^9) -implicitDefEqProofs only [go_sem,hb,hlen,List.length_map,true_and,flat_at treeC_len hx,bD,bytesD]))
   rw [e2]
   exact ⟨_,rfl,rfl⟩
  | some t =>
   have hPk:=s1 hkP hx hf
   rw [hf,outT] at hsp
   have htt:=tagC_eq t
   have ht:(P.take (k+1)).flatMap tagC=(P.take k).flatMap tagC++tagC t:=by
    rw [List.take_add_one,hPk,List.flatMap_append]
    simp
   rw [htt] at hsp ht
   generalize (P.take k).flatMap tagC=W at *
   (repeat' (first|with_reducible (first|refine zA fun Kn hK=>?_|refine zU ?_|refine Nx.go ?_|go_step)|refine ⟨_,hsp,?_⟩|with_reducible (first|refine zI ?_|refine zV ?_)|simp (maxSteps:=9^9) (disch:=omega) only [wq]|with_reducible refine zM (fun hb=>?_) (fun hb=>?_)<;>try simp only [hb]|with_reducible refine And.intro (by first|omega|(simp;done)|(simp;omega)) ?_|simp (maxSteps:=9^9) -implicitDefEqProofs only [go_sem,hb,rep1,hlen,List.length_map,true_and,Nat.le_refl,List.append_nil,flat_at treeC_len hx,bD,bytesD]))
   refine ⟨[(1000,16)],⟨k+1,hlt,len_pos hPk⟩,?_⟩
   rw [ht]
   (iterate 2 ((try simp (maxSteps:=9^9) -implicitDefEqProofs only [go_sem,bD]);(try simp (maxSteps:=9^9) (disch:=omega) only [wq])))
   (simp only [ijq,true_and,and_true];first|done|omega|(split<;>omega)|(simp;done)|(simp;omega))
 ·have hb:decide ((k:Int)<(l.length:Int))=false:=by simpa using hlt
  obtain rfl:k=l.length:=by omega
  have hPl:P.length=l.length:=by omega
  have hA:=s3 hkP
  have hT:P.take l.length=P:=by rw [← hPl,List.take_length]
  have hlen:(P.flatMap tagC).length=l.length*10:=by rw [tagC_flen,hPl]
  simp only [hT]
  (repeat' (first|with_reducible (first|refine zA fun Kn hK=>?_|refine zU ?_|refine Nx.go ?_|go_step)|with_reducible (first|refine zI ?_|refine zV ?_)|simp (maxSteps:=9^9) (disch:=omega) only [wq]|with_reducible refine zM (fun hb=>?_) (fun hb=>?_)<;>try simp only [hb]|with_reducible refine And.intro (by first|omega|(simp;done)|(simp;omega)) ?_|simp (maxSteps:=9^9) -implicitDefEqProofs only [go_sem,hb,hlen,List.length_map]))
  rw [hA,outL,hPl]
theorem starts_m (v:Tree) {cs:List D} (hcs:treeC v=cs) (hw:v.wt≤30000000) (hc:v.clean=true):Spec Tryz.prog G 144 [.g cs] (.one (.c (.v (.bool (headB v wStar))))):=by
 subst hcs
 have ha:=atom_m (G:=G) wStar (by decide)
 have hal:=treeC_eq (.mk false false [] wStar [])
 rw [treeC_eq]
 cases hl:v.list with
 | false =>
  have hh:headB v wStar=false:=by unfold headB;rw [hl];rfl
  rw [hh]
  refine spec_of Tryz.func144 rfl rfl rfl (by kernel_rfl) rfl fun K=>?_
  (repeat' (first|with_reducible (first|refine zA fun Kn hK=>?_|refine zU ?_|refine Nx.go ?_|go_step)|with_reducible (first|refine zI ?_|refine zV ?_)|simp (maxSteps:=9^9) (disch:=omega) only [wq]|with_reducible refine zM (fun hb=>?_) (fun hb=>?_)<;>try simp only [hb]|with_reducible refine And.intro (by first|omega|(simp;done)|(simp;omega)) ?_|simp (maxSteps:=9^9) -implicitDefEqProofs only [go_sem,Bool.false_and]))
 | true =>
  by_cases hk:v.kids=[]
  ·have hh:headB v wStar=false:=by unfold headB;rw [hl,hk];rfl
   have d:decide ((v.kids.length:Int)>0)=false:=by rw [hk];rfl
   rw [hh]
   refine spec_of Tryz.func144 rfl rfl rfl (by kernel_rfl) rfl fun K=>?_
   (repeat' (first|with_reducible (first|refine zA fun Kn hK=>?_|refine zU ?_|refine Nx.go ?_|go_step)|with_reducible (first|refine zI ?_|refine zV ?_)|simp (maxSteps:=9^9) (disch:=omega) only [wq]|with_reducible refine zM (fun hb=>?_) (fun hb=>?_)<;>try simp only [hb]|with_reducible refine And.intro (by first|omega|(simp;done)|(simp;omega)) ?_|simp (maxSteps:=9^9) -implicitDefEqProofs only [go_sem,d,Bool.false_and]))
  ·obtain ⟨x,l,hkc⟩:=List.exists_cons_of_ne_nil hk
   have hh:headB v wStar=isB x wStar:=by unfold headB;rw [hl,hkc];rfl
   have hxm:x∈v.kids:=by rw [hkc];simp
   have hs:=same_m (G:=G) x (atomT wStar) _ _ rfl rfl (by have:=Tree.wt_kid hxm;omega)
   rw [same_isB (kid_clean hc hxm)] at hs
   have d:decide ((v.kids.length:Int)>0)=true:=by rw [hkc,List.length_cons];simp
   have n1:(0:Int)<(v.kids.length:Int):=by rw [hkc,List.length_cons];omega
   have n1':0<v.kids.length:=by omega
   have hx:v.kids[0]?=some x:=by rw [hkc];rfl
   have f0:=flat_at (f:=treeC) treeC_len hx
   simp only [Nat.zero_mul,List.drop_zero] at f0
   rw [hh]
   unfold atomT at hs
   rw [hal] at ha hs
   unfold wStar at *
   clear hh hkc
   refine spec_of Tryz.func144 rfl rfl rfl (by kernel_rfl) rfl fun K=>?_
   (repeat' (first|with_reducible (first|refine zA fun Kn hK=>?_|refine zU ?_|refine Nx.go ?_|go_step)|refine ⟨_,ha,?_⟩|refine ⟨_,hs,?_⟩|with_reducible (first|refine zI ?_|refine zV ?_)|simp (maxSteps:=9^9) (disch:=omega) only [wq]|with_reducible refine zM (fun hb=>?_) (fun hb=>?_)<;>try simp only [hb]|with_reducible refine And.intro (by first|omega|(simp;done)|(simp;omega)) ?_|simp (maxSteps:=9^9) -implicitDefEqProofs only [go_sem,d,n1,n1',f0,decide_true,Bool.true_and]))
theorem starred_w (l:List Tree) (sub:Option (List Tg)) (hl:l.length≤100000000) (hd: ∀ x∈l,x.data.length≤1000000000)
  (hs:Spec Tryz.prog G 146 [.c (.sl (l.drop 1).length ((l.drop 1).flatMap treeC))] (outL sub)):Spec Tryz.prog G 145 [.c (.sl l.length (l.flatMap treeC))] (outT (starT isV l sub)):=by
 have ht:=want_t (G:=G)
 have hf:=want_f (G:=G)
 match l,hl,hd,hs with
 | [],_,_,_ =>
  rw [show starT isV [] sub=some (kTg 1 []) from rfl,outT,kTg,tagC_mk]
  have d:(((([]:List Tree).length:Nat):Int)==0)=true:=rfl
  generalize ([]:List Tree)=L at *
  refine spec_of Tryz.func145 rfl rfl rfl (by kernel_rfl) rfl fun K=>?_
  (repeat' (first|with_reducible (first|refine zA fun Kn hK=>?_|refine zU ?_|refine Nx.go ?_|go_step)|with_reducible (first|refine zI ?_|refine zV ?_)|simp (maxSteps:=9^9) (disch:=omega) only [wq]|with_reducible refine zM (fun hb=>?_) (fun hb=>?_)<;>try simp only [hb]|with_reducible refine And.intro (by first|omega|(simp;done)|(simp;omega)) ?_|simp (maxSteps:=9^9) -implicitDefEqProofs only [go_sem,d,bD,bytesD,Bd.none]))
  rfl
 | x :: l, hl,hd,hs =>
  have hx:(x::l)[0]?=some x:=rfl
  have f0:=flat_at (f:=treeC) treeC_len hx
  simp only [Nat.zero_mul,List.drop_zero] at f0
  have n0:(((x::l).length:Int)==0)=false:=by rw [beq_eq_false_iff_ne,List.length_cons];omega
  have n1:(0:Int)<((x::l).length:Int):=by rw [List.length_cons];omega
  have n1':0<(x::l).length:=by rw [List.length_cons];omega
  have n2:1≤(x::l).length:=by rw [List.length_cons];omega
  have dr:=flat_drop (f:=treeC) treeC_len (x::l) 1
  have dl:(x::l).length-1=l.length:=by simp
  have dl2:(((x::l).length:Int)-1)=(l.length:Int):=by rw [List.length_cons];omega
  have hdr:(x::l).drop 1=l:=rfl
  rw [hdr] at dr hs
  simp only [Nat.one_mul] at dr
  have hd2: ∀ y∈l,y.data.length≤1000000000:=fun y hy=>hd y (by simp [hy])
  have hl2:l.length≤100000000:=by rw [List.length_cons] at hl;omega
  have hr:=ranged_m (G:=G) l hl2 hd2
  have hst:starT isV (x::l) sub=if isB x wSet then sub.map (kTg 4) else if isB x wPrefix then prefT l else if isB x wRange then rangeT isV l else none:=rfl
  rw [hst]
  clear hst
  cases hxb:x.list||x.hinted with
  | true =>
   have h1:=patom_n (G:=G) x rfl hxb
   rw [isB_no hxb,isB_no hxb,isB_no hxb]
   simp only [Bool.false_eq_true,if_false,outT]
   generalize x::l=L at *
   refine spec_of Tryz.func145 rfl rfl rfl (by kernel_rfl) rfl fun K=>?_
   (repeat' (first|with_reducible (first|refine zA fun Kn hK=>?_|refine zU ?_|refine Nx.go ?_|go_step)|refine ⟨_,h1,?_⟩|with_reducible (first|refine zI ?_|refine zV ?_)|simp (maxSteps:=9^9) (disch:=omega) only [wq]|with_reducible refine zM (fun hb=>?_) (fun hb=>?_)<;>try simp only [hb]|with_reducible refine And.intro (by first|omega|(simp;done)|(simp;omega)) ?_|simp (maxSteps:=9^9) -implicitDefEqProofs only [go_sem,n0,n1,n1',f0,bD,bytesD]))
   exact ⟨_,rfl,rfl⟩
  | false =>
   have h1:=patom_y (G:=G) x rfl (hd x (by simp)) hxb
   rw [isB_yes hxb,isB_yes hxb,isB_yes hxb]
   cases q1:x.data==wSet with
   | true =>
    rw [if_pos rfl]
    unfold wSet at q1
    generalize x::l=L at *
    cases sub with
    | none =>
     rw [outL] at hs
     rw [show Option.map (kTg 4) none=none from rfl,outT]
     refine spec_of Tryz.func145 rfl rfl rfl (by kernel_rfl) rfl fun K=>?_
     (repeat' (first|with_reducible (first|refine zA fun Kn hK=>?_|refine zU ?_|refine Nx.go ?_|go_step)|refine ⟨_,h1,?_⟩|refine ⟨_,hs,?_⟩|with_reducible (first|refine zI ?_|refine zV ?_)|simp (maxSteps:=9^9) (disch:=omega) only [wq]|with_reducible refine zM (fun hb=>?_) (fun hb=>?_)<;>try simp only [hb]|with_reducible refine And.intro (by first|omega|(simp;done)|(simp;omega)) ?_|simp (maxSteps:=9^9) -implicitDefEqProofs only [go_sem,n0,n1,n1',n2,dr,dl,dl2,f0,q1,bD,bytesD]))
     exact ⟨_,rfl,rfl⟩
    | some k =>
     rw [outL] at hs
     rw [show Option.map (kTg 4) (some k)=some (kTg 4 k) from rfl,outT,kTg,tagC_mk]
     refine spec_of Tryz.func145 rfl rfl rfl (by kernel_rfl) rfl fun K=>?_
     (repeat' (first|with_reducible (first|refine zA fun Kn hK=>?_|refine zU ?_|refine Nx.go ?_|go_step)|refine ⟨_,h1,?_⟩|refine ⟨_,hs,?_⟩|with_reducible (first|refine zI ?_|refine zV ?_)|simp (maxSteps:=9^9) (disch:=omega) only [wq]|with_reducible refine zM (fun hb=>?_) (fun hb=>?_)<;>try simp only [hb]|with_reducible refine And.intro (by first|omega|(simp;done)|(simp;omega)) ?_|simp (maxSteps:=9^9) -implicitDefEqProofs only [go_sem,n0,n1,n1',n2,dr,dl,dl2,f0,q1,bD,bytesD,Bd.none]))
     rfl
   | false =>
    rw [if_neg (by simp)]
    unfold wSet at q1
    cases q2:x.data==wPrefix with
    | true =>
     rw [if_pos rfl]
     unfold wPrefix at q2
     match l,hl,hd,hs,hr,hd2,hl2,n0,n1,n1',n2,f0,dr,dl,dl2,hdr,hx with
     | [],hl,hd,hs,hr,hd2,hl2,n0,n1,n1',n2,f0,dr,dl,dl2,hdr,hx =>
      rw [show prefT []=none from rfl,outT]
      have d:((([x]:List Tree).length:Int)==2)=false:=rfl
      generalize [x]=L at *
      refine spec_of Tryz.func145 rfl rfl rfl (by kernel_rfl) rfl fun K=>?_
      (repeat' (first|with_reducible (first|refine zA fun Kn hK=>?_|refine zU ?_|refine Nx.go ?_|go_step)|refine ⟨_,h1,?_⟩|refine ⟨_,hf,?_⟩|with_reducible (first|refine zI ?_|refine zV ?_)|simp (maxSteps:=9^9) (disch:=omega) only [wq]|with_reducible refine zM (fun hb=>?_) (fun hb=>?_)<;>try simp only [hb]|with_reducible refine And.intro (by first|omega|(simp;done)|(simp;omega)) ?_|simp (maxSteps:=9^9) -implicitDefEqProofs only [go_sem,n0,n1,n1',d,f0,q1,q2,bD,bytesD]))
      exact ⟨_,rfl,rfl⟩
     | [y],hl,hd,hs,hr,hd2,hl2,n0,n1,n1',n2,f0,dr,dl,dl2,hdr,hx =>
      have hy:[x,y][1]?=some y:=rfl
      have f1:=flat_at (f:=treeC) treeC_len hy
      simp only [Nat.one_mul] at f1
      have d:((([x,y]:List Tree).length:Int)==2)=true:=rfl
      have m1:(1:Int)<(([x,y]:List Tree).length:Int):=by simp
      have m1':1<([x,y]:List Tree).length:=by simp
      rw [show prefT [y]=if y.list||y.hinted then none else some (.mk 5 y.data [] 0 Bd.none Bd.none) from rfl]
      cases hyb:y.list||y.hinted with
      | true =>
       have h2:=patom_n (G:=G) y rfl hyb
       rw [if_pos rfl,outT]
       generalize [x,y]=L at *
       refine spec_of Tryz.func145 rfl rfl rfl (by kernel_rfl) rfl fun K=>?_
       (repeat' (first|with_reducible (first|refine zA fun Kn hK=>?_|refine zU ?_|refine Nx.go ?_|go_step)|refine ⟨_,h1,?_⟩|refine ⟨_,ht,?_⟩|refine ⟨_,h2,?_⟩|with_reducible (first|refine zI ?_|refine zV ?_)|simp (maxSteps:=9^9) (disch:=omega) only [wq]|with_reducible refine zM (fun hb=>?_) (fun hb=>?_)<;>try simp only [hb]|with_reducible refine And.intro (by first|omega|(simp;done)|(simp;omega)) ?_|simp (maxSteps:=9^9) -implicitDefEqProofs only [go_sem,n0,n1,n1',m1,m1',d,f0,f1,q1,q2,bD,bytesD]))
       exact ⟨_,rfl,rfl⟩
      | false =>
       have h2:=patom_y (G:=G) y rfl (hd2 y (by simp)) hyb
       rw [if_neg (by simp),outT,tagC_mk]
       generalize [x,y]=L at *
       refine spec_of Tryz.func145 rfl rfl rfl (by kernel_rfl) rfl fun K=>?_
       (repeat' (first|with_reducible (first|refine zA fun Kn hK=>?_|refine zU ?_|refine Nx.go ?_|go_step)|refine ⟨_,h1,?_⟩|refine ⟨_,ht,?_⟩|refine ⟨_,h2,?_⟩|with_reducible (first|refine zI ?_|refine zV ?_)|simp (maxSteps:=9^9) (disch:=omega) only [wq]|with_reducible refine zM (fun hb=>?_) (fun hb=>?_)<;>try simp only [hb]|with_reducible refine And.intro (by first|omega|(simp;done)|(simp;omega)) ?_|simp (maxSteps:=9^9) -implicitDefEqProofs only [go_sem,n0,n1,n1',m1,m1',d,f0,f1,q1,q2,bD,bytesD,Bd.none]))
       rfl
     | y::z::l,hl,hd,hs,hr,hd2,hl2,n0,n1,n1',n2,f0,dr,dl,dl2,hdr,hx =>
      rw [show prefT (y::z::l)=none from rfl,outT]
      have d:(((x::y::z::l:List Tree).length:Int)==2)=false:=by rw [beq_eq_false_iff_ne,List.length_cons,List.length_cons,List.length_cons];omega
      generalize x::y::z::l=L at *
      refine spec_of Tryz.func145 rfl rfl rfl (by kernel_rfl) rfl fun K=>?_
      (repeat' (first|with_reducible (first|refine zA fun Kn hK=>?_|refine zU ?_|refine Nx.go ?_|go_step)|refine ⟨_,h1,?_⟩|refine ⟨_,hf,?_⟩|with_reducible (first|refine zI ?_|refine zV ?_)|simp (maxSteps:=9^9) (disch:=omega) only [wq]|with_reducible refine zM (fun hb=>?_) (fun hb=>?_)<;>try simp only [hb]|with_reducible refine And.intro (by first|omega|(simp;done)|(simp;omega)) ?_|simp (maxSteps:=9^9) -implicitDefEqProofs only [go_sem,n0,n1,n1',d,f0,q1,q2,bD,bytesD]))
      exact ⟨_,rfl,rfl⟩
    | false =>
     rw [if_neg (by simp)]
     unfold wPrefix at q2
     cases q3:x.data==wRange with
     | true =>
      rw [if_pos rfl]
      unfold wRange at q3
      generalize x::l=L at *
      generalize rangeT isV l=o at *
      cases o with
      | none =>
       dsimp only [outT] at hr ⊢
       refine spec_of Tryz.func145 rfl rfl rfl (by kernel_rfl) rfl fun K=>?_
       (repeat' (first|with_reducible (first|refine zA fun Kn hK=>?_|refine zU ?_|refine Nx.go ?_|go_step)|refine ⟨_,h1,?_⟩|refine ⟨_,hr,?_⟩|with_reducible (first|refine zI ?_|refine zV ?_)|simp (maxSteps:=9^9) (disch:=omega) only [wq]|with_reducible refine zM (fun hb=>?_) (fun hb=>?_)<;>try simp only [hb]|with_reducible refine And.intro (by first|omega|(simp;done)|(simp;omega)) ?_|simp (maxSteps:=9^9) -implicitDefEqProofs only [go_sem,n0,n1,n1',n2,dr,dl,dl2,f0,q1,q2,q3,bD,bytesD]))
       exact ⟨_,rfl,rfl⟩
      | some t =>
       dsimp only [outT] at hr ⊢
       rw [tagC_eq] at hr ⊢
       refine spec_of Tryz.func145 rfl rfl rfl (by kernel_rfl) rfl fun K=>?_
       (repeat' (first|with_reducible (first|refine zA fun Kn hK=>?_|refine zU ?_|refine Nx.go ?_|go_step)|refine ⟨_,h1,?_⟩|refine ⟨_,hr,?_⟩|with_reducible (first|refine zI ?_|refine zV ?_)|simp (maxSteps:=9^9) (disch:=omega) only [wq]|with_reducible refine zM (fun hb=>?_) (fun hb=>?_)<;>try simp only [hb]|with_reducible refine And.intro (by first|omega|(simp;done)|(simp;omega)) ?_|simp (maxSteps:=9^9) -implicitDefEqProofs only [go_sem,n0,n1,n1',n2,dr,dl,dl2,f0,q1,q2,q3,bD,bytesD]))
       try rfl
     | false =>
      rw [if_neg (by simp),outT]
      unfold wRange at q3
      generalize x::l=L at *
      refine spec_of Tryz.func145 rfl rfl rfl (by kernel_rfl) rfl fun K=>?_
      (repeat' (first|with_reducible (first|refine zA fun Kn hK=>?_|refine zU ?_|refine Nx.go ?_|go_step)|refine ⟨_,h1,?_⟩|with_reducible (first|refine zI ?_|refine zV ?_)|simp (maxSteps:=9^9) (disch:=omega) only [wq]|with_reducible refine zM (fun hb=>?_) (fun hb=>?_)<;>try simp only [hb]|with_reducible refine And.intro (by first|omega|(simp;done)|(simp;omega)) ?_|simp (maxSteps:=9^9) -implicitDefEqProofs only [go_sem,n0,n1,n1',f0,q1,q2,q3,ni_none,valsOf,bD,bytesD]))
      exact ⟨_,rfl,rfl⟩
theorem pget_m: ∀ v:Tree,∀ cs:List D,treeC v=cs→v.wt≤30000000→v.clean=true→Spec Tryz.prog G 124 [.g cs] (outT (getT isV v)):=Tree.ind fun v ih cs hcs hw hc=>by
 subst hcs
 have hst:=starts_m (G:=G) v rfl hw hc
 have h5:=v.wt_kids
 have hd: ∀ x∈v.kids,x.data.length≤1000000000:=fun x hx=>by
  have h1:=Tree.wt_kid hx
  have h2:=Tree.wt_data x
  omega
 have htg: ∀ k,Spec Tryz.prog G 146 [.c (.sl (v.kids.drop k).length ((v.kids.drop k).flatMap treeC))] (outL (allSome ((v.kids.drop k).map (getT isV)))):=fun k=>by
  refine ptags_w (getT isV) (v.kids.drop k) (by rw [List.length_drop];omega) fun x hx=>?_
  have hx:=List.mem_of_mem_drop hx
  exact ih x hx _ rfl (by have:=Tree.wt_kid hx;omega) (kid_clean hc hx)
 rw [getT_eq]
 have ev:=treeC_eq v
 cases hh:headB v wStar with
 | true =>
  have hl:v.list=true:=by
   unfold headB at hh
   rw [Bool.and_eq_true] at hh
   exact hh.1
  rw [hl,if_pos rfl,if_pos rfl]
  have hk:v.kids≠[]:=fun e=>by
   unfold headB at hh
   rw [e] at hh
   simp at hh
  have n2:1≤v.kids.length:=List.length_pos_iff.2 hk
  have hs:=starred_w (G:=G) (v.kids.drop 1) (allSome ((v.kids.map (getT isV)).drop 2)) (by rw [List.length_drop];omega) (fun x hx=>hd x (List.mem_of_mem_drop hx)) (by
   have:=htg 2
   rw [List.map_drop] at this
   rw [List.drop_drop]
   exact this)
  have dr:=flat_drop (f:=treeC) treeC_len v.kids 1
  have dl:v.kids.length-1=(v.kids.drop 1).length:=by rw [List.length_drop]
  have dl2:((v.kids.length:Int)-1)=((v.kids.drop 1).length:Int):=by rw [List.length_drop];omega
  simp only [Nat.one_mul] at dr
  generalize starT isV (v.kids.drop 1) (allSome ((v.kids.map (getT isV)).drop 2))=o at *
  generalize v.kids.drop 1=M at *
  rw [ev,hl] at hst ⊢
  rw [hh] at hst
  clear hh ih hd htg hc
  cases o with
  | none =>
   dsimp only [outT] at hs ⊢
   refine spec_of Tryz.func124 rfl rfl rfl (by kernel_rfl) rfl fun K=>?_
   (repeat' (first|with_reducible (first|refine zA fun Kn hK=>?_|refine zU ?_|refine Nx.go ?_|go_step)|refine ⟨_,hst,?_⟩|refine ⟨_,hs,?_⟩|with_reducible (first|refine zI ?_|refine zV ?_)|simp (maxSteps:=9^9) (disch:=omega) only [wq]|with_reducible refine zM (fun hb=>?_) (fun hb=>?_)<;>try simp only [hb]|with_reducible refine And.intro (by first|omega|(simp;done)|(simp;omega)) ?_|simp (maxSteps:=9^9) -implicitDefEqProofs only [go_sem,n2,dr,dl,dl2,bD,bytesD]))
   exact ⟨_,rfl,rfl⟩
  | some t =>
   dsimp only [outT] at hs ⊢
   rw [tagC_eq] at hs ⊢
   refine spec_of Tryz.func124 rfl rfl rfl (by kernel_rfl) rfl fun K=>?_
   (repeat' (first|with_reducible (first|refine zA fun Kn hK=>?_|refine zU ?_|refine Nx.go ?_|go_step)|refine ⟨_,hst,?_⟩|refine ⟨_,hs,?_⟩|with_reducible (first|refine zI ?_|refine zV ?_)|simp (maxSteps:=9^9) (disch:=omega) only [wq]|with_reducible refine zM (fun hb=>?_) (fun hb=>?_)<;>try simp only [hb]|with_reducible refine And.intro (by first|omega|(simp;done)|(simp;omega)) ?_|simp (maxSteps:=9^9) -implicitDefEqProofs only [go_sem,n2,dr,dl,dl2,bD,bytesD]))
   try rfl
 | false =>
  rw [hh] at hst
  cases hl:v.list with
  | true =>
   have hs:=htg 0
   simp only [List.drop_zero] at hs
   rw [if_pos rfl,if_neg (by simp)]
   rw [ev,hl] at hst ⊢
   generalize allSome (v.kids.map (getT isV))=o at *
   cases o with
   | none =>
    dsimp only [outL] at hs
    rw [show Option.map (kTg 3) none=none from rfl,outT]
    refine spec_of Tryz.func124 rfl rfl rfl (by kernel_rfl) rfl fun K=>?_
    (repeat' (first|with_reducible (first|refine zA fun Kn hK=>?_|refine zU ?_|refine Nx.go ?_|go_step)|refine ⟨_,hst,?_⟩|refine ⟨_,hs,?_⟩|with_reducible (first|refine zI ?_|refine zV ?_)|simp (maxSteps:=9^9) (disch:=omega) only [wq]|with_reducible refine zM (fun hb=>?_) (fun hb=>?_)<;>try simp only [hb]|with_reducible refine And.intro (by first|omega|(simp;done)|(simp;omega)) ?_|simp (maxSteps:=9^9) -implicitDefEqProofs only [go_sem,bD,bytesD]))
    exact ⟨_,rfl,rfl⟩
   | some k =>
    dsimp only [outL] at hs
    rw [show Option.map (kTg 3) (some k)=some (kTg 3 k) from rfl,outT,kTg,tagC_mk]
    refine spec_of Tryz.func124 rfl rfl rfl (by kernel_rfl) rfl fun K=>?_
    (repeat' (first|with_reducible (first|refine zA fun Kn hK=>?_|refine zU ?_|refine Nx.go ?_|go_step)|refine ⟨_,hst,?_⟩|refine ⟨_,hs,?_⟩|with_reducible (first|refine zI ?_|refine zV ?_)|simp (maxSteps:=9^9) (disch:=omega) only [wq]|with_reducible refine zM (fun hb=>?_) (fun hb=>?_)<;>try simp only [hb]|with_reducible refine And.intro (by first|omega|(simp;done)|(simp;omega)) ?_|simp (maxSteps:=9^9) -implicitDefEqProofs only [go_sem,bD,bytesD,Bd.none]))
    rfl
  | false =>
   rw [if_neg (by simp)]
   cases hb:v.hinted with
   | true =>
    have h1:=patom_n (G:=G) v rfl (by rw [hb];simp)
    rw [if_pos rfl,outT]
    rw [ev,hl,hb] at hst h1 ⊢
    refine spec_of Tryz.func124 rfl rfl rfl (by kernel_rfl) rfl fun K=>?_
    (repeat' (first|with_reducible (first|refine zA fun Kn hK=>?_|refine zU ?_|refine Nx.go ?_|go_step)|refine ⟨_,hst,?_⟩|refine ⟨_,h1,?_⟩|with_reducible (first|refine zI ?_|refine zV ?_)|simp (maxSteps:=9^9) (disch:=omega) only [wq]|with_reducible refine zM (fun hb=>?_) (fun hb=>?_)<;>try simp only [hb]|with_reducible refine And.intro (by first|omega|(simp;done)|(simp;omega)) ?_|simp (maxSteps:=9^9) -implicitDefEqProofs only [go_sem,bD,bytesD]))
    exact ⟨_,rfl,rfl⟩
   | false =>
    have h1:=patom_y (G:=G) v rfl (by have:=v.wt_data;omega) (by rw [hl,hb];rfl)
    rw [if_neg (by simp),outT,aTg,tagC_mk]
    rw [ev,hl,hb] at hst h1 ⊢
    refine spec_of Tryz.func124 rfl rfl rfl (by kernel_rfl) rfl fun K=>?_
    (repeat' (first|with_reducible (first|refine zA fun Kn hK=>?_|refine zU ?_|refine Nx.go ?_|go_step)|refine ⟨_,hst,?_⟩|refine ⟨_,h1,?_⟩|with_reducible (first|refine zI ?_|refine zV ?_)|simp (maxSteps:=9^9) (disch:=omega) only [wq]|with_reducible refine zM (fun hb=>?_) (fun hb=>?_)<;>try simp only [hb]|with_reducible refine And.intro (by first|omega|(simp;done)|(simp;omega)) ?_|simp (maxSteps:=9^9) -implicitDefEqProofs only [go_sem,bD,bytesD,Bd.none]))
    rfl
end
section
variable {G:Nat→Option (List D)}
end
end Go.Proofs.YtfammdfpgccnfaaGreatDoor
namespace Go.Proofs.YtfammdfpgccnfaaGreatDoor
def wProp:List UInt8:=[112,114,111,112,97,103,97,116,101]
def wTagW:List UInt8:=[116,97,103]
def wSubject:List UInt8:=[115,117,98,106,101,99,116]
def pairT (w:List UInt8) (v:Tree):Tree:=listT [atomT w,v]
def propT:Tree:=listT [atomT wProp]
def winL (w:Wd):List Tree:=if w=Wd.none then [] else [w.val]
def tailV (d:Bool) (t:Tg) (w:Wd):List Tree:=(if d then [propT] else [])++(pairT wTagW t.val::winL w)
noncomputable def getTg (v:Tree):Option Tg:=if v.may then getT isV v else none
def ofR (v:Tree) (w:List UInt8):Option Tree:=if headB v w&&(v.kids.length==2) then some (v.kid 1) else none
def endsR (l:List Tree):Option Wd:=match l with
 | []=>some Wd.none
 | x::m=>match getR x with
  | some w=>if emptyL m&&(w.aft||w.unt) then some w else none
  | none=>none
def cutP (l:List Tree):Bool × List Tree:=match l with
 | []=>(false,[])
 | x::m=>if headB x wProp&&(x.kids.length==1) then (true,m) else (false,x::m)
noncomputable def rightsR (l:List Tree):Option (Bool × Tg × Wd):=match (cutP l).2 with
 | []=>none
 | x :: m=>match ofR x wTagW with
  | none=>none
  | some y=>match getTg y with
   | none=>none
   | some t=>match endsR m with
    | none=>none
    | some w=>some ((cutP l).1,t,w)
theorem may_clean {v:Tree} (h:v.may=true):v.clean=true:=by
 simp only [Tree.may,Bool.and_eq_true] at h
 exact h.1.1.1
theorem getTg_of {v:Tree} {t:Tg} (h:getTg v=some t):tMay t=true∧t.val=v:=by
 unfold getTg at h
 split at h
 ·rename_i hm
  obtain ⟨a,b⟩:=get_ok v t (may_clean hm) h
  exact ⟨by rw [tMay,a,b,hm];rfl,b⟩
 ·cases h
theorem getTg_val {t:Tg} (h:tMay t=true):getTg t.val=some t:=by
 rw [tMay,Bool.and_eq_true] at h
 rw [getTg,if_pos h.2,put_ok t h.1]
theorem headB_pair (x s:List UInt8) (v:Tree):headB (pairT x v) s=decide (x=s):=headB_list _ _ _
theorem ofR_pair (x s:List UInt8) (v:Tree):ofR (pairT x v) s=if x=s then some v else none:=by
 unfold ofR
 rw [headB_pair]
 by_cases h:x=s
 ·rw [decide_eq_true h,if_pos h]
  rfl
 ·rw [decide_eq_false h,if_neg h]
  rfl
theorem ofR_of {v y:Tree} {s:List UInt8} (hc:v.clean=true) (h:ofR v s=some y):v=pairT s y∧y.clean=true:=by
 unfold ofR at h
 split at h
 ·rename_i hh
  rw [Bool.and_eq_true,beq_iff_eq] at hh
  injection h with h
  have hv:=headB_of hc hh.1
  match hk:v.kids,hh.2 with
  | [a,b],_ =>
   have hb:v.kid 1=b:=Tree.kid_at (by rw [hk];rfl)
   rw [hb] at h
   subst h
   rw [hk] at hv
   exact ⟨hv,kid_clean' hc (by rw [hk];simp)⟩
 ·cases h
theorem win_ne {w:Wd} (h:w.may=true):(w.aft||w.unt)= !decide (w=Wd.none):=by
 obtain ⟨a,n,u,k⟩:=w
 rw [may_mk,Bool.and_eq_true] at h
 cases a with
 | true=>simp [Wd.none]
 | false =>
  obtain rfl:=side_f h.1
  cases u with
  | true=>simp [Wd.none]
  | false =>
   obtain rfl:=side_f h.2
   simp [Wd.none]
theorem endsR_val {w:Wd} (h:w.may=true):endsR (winL w)=some w:=by
 have hn:=win_ne h
 unfold winL
 split
 ·rename_i e
  rw [e]
  rfl
 ·rename_i e
  rw [decide_eq_false e] at hn
  unfold endsR
  dsimp only
  rw [getR_val h]
  dsimp only
  rw [hn]
  rfl
theorem endsR_of {l:List Tree} {w:Wd} (hc: ∀ x∈l,x.clean=true) (h:endsR l=some w):w.may=true∧l=winL w:=by
 cases l with
 | nil =>
  injection h with h
  subst h
  exact ⟨by decide,rfl⟩
 | cons x m =>
  unfold endsR at h
  dsimp only at h
  cases hg:getR x with
  | none=>rw [hg] at h;cases h
  | some w' =>
   rw [hg] at h
   dsimp only at h
   split at h
   ·rename_i hh
    injection h with h
    subst h
    rw [Bool.and_eq_true,emptyL_iff] at hh
    obtain ⟨a,b⟩:=getR_of (hc x (by simp)) hg
    have hn:=win_ne a
    rw [hh.2] at hn
    have hne:w'≠Wd.none:=fun e=>by rw [decide_eq_true e] at hn;cases hn
    refine ⟨a,?_⟩
    rw [winL,if_neg hne,b,hh.1]
   ·cases h
theorem cutP_val (d:Bool) (t:Tree) (l:List Tree):cutP ((if d then [propT] else [])++(pairT wTagW t::l))=(d,pairT wTagW t::l):=by
 cases d with
 | true =>
  show cutP (propT::pairT wTagW t::l)=_
  unfold cutP
  dsimp only
  rw [show headB propT wProp=true from by rw [propT,headB_list];decide]
  rfl
 | false =>
  show cutP (pairT wTagW t::l)=_
  unfold cutP
  dsimp only
  rw [headB_pair,decide_eq_false (by decide)]
  rfl
theorem cutP_of {l:List Tree} (hc: ∀ x∈l,x.clean=true):l=(if (cutP l).1 then [propT] else [])++(cutP l).2:=by
 cases l with
 | nil=>rfl
 | cons x m =>
  unfold cutP
  dsimp only
  split
  ·rename_i hh
   rw [Bool.and_eq_true,beq_iff_eq] at hh
   have hv:=headB_of (hc x (by simp)) hh.1
   match hk:x.kids,hh.2 with
   | [a],_ =>
    rw [hk] at hv
    show x::m=[propT]++m
    rw [hv]
    rfl
  ·rfl
theorem rightsR_val {d:Bool} {t:Tg} {w:Wd} (ht:tMay t=true) (hw:w.may=true):rightsR (tailV d t w)=some (d,t,w):=by
 unfold rightsR tailV
 rw [cutP_val]
 dsimp only
 rw [ofR_pair,if_pos rfl]
 dsimp only
 rw [getTg_val ht]
 dsimp only
 rw [endsR_val hw]
theorem rightsR_of {l:List Tree} {d:Bool} {t:Tg} {w:Wd} (hc: ∀ x∈l,x.clean=true) (h:rightsR l=some (d,t,w)):tMay t=true∧w.may=true∧l=tailV d t w:=by
 have hl:=cutP_of hc
 have hcm: ∀ x∈(cutP l).2,x.clean=true:=fun x hx=>hc x (by rw [hl];exact List.mem_append.2 (.inr hx))
 unfold rightsR at h
 generalize (cutP l).1=d' at *
 generalize (cutP l).2=k at *
 cases k with
 | nil=>cases h
 | cons x m =>
  dsimp only at h
  cases ho:ofR x wTagW with
  | none=>rw [ho] at h;cases h
  | some y =>
   rw [ho] at h
   dsimp only at h
   obtain ⟨e1,_⟩:=ofR_of (hcm x (by simp)) ho
   cases hg:getTg y with
   | none=>rw [hg] at h;cases h
   | some t' =>
    rw [hg] at h
    dsimp only at h
    obtain ⟨a,b⟩:=getTg_of hg
    cases he:endsR m with
    | none=>rw [he] at h;cases h
    | some w' =>
     rw [he] at h
     injection h with h
     injection h with h1 h
     injection h with h2 h3
     subst h1 h2 h3
     obtain ⟨c,e⟩:=endsR_of (fun z hz=>hcm z (by simp [hz])) he
     refine ⟨a,c,?_⟩
     rw [hl,e1,e,tailV,b]
theorem getSb_val {s:Sb} (h:s.may=true):getSb s.val=some s:=by
 rw [Sb.may,Bool.and_eq_true] at h
 rw [getSb,if_pos h.2,refS_val s 1 h.1]
theorem getSb_of {v:Tree} {s:Sb} (h:getSb v=some s):s.may=true∧s.val=v:=((getS_eq v).1 s h).2
def zeroTg:Tg:= .mk 0 [] [] 0 Bd.none Bd.none
theorem sum_memT {α:Type} {f:α→Nat} {x:α}: ∀ {l:List α},x∈l→f x≤(l.map f).sum
 | y :: l,h=>by
  rw [List.map_cons,List.sum_cons]
  rcases List.mem_cons.1 h with rfl|h
  ·omega
  ·have:=sum_memT (f:=f) h
   omega
theorem listT_may {l:List Tree}:(listT l).may=(l.all Tree.clean&&decide (1+(l.map Tree.nodes).sum≤512)&&decide (most (l.map Tree.deep)+1≤16)&&decide (2+(l.map Tree.form).flatten.length≤4096)):=by
 have e1:(listT l).clean=l.all Tree.clean:=by rw [Tree.clean_eq];simp [Tree.fair,listT,Tree.list,Tree.hinted,Tree.hint,Tree.data,Tree.kids]
 have e2:(listT l).nodes=1+(l.map Tree.nodes).sum:=Tree.nodes_eq _
 have e3:(listT l).deep=most (l.map Tree.deep)+1:=Tree.deep_eq _
 have e4:(listT l).form.length=2+(l.map Tree.form).flatten.length:=by
  rw [Tree.form_eq,if_pos (show (listT l).list=true from rfl)]
  simp only [List.length_append,List.length_singleton,listT,Tree.kids]
  omega
 rw [Tree.may,e1,e2,e3,e4]
theorem atomT_is {d:List UInt8}:(atomT d).clean=true∧(atomT d).nodes=1∧(atomT d).deep=0∧(atomT d).form=textB d:=by
 refine ⟨?_,?_,?_,?_⟩
 ·rw [Tree.clean_eq]
  simp [Tree.fair,atomT,Tree.list,Tree.hinted,Tree.hint,Tree.kids]
 ·rw [Tree.nodes_eq]
  simp [atomT,Tree.kids]
 ·rw [Tree.deep_eq]
  simp [atomT,Tree.list]
 ·rw [Tree.form_eq]
  simp [Tree.atomF,atomT,Tree.list,Tree.hinted,Tree.data]
def Sz (t:Tree) (n d f:Nat):Prop:=t.clean=true∧t.nodes≤n∧t.deep≤d∧t.form.length≤f
def SzL (l:List Tree) (n d f:Nat):Prop:=(∀ x∈l,x.clean=true)∧(l.map Tree.nodes).sum≤n∧(∀ x∈l,x.deep≤d)∧(l.map Tree.form).flatten.length≤f
theorem szl_nil (d:Nat):SzL [] 0 d 0:=by
 refine ⟨fun x hx=>?_,?_,fun x hx=>?_,?_⟩
 ·cases hx
 ·simp
 ·cases hx
 ·simp
theorem szl_cons {x:Tree} {l:List Tree} {n d f n' f':Nat} (h:Sz x n d f) (h':SzL l n' d f'):SzL (x::l) (n+n') d (f+f'):=by
 obtain ⟨a1,a2,a3,a4⟩:=h
 obtain ⟨b1,b2,b3,b4⟩:=h'
 refine ⟨fun y hy=>?_,?_,fun y hy=>?_,?_⟩
 ·rcases List.mem_cons.1 hy with rfl|hy
  ·exact a1
  ·exact b1 y hy
 ·rw [List.map_cons,List.sum_cons]
  omega
 ·rcases List.mem_cons.1 hy with rfl|hy
  ·exact a3
  ·exact b3 y hy
 ·rw [List.map_cons,List.flatten_cons,List.length_append]
  omega
theorem szl_app {l m:List Tree} {n d f n' f':Nat} (h:SzL l n d f) (h':SzL m n' d f'):SzL (l++m) (n+n') d (f+f'):=by
 obtain ⟨a1,a2,a3,a4⟩:=h
 obtain ⟨b1,b2,b3,b4⟩:=h'
 refine ⟨fun y hy=>?_,?_,fun y hy=>?_,?_⟩
 ·rcases List.mem_append.1 hy with hy|hy
  ·exact a1 y hy
  ·exact b1 y hy
 ·rw [List.map_append,List.sum_append]
  omega
 ·rcases List.mem_append.1 hy with hy|hy
  ·exact a3 y hy
  ·exact b3 y hy
 ·rw [List.map_append,List.flatten_append,List.length_append]
  omega
theorem Sz.mono {t:Tree} {n d f n' d' f':Nat} (h:Sz t n d f) (hn:n≤n') (hd:d≤d') (hf:f≤f'):Sz t n' d' f':=⟨h.1,Nat.le_trans h.2.1 hn,Nat.le_trans h.2.2.1 hd,Nat.le_trans h.2.2.2 hf⟩
theorem SzL.mono {l:List Tree} {n d f n' d' f':Nat} (h:SzL l n d f) (hn:n≤n') (hd:d≤d') (hf:f≤f'):SzL l n' d' f':=⟨h.1,Nat.le_trans h.2.1 hn,fun x hx=>Nat.le_trans (h.2.2.1 x hx) hd,Nat.le_trans h.2.2.2 hf⟩
theorem sz_list {l:List Tree} {n d f:Nat} (h:SzL l n d f):Sz (listT l) (1+n) (d+1) (2+f):=by
 obtain ⟨a1,a2,a3,a4⟩:=h
 refine ⟨list_clean a1,?_,?_,?_⟩
 ·rw [Tree.nodes_eq]
  exact Nat.add_le_add_left a2 1
 ·rw [Tree.deep_eq,if_pos (show (listT l).list=true from rfl)]
  refine Nat.add_le_add_right (most_le.2 fun k hk=>?_) 1
  obtain ⟨x,hx,rfl⟩:=List.mem_map.1 hk
  exact a3 x hx
 ·rw [Tree.form_eq,if_pos (show (listT l).list=true from rfl)]
  simp only [List.length_append,List.length_singleton,listT,Tree.kids]
  omega
theorem sz_atom {w:List UInt8} {k:Nat} (d:Nat) (h:w.length≤k) (hk:k<100000000):Sz (atomT w) 1 d (k+9):=by
 obtain ⟨a,b,c,e⟩:=atomT_is (d:=w)
 exact ⟨a,by omega,by omega,by rw [e];exact textB_len h hk⟩
theorem sz_self {t:Tree} (h:t.clean=true):Sz t t.nodes t.deep t.form.length:=⟨h,Nat.le_refl _,Nat.le_refl _,Nat.le_refl _⟩
theorem keyV_sz (s:Bool) (d:List UInt8):Sz (keyV s d) 5 2 (keyV s d).form.length:=by
 refine ⟨keyV_clean s d,?_,?_,Nat.le_refl _⟩
 all_goals
  cases s with
  | true=>first|(exact Nat.le_trans (by simp [keyV,listT,Tree.nodes_eq,Tree.kids,atomT]:(keyV true d).nodes≤4) (by omega))|(exact Nat.le_trans (by simp [keyV,listT,Tree.deep_eq,Tree.kids,Tree.list,atomT,most]:(keyV true d).deep≤1) (by omega))
  | false=>first|(exact Nat.le_trans (by simp [keyV,listT,Tree.nodes_eq,Tree.kids,atomT]:(keyV false d).nodes≤5) (by omega))|(exact Nat.le_trans (by simp [keyV,listT,Tree.deep_eq,Tree.kids,Tree.list,atomT,most]:(keyV false d).deep≤2) (by omega))
theorem list_deep {l:List Tree} {d:Nat} (h: ∀ x∈l,x.deep≤d):(listT l).deep≤d+1:=by
 rw [Tree.deep_eq,if_pos (show (listT l).list=true from rfl)]
 refine Nat.add_le_add_right (most_le.2 fun k hk=>?_) 1
 obtain ⟨x,hx,rfl⟩:=List.mem_map.1 hk
 exact h x hx
theorem atom_deep (w:List UInt8) (d:Nat):(atomT w).deep≤d:=by
 have:=(atomT_is (d:=w)).2.2.1
 omega
theorem sval_deep: ∀ (s:Sb) (k:Nat),s.right k=true→k≤4→s.val.deep+k≤7:=by
 refine Sb.ind fun s ih k h hk=>?_
 have hkey:=(keyV_sz s.ks s.kd).2.2.1
 rw [Sb.right_eq] at h
 rw [Sb.val_eq]
 by_cases h1:s.kind=1
 ·rw [if_pos h1]
  omega
 rw [if_neg h1] at h ⊢
 by_cases h2:s.kind=2
 ·rw [if_pos h2]
  have:=list_deep (l:=atomT tName::keyV s.ks s.kd::s.names.map atomT) (d:=2) fun x hx=>by
   simp only [List.mem_cons,List.mem_map] at hx
   rcases hx with rfl|rfl|⟨n,_,rfl⟩
   ·exact atom_deep _ _
   ·exact hkey
   ·exact atom_deep _ _
  omega
 rw [if_neg h2] at h ⊢
 by_cases h3:s.kind=3
 ·rw [if_pos h3,Bool.and_eq_true,List.all_eq_true] at h
  have hk3:=(ok3S h.1).1
  have:=list_deep (l:=atomT tKofN::atomT (dec s.k.toNat)::atomT (dec s.kids.length)::s.kids.map Sb.val) (d:=6-k) fun x hx=>by
   simp only [List.mem_cons,List.mem_map] at hx
   rcases hx with rfl|rfl|rfl|⟨n,hn,rfl⟩
   ·exact atom_deep _ _
   ·exact atom_deep _ _
   ·exact atom_deep _ _
   ·have:=ih n hn (k+1) (h.2 n hn) (by omega)
    omega
  omega
 ·rw [if_neg h3] at h
  cases h
theorem sval_sz {s:Sb} (h:s.may=true):Sz s.val s.val.nodes 6 s.val.form.length:=by
 rw [Sb.may,Bool.and_eq_true] at h
 have:=sval_deep s 1 h.1 (by omega)
 exact ⟨sval_clean s,Nat.le_refl _,by omega,Nat.le_refl _⟩
theorem endV_sz (w:List UInt8) (n:Int) (h:w.length≤10):Sz (endV w n) 3 1 49:=
 (sz_list (szl_cons (sz_atom 0 h (by omega)) (szl_cons (sz_atom 0 (k:=19) (by rw [dateS_len];exact Nat.le_refl _) (by omega)) (szl_nil 0)))).mono (by omega) (by omega) (by omega)
theorem win_sz (w:Wd):Sz w.val 8 2 114:=by
 have e1:=endV_sz wNB w.frm (by decide)
 have e2:=endV_sz wNA w.to (by decide)
 have a:=sz_atom (w:=wValid) (k:=5) 1 (by decide) (by omega)
 have h: ∀ l,SzL l 6 1 98→Sz (listT (atomT wValid::l)) 8 2 114:=fun l hl=>(sz_list (szl_cons a hl)).mono (by omega) (by omega) (by omega)
 refine h _ ?_
 unfold wdK
 have k1:SzL (if w.aft=true then [endV wNB w.frm] else []) 3 1 49:=by
  split
  ·exact (szl_cons e1 (szl_nil 1)).mono (by omega) (by omega) (by omega)
  ·exact (szl_nil 1).mono (by omega) (by omega) (by omega)
 have k2:SzL (if w.unt=true then [endV wNA w.to] else []) 3 1 49:=by
  split
  ·exact (szl_cons e2 (szl_nil 1)).mono (by omega) (by omega) (by omega)
  ·exact (szl_nil 1).mono (by omega) (by omega) (by omega)
 exact (szl_app k1 k2).mono (by omega) (by omega) (by omega)
theorem winL_sz (w:Wd):SzL (winL w) 8 2 114:=by
 unfold winL
 split
 ·exact (szl_nil 2).mono (by omega) (by omega) (by omega)
 ·exact (szl_cons (win_sz w) (szl_nil 2)).mono (by omega) (by omega) (by omega)
theorem pair_sz {w:List UInt8} {v:Tree} {n d f:Nat} (hw:w.length≤10) (h:Sz v n d f):Sz (pairT w v) (2+n) (d+1) (21+f):=
 (sz_list (szl_cons (sz_atom d hw (by omega)) (szl_cons h (szl_nil d)))).mono (by omega) (by omega) (by omega)
theorem prop_sz:Sz propT 2 1 20:=(sz_list (szl_cons (sz_atom (w:=wProp) (k:=9) 0 (by decide) (by omega)) (szl_nil 0))).mono (by omega) (by omega) (by omega)
theorem tail_sz {d:Bool} {t:Tg} {w:Wd} {n f:Nat} {e:Nat} (ht:Sz t.val n e f) (he:1≤e):SzL (tailV d t w) (12+n) (e+1) (155+f):=by
 have k1:SzL (if d=true then [propT] else []) 2 (e+1) 20:=by
  split
  ·exact (szl_cons (prop_sz.mono (Nat.le_refl _) (by omega) (Nat.le_refl _)) (szl_nil (e+1))).mono (by omega) (by omega) (by omega)
  ·exact (szl_nil (e+1)).mono (by omega) (by omega) (by omega)
 exact (szl_app k1 (szl_cons (pair_sz (w:=wTagW) (by decide) ht) ((winL_sz w).mono (Nat.le_refl _) (by omega:2≤e+1) (Nat.le_refl _)))).mono (by omega) (by omega) (by omega)
theorem tagV_clean (t:Tg):t.val.clean=true:=val_clean t
theorem two_nodes: ∀ t:Tree,t.clean=true→2*t.nodes≤t.form.length:=by
 refine Tree.ind fun t ih h=>?_
 rw [Tree.clean_eq,Bool.and_eq_true,List.all_eq_true] at h
 rw [Tree.nodes_eq,Tree.form_eq]
 split
 ·have: ∀ l:List Tree,(∀ x∈l,2*x.nodes≤x.form.length)→2*(l.map Tree.nodes).sum≤(l.map Tree.form).flatten.length:=by
   intro l
   induction l with
   | nil=>simp
   | cons x l ih =>
    intro h
    have h0:=h x (by simp)
    have:=ih fun y hy=>h y (by simp [hy])
    simp only [List.map_cons,List.sum_cons,List.flatten_cons,List.length_append]
    omega
  have:=this t.kids fun x hx=>ih x hx (h.2 x hx)
  simp only [List.length_append,List.length_singleton]
  omega
 ·rename_i hl
  have hk:t.kids=[]:=by
   have:=h.1
   unfold Tree.fair at this
   rw [if_neg hl] at this
   simp at this
   exact this.1
  have hp:=dec_pos t.data.length
  rw [hk]
  simp only [List.map_nil,List.sum_nil,Tree.atomF,textB,List.length_append,List.length_singleton]
  omega
structure En where
 sub:Sb
 dlg:Bool
 tag:Tg
 win:Wd
def En.none:En:=⟨Sb.none,false,zeroTg,Wd.none⟩
def wEntry:List UInt8:=[101,110,116,114,121]
def wAcl:List UInt8:=[97,99,108]
noncomputable def En.ok (e:En):Bool:=e.sub.may&&(tMay e.tag&&e.win.may)
def En.val (e:En):Tree:=listT (atomT wEntry::pairT wSubject e.sub.val::tailV e.dlg e.tag e.win)
noncomputable def aclOk (l:List En):Bool:=decide (l.length≤16)&&l.all En.ok
def aclV (l:List En):Tree:=listT (atomT wAcl::l.map En.val)
noncomputable def aclMay (l:List En):Bool:=aclOk l&&(aclV l).may
noncomputable def entryR (v:Tree):Option En:=
 if headB v wEntry&&decide (2≤v.kids.length) then
  (match ofR (v.kid 1) wSubject with
   | some x=>(match getSb x,rightsR (v.kids.drop 2) with
    | some s,some r=>some ⟨s,r.1,r.2.1,r.2.2⟩
    | _,_=>none)
   | none=>none)
 else none
noncomputable def refA (v:Tree):Option (List En):=if v.may&&(headB v wAcl&&decide (v.kids.length≤17)) then allSome ((v.kids.drop 1).map entryR) else none
noncomputable def stepE (e:En) (k:Tree):En:=match k.kids with
 | []=>e
 | a :: r=>if a.data=wProp then { e with dlg:=true }
  else if a.data=wValid then { e with win:=(getR k).getD Wd.none }
  else match r with
   | [b]=>if a.data=wSubject then { e with sub:=(getSb b).getD Sb.none } else { e with tag:=(getTg b).getD zeroTg }
   | _=>e
noncomputable def readE (v:Tree):En:=v.kids.foldl stepE En.none
noncomputable def readA (v:Tree):List En:=(v.kids.drop 1).map readE
theorem stepE_atom (e:En) (w:List UInt8):stepE e (atomT w)=e:=rfl
theorem stepE_sub (e:En) (x:Tree):stepE e (pairT wSubject x)={ e with sub:=(getSb x).getD Sb.none }:=rfl
theorem stepE_prop (e:En):stepE e propT={ e with dlg:=true }:=rfl
theorem stepE_tag (e:En) (x:Tree):stepE e (pairT wTagW x)={ e with tag:=(getTg x).getD zeroTg }:=rfl
theorem stepE_win (e:En) {w:Wd} (h:w.may=true):stepE e w.val={ e with win:=w }:=by
 have:stepE e w.val={ e with win:=(getR w.val).getD Wd.none }:=rfl
 rw [this,getR_val h,Option.getD_some]
theorem foldE_win (e:En) {w:Wd} (h:w.may=true):(winL w).foldl stepE e=if w=Wd.none then e else { e with win:=w }:=by
 unfold winL
 split
 ·rfl
 ·show stepE e w.val=_
  rw [stepE_win e h]
theorem foldE_tail (e:En) {d:Bool} {t:Tg} {w:Wd} (hd:e.dlg=false) (hw0:e.win=Wd.none) (ht:tMay t=true) (hw:w.may=true):(tailV d t w).foldl stepE e={ e with dlg:=d,tag:=t,win:=w }:=by
 unfold tailV
 rw [List.foldl_append]
 have h1:(if d=true then [propT] else []).foldl stepE e={ e with dlg:=d }:=by
  cases d with
  | true=>show stepE e propT=_;rw [stepE_prop]
  | false=>show e=_;rw [← hd]
 rw [h1]
 show (winL w).foldl stepE (stepE _ (pairT wTagW t.val))=_
 rw [stepE_tag,getTg_val ht,Option.getD_some,foldE_win _ hw]
 split
 ·rename_i e
  rw [e,← hw0]
 ·rfl
theorem okE {e:En} (h:e.ok=true):e.sub.may=true∧tMay e.tag=true∧e.win.may=true:=by
 simpa [En.ok,and_assoc] using h
theorem readE_val {e:En} (h:e.ok=true):readE e.val=e:=by
 obtain ⟨h1,h2,h3⟩:=okE h
 unfold readE En.val
 rw [kidsL]
 show (tailV e.dlg e.tag e.win).foldl stepE (stepE (stepE En.none (atomT wEntry)) (pairT wSubject e.sub.val))=e
 rw [stepE_atom,stepE_sub,getSb_val h1,Option.getD_some,foldE_tail _ rfl rfl h2 h3]
theorem entryR_val {e:En} (h:e.ok=true):entryR e.val=some e:=by
 obtain ⟨h1,h2,h3⟩:=okE h
 unfold entryR En.val
 rw [headB_list,decide_eq_true rfl,kidsL,decide_eq_true (by simp only [List.length_cons];omega),Bool.true_and,if_pos rfl,kid1,ofR_pair,if_pos rfl]
 dsimp only
 simp only [List.drop_succ_cons,List.drop_zero]
 rw [getSb_val h1,rightsR_val h2 h3]
theorem entryR_of {v:Tree} {e:En} (hc:v.clean=true) (h:entryR v=some e):e.ok=true∧e.val=v:=by
 unfold entryR at h
 split at h
 ·rename_i hh
  rw [Bool.and_eq_true,decide_eq_true_eq] at hh
  have hv:=headB_of hc hh.1
  have hkc: ∀ x∈v.kids,x.clean=true:=fun x hx=>kid_clean' hc hx
  match hk:v.kids,hh.2 with
  | a :: b::l,_ =>
   have k1:v.kid 1=b:=Tree.kid_at (by rw [hk];rfl)
   rw [k1,hk] at h
   rw [hk] at hv
   simp only [List.drop_succ_cons,List.drop_zero] at h hv
   have hl: ∀ x∈l,x.clean=true:=fun x hx=>hkc x (by rw [hk];simp [hx])
   cases hx:ofR b wSubject with
   | none=>rw [hx] at h;cases h
   | some x =>
    rw [hx] at h
    dsimp only at h
    obtain ⟨b1,b2⟩:=ofR_of (hkc b (by rw [hk];simp)) hx
    cases hs:getSb x with
    | none=>rw [hs] at h;cases h
    | some s =>
     cases hr:rightsR l with
     | none=>rw [hs,hr] at h;cases h
     | some r =>
      rw [hs,hr] at h
      injection h with h
      subst h
      obtain ⟨s1,s2⟩:=getSb_of hs
      obtain ⟨r1,r2,r3⟩:=rightsR_of hl (show rightsR l=some (r.1,r.2.1,r.2.2) from hr)
      refine ⟨?_,?_⟩
      ·simp [En.ok,s1,r1,r2]
      ·rw [hv,b1,r3,← s2]
       rfl
 ·cases h
theorem aclOk_iff {l:List En}:aclOk l=true↔l.length≤16∧ ∀ e∈l,e.ok=true:=by
 simp [aclOk]
theorem readA_val {l:List En} (h:aclOk l=true):readA (aclV l)=l:=by
 obtain ⟨_,h⟩:=aclOk_iff.1 h
 unfold readA aclV
 rw [kidsL,List.drop_succ_cons,List.drop_zero,List.map_map]
 conv=>rhs;rw [← List.map_id l]
 exact List.map_congr_left fun x hx=>readE_val (h x hx)
theorem refA_val {l:List En} (h:aclMay l=true):refA (aclV l)=some l:=by
 rw [aclMay,Bool.and_eq_true] at h
 obtain ⟨h1,h2⟩:=aclOk_iff.1 h.1
 unfold refA
 rw [h.2]
 unfold aclV
 rw [headB_list,decide_eq_true rfl,kidsL,decide_eq_true (by simp only [List.length_cons,List.length_map];omega),if_pos (by rfl),List.drop_succ_cons,List.drop_zero,List.map_map]
 have: ∀ l:List En,(∀ e∈l,e.ok=true)→allSome (l.map (entryR∘En.val))=some l:=by
  intro l
  induction l with
  | nil=>intro _;rfl
  | cons x l ih =>
   intro h
   rw [List.map_cons,Function.comp_apply,entryR_val (h x (by simp)),allSome,ih fun e he=>h e (by simp [he])]
   rfl
 exact this l h2
theorem refA_of {v:Tree} {l:List En} (h:refA v=some l):aclMay l=true∧aclV l=v:=by
 unfold refA at h
 split at h
 ·rename_i hh
  rw [Bool.and_eq_true,Bool.and_eq_true,decide_eq_true_eq] at hh
  obtain ⟨hm,hhd,hlen⟩:=hh
  have hc:=may_clean hm
  have hv:=headB_of hc hhd
  have hkc: ∀ x∈v.kids.drop 1,x.clean=true:=fun x hx=>kid_clean' hc (List.mem_of_mem_drop hx)
  have: ∀ (m:List Tree) (l:List En),(∀ x∈m,x.clean=true)→allSome (m.map entryR)=some l→(∀ e∈l,e.ok=true)∧l.map En.val=m∧l.length=m.length:=by
   intro m
   induction m with
   | nil =>
    intro l _ h
    injection h with h
    subst h
    refine ⟨fun e he=>?_,rfl,rfl⟩
    cases he
   | cons x m ih =>
    intro l hc h
    rw [List.map_cons] at h
    cases hx:entryR x with
    | none=>rw [hx] at h;cases h
    | some e =>
     rw [hx,allSome] at h
     obtain ⟨l',hl',rfl⟩:=Option.map_eq_some_iff.1 h
     obtain ⟨a,b⟩:=entryR_of (hc x (by simp)) hx
     obtain ⟨p,q,r⟩:=ih l' (fun y hy=>hc y (by simp [hy])) hl'
     refine ⟨fun y hy=>?_,by rw [List.map_cons,b,q],by rw [List.length_cons,List.length_cons,r]⟩
     rcases List.mem_cons.1 hy with rfl|hy
     ·exact a
     ·exact p y hy
  obtain ⟨p,q,r⟩:=this _ l hkc h
  rw [List.length_drop] at r
  have hvv:aclV l=v:=by rw [hv,aclV,q]
  refine ⟨?_,hvv⟩
  rw [aclMay,aclOk_iff.2 ⟨by omega,p⟩,hvv,hm]
  rfl
 ·cases h
theorem getA_eq (v:Tree):(∀ l,refA v=some l→readA v=l∧aclMay l=true∧aclV l=v)∧(refA v=none→ ¬ (aclMay (readA v)=true∧aclV (readA v)=v)):=by
 refine ⟨fun l h=>?_,fun h ⟨h1,h2⟩=>?_⟩
 ·obtain ⟨a,b⟩:=refA_of h
  have:=a
  rw [aclMay,Bool.and_eq_true] at this
  exact ⟨by rw [← b];exact readA_val this.1,a,b⟩
 ·have:=refA_val h1
  rw [h2,h] at this
  cases this
theorem aclMay_take {l:List En} (h:aclMay l=true) (k:Nat):aclMay (l.take k)=true:=by
 rw [aclMay,Bool.and_eq_true] at h ⊢
 obtain ⟨h1,h2⟩:=aclOk_iff.1 h.1
 refine ⟨aclOk_iff.2 ⟨by rw [List.length_take];omega,fun e he=>h2 e (List.mem_of_mem_take he)⟩,?_⟩
 have hsum: ∀ (f:Tree→Nat) (l:List Tree) (k:Nat),((l.take k).map f).sum≤(l.map f).sum:=by
  intro f l
  induction l with
  | nil=>intro k;simp
  | cons x l ih =>
   intro k
   cases k with
   | zero=>simp
   | succ k =>
    have:=ih k
    simp only [List.take_succ_cons,List.map_cons,List.sum_cons]
    omega
 have hfl: ∀ (l:List Tree) (k:Nat),((l.take k).map Tree.form).flatten.length≤(l.map Tree.form).flatten.length:=by
  intro l
  induction l with
  | nil=>intro k;simp
  | cons x l ih =>
   intro k
   cases k with
   | zero=>simp
   | succ k =>
    have:=ih k
    simp only [List.take_succ_cons,List.map_cons,List.flatten_cons,List.length_append]
    omega
 have hm:=h.2
 unfold aclV at hm ⊢
 rw [listT_may] at hm ⊢
 have e:atomT wAcl::(l.take k).map En.val=(atomT wAcl::l.map En.val).take (k+1):=by rw [List.take_succ_cons,List.map_take]
 rw [e]
 generalize atomT wAcl::l.map En.val=m at *
 simp only [Bool.and_eq_true,decide_eq_true_eq,List.all_eq_true] at hm ⊢
 have a1:=hsum Tree.nodes m (k+1)
 have a2:=hfl m (k+1)
 have a3:most ((m.take (k+1)).map Tree.deep)≤most (m.map Tree.deep):=most_le.2 fun d hd=>by
  obtain ⟨x,hx,rfl⟩:=List.mem_map.1 hd
  exact most_le.1 (Nat.le_refl _) _ (List.mem_map_of_mem (List.mem_of_mem_take hx))
 exact ⟨⟨⟨fun x hx=>hm.1.1.1 x (List.mem_of_mem_take hx),by omega⟩,by omega⟩,by omega⟩
def En.n (e:En):Nat:=200+e.sub.val.form.length+e.tag.val.form.length
theorem en_sz {e:En} (h:e.ok=true) (hd:e.tag.val.deep≤12):e.val.clean=true∧e.val.deep≤14∧e.val.form.length≤e.n:=by
 obtain ⟨h1,h2,h3⟩:=okE h
 have s1:=(pair_sz (w:=wSubject) (by decide) (sval_sz h1)).mono (Nat.le_refl _) (by omega:6+1≤13) (Nat.le_refl _)
 have t1:=tail_sz (d:=e.dlg) (w:=e.win) (e:=12) ((sz_self (tagV_clean e.tag)).mono (Nat.le_refl _) hd (Nat.le_refl _)) (by omega)
 have a1:=sz_atom (w:=wEntry) (k:=5) 13 (by decide) (by omega)
 obtain ⟨c1,c2,c3,c4⟩:=sz_list (szl_cons a1 (szl_cons s1 t1))
 exact ⟨c1,by exact c3,by unfold En.n;exact Nat.le_trans c4 (by omega)⟩
theorem acl_may {l:List En} (h:aclOk l=true) (hd: ∀ e∈l,e.tag.val.deep≤12) (hn:(l.map En.n).sum≤1000):aclMay l=true:=by
 rw [aclMay,h,Bool.true_and]
 obtain ⟨_,h2⟩:=aclOk_iff.1 h
 have: ∀ l:List En,(∀ e∈l,e.ok=true)→(∀ e∈l,e.tag.val.deep≤12)→((l.map En.val).map Tree.form).flatten.length≤(l.map En.n).sum:=by
  intro l
  induction l with
  | nil=>intro _ _;simp
  | cons x l ih =>
   intro h1 h2
   have a:=(en_sz (h1 x (by simp)) (h2 x (by simp))).2.2
   have b:=ih (fun e he=>h1 e (by simp [he])) fun e he=>h2 e (by simp [he])
   simp only [List.map_cons,List.sum_cons,List.flatten_cons,List.length_append]
   omega
 have hf:=this l h2 hd
 have hcl:(aclV l).clean=true:=list_clean fun x hx=>by
  simp only [List.mem_cons,List.mem_map] at hx
  rcases hx with rfl|⟨e,he,rfl⟩
  ·exact atom_clean _
  ·exact (en_sz (h2 e he) (hd e he)).1
 have hdp:(aclV l).deep≤15:=list_deep fun x hx=>by
  simp only [List.mem_cons,List.mem_map] at hx
  rcases hx with rfl|⟨e,he,rfl⟩
  ·exact atom_deep _ _
  ·exact (en_sz (h2 e he) (hd e he)).2.1
 have hfm:(aclV l).form.length≤1014:=by
  rw [Tree.form_eq,if_pos (show (aclV l).list=true from rfl)]
  have ha:=(sz_atom (w:=wAcl) (k:=3) 0 (by decide) (by omega)).2.2.2
  simp only [List.length_append,List.length_singleton,aclV,listT,Tree.kids,List.map_cons,List.flatten_cons]
  omega
 have hnd:=two_nodes _ hcl
 rw [Tree.may,hcl,decide_eq_true (by omega),decide_eq_true (by omega),decide_eq_true (by omega)]
 rfl
end Go.Proofs.YtfammdfpgccnfaaGreatDoor
namespace Go.Proofs.YtfammdfpgccnfaaGreatDoor
open Go.RowKit
def enC (e:En):List D:=sbC e.sub++(.v (.bool e.dlg)::(tagC e.tag++wdC e.win))
theorem enC_len (e:En):(enC e).length=21:=by
 unfold enC wdC
 simp only [List.length_append,List.length_cons,List.length_nil,sbC_len,tagC_len]
theorem sb_cells (s:Sb): ∃ a b c d e:D,sbC s=[.v (.int .u8 (s.kind.toNat:Int)),a,b,c,d,e]:=⟨_,_,_,_,_,sbC_eq s⟩
theorem tag_cells (t:Tg): ∃ a b c d e f g h i j:D,tagC t=[a,b,c,d,e,f,g,h,i,j]:=⟨_,_,_,_,_,_,_,_,_,_,tagC_eq t⟩
def Wd.in64 (w:Wd):Prop:=(-9223372036854775808≤w.frm∧w.frm≤9223372036854775807)∧(-9223372036854775808≤w.to∧w.to≤9223372036854775807)
def wdK4 (w:Wd):List C:=[.d (.v (.bool w.aft)),.d (.v (.int .i64 w.frm)),.d (.v (.bool w.unt)),.d (.v (.int .i64 w.to))]
def wdLit (w:Wd):List Lit:=[.bool w.aft,.int .i64 w.frm,.bool w.unt,.int .i64 w.to]
theorem win_key {w:Wd} (h:w.in64):KeyL Tryz.prog 37 (wdK4 w) (wdLit w):=by
 obtain ⟨⟨h1,h2⟩,h3,h4⟩:=h
 have w1:(Lit.int .i64 w.frm).wf=true:=by
  simp only [Lit.wf,Bool.and_eq_true,decide_eq_true_eq]
  exact ⟨h1,h2⟩
 have w2:(Lit.int .i64 w.to).wf=true:=by
  simp only [Lit.wf,Bool.and_eq_true,decide_eq_true_eq]
  exact ⟨h3,h4⟩
 have b: ∀ q,Program.keyLits Tryz.prog 1 4 [.bool q]=some [.bool q]:=fun q=>by
  unfold Program.keyLits
  simp only [Tryz.underlying4]
 have i: ∀ n,(Lit.int .i64 n).wf=true→Program.keyLits Tryz.prog 1 2 [.int .i64 n]=some [.int .i64 n]:=fun n hn=>by
  unfold Program.keyLits
  simp only [Tryz.underlying2]
  rw [if_pos ⟨trivial,hn⟩]
 refine ⟨2,[.bool w.aft,.int .i64 w.frm,.bool w.unt,.int .i64 w.to],rfl,by kernel_rfl,?_⟩
 unfold Program.keyLits
 simp only [Tryz.underlying37]
 rw [if_pos ⟨by kernel_rfl,by kernel_rfl⟩]
 have c1:Tryz.prog.cellsOf 4=1:=by kernel_rfl
 have c2:Tryz.prog.cellsOf 2=1:=by kernel_rfl
 simp only [List.mapM_cons,List.mapM_nil,c1,c2,List.drop_zero,List.drop_succ_cons,List.take_succ_cons,List.take_zero,b,i _ w1,i _ w2,Option.pure_def,Option.bind_eq_bind,Option.bind_some,Option.map_some]
 rfl
theorem win_key_eq {x y:Wd} {b:Bool} (h:b=decide (x=y)):(b=true)↔wdLit x=wdLit y:=by
 subst h
 rw [decide_eq_true_iff]
 obtain ⟨a,n,u,k⟩:=x
 obtain ⟨a',n',u',k'⟩:=y
 simp [wdLit]
theorem may_64 {w:Wd} (h:w.may=true):w.in64:=by
 obtain ⟨a,n,u,k⟩:=w
 rw [may_mk,Bool.and_eq_true] at h
 have hm:=maxN_eq
 have h1:0≤n∧n<315569520000:=by
  cases a with
  | true=>have:=side_t h.1;omega
  | false=>have:=side_f h.1;omega
 have h2:0≤k∧k<315569520000:=by
  cases u with
  | true=>have:=side_t h.2;omega
  | false=>have:=side_f h.2;omega
 unfold Wd.in64
 dsimp only
 omega
theorem none_64:Wd.none.in64:=may_64 (by decide)
section
variable {G:Nat→Option (List D)}
end
theorem zeroT_C:treeC zeroT=[.v (.bool false),.v (.bool false),.sl 0 [],.sl 0 [],.sl 0 []]:=by
 unfold zeroT
 rw [treeC_mk]
 rfl
theorem zeroTg_C:tagC zeroTg=[.v (.int .u8 0),.sl 0 [],.sl 0 [],.v (.int .u8 0),.v (.bool false),.v (.bool false),.sl 0 [],.v (.bool false),.v (.bool false),.sl 0 []]:=by
 unfold zeroTg
 rw [tagC_eq]
 rfl
section
variable {G:Nat→Option (List D)}
end
def winO (w:Wd):List Tree:=if w=Wd.none then [] else [if w.may=true then w.val else zeroT]
section
variable {G:Nat→Option (List D)}
end
theorem zeroT_wt:zeroT.wt=1:=by
 unfold zeroT
 rw [Tree.wt_eq]
 rfl
theorem winV_wt (w:Wd):w.val.wt≤100:=by
 have e: ∀ (x:List UInt8) (n:Int),x.length≤10→(endV x n).wt≤32:=fun x n h=>by
  unfold endV
  rw [wt_listT]
  simp only [List.map_cons,List.map_nil,List.sum_cons,List.sum_nil,wt_atomT,dateS_len]
  omega
 have e1:=e wNB w.frm (by decide)
 have e2:=e wNA w.to (by decide)
 unfold Wd.val wdK
 rw [wt_listT,List.map_cons,List.sum_cons,wt_atomT,List.map_append,List.sum_append]
 have k1:((if w.aft=true then [endV wNB w.frm] else []).map Tree.wt).sum≤32:=by
  split
  ·simp only [List.map_cons,List.map_nil,List.sum_cons,List.sum_nil];omega
  ·simp
 have k2:((if w.unt=true then [endV wNA w.to] else []).map Tree.wt).sum≤32:=by
  split
  ·simp only [List.map_cons,List.map_nil,List.sum_cons,List.sum_nil];omega
  ·simp
 have k3:wValid.length=5:=rfl
 omega
theorem pairT_wt (w:List UInt8) (v:Tree):(pairT w v).wt=2+w.length+v.wt:=by
 unfold pairT
 rw [wt_listT]
 simp only [List.map_cons,List.map_nil,List.sum_cons,List.sum_nil,wt_atomT]
 omega
theorem propT_wt:propT.wt=11:=by
 unfold propT
 rw [wt_listT]
 simp only [List.map_cons,List.map_nil,List.sum_cons,List.sum_nil,wt_atomT]
 rfl
section
variable {G:Nat→Option (List D)}
end
def lenT:Nat→Nat→List UInt8→Nat × Nat × Nat
 | n,i,[]=>(n,i,0)
 | n,i,c::l=>if 48≤c.toNat∧c.toNat≤57 then (if 8<c.toNat-48∨(8-(c.toNat-48))/10<n then (0,0,4) else lenT (10*n+(c.toNat-48)) (i+1) l) else (n,i,0)
theorem lenT_C: ∀ (l:List UInt8) (n i:Nat),(lenT n i l).1=(lenC n l).getD 0
 | [],n,i=>rfl
 | c :: l,n,i=>by
  rw [lenT,lenC]
  split
  ·split
   ·rfl
   ·exact lenT_C l _ _
  ·rfl
def lenO (b:List UInt8):Nat × Nat × Nat:=match b with
 | []=>(0,0,2)
 | c::l=>if 48≤c.toNat∧c.toNat≤57 then (if c.toNat=48 then (0,1,0) else lenT 0 0 (c::l)) else (0,0,3)
theorem lenO_P (b:List UInt8):(lenO b).1=lenP b:=by
 unfold lenO lenP
 cases b with
 | nil=>rfl
 | cons c l =>
  dsimp only
  split
  ·split
   ·rfl
   ·exact lenT_C _ _ _
  ·rfl
section
variable {G:Nat→Option (List D)}
theorem getlen_m (b:List UInt8) (hb:b.length≤100000000):Spec Tryz.prog G 143 [.c (.sl b.length (b.map bD)),.c (.v (.int .i64 0)),.c (.v (.int .i64 8))] (.many [iD (lenO b).1,iD (lenO b).2.1,iD (lenO b).2.2]):=by
 unfold iD
 have p0:decide ((0:Int)<0)=false:=rfl
 have pn:decide ((0:Int)≥((0:Nat):Int))=true:=rfl
 by_cases hbn:b=[]
 ·subst hbn
  unfold lenO
  refine spec_of Tryz.func143 rfl rfl rfl (by kernel_rfl) rfl fun K=>?_
  (repeat' (first|with_reducible (first|refine zA fun Kn hK=>?_|refine zU ?_|refine Nx.go ?_|go_step)|with_reducible (first|refine zI ?_|refine zV ?_)|simp (maxSteps:=9^9) (disch:=omega) only [wq]|with_reducible refine zM (fun hb=>?_) (fun hb=>?_)<;>try simp only [hb]|with_reducible refine And.intro (by first|omega|(simp;done)|(simp;omega)) ?_|simp (maxSteps:=9^9) -implicitDefEqProofs only [go_sem,List.length_nil,decide_false,p0,pn,decide_true]))
  all_goals rfl
 obtain ⟨c,l,hbc⟩: ∃ c l,b=c::l:=by
  cases b with
  | nil=>exact (hbn rfl).elim
  | cons c l=>exact ⟨c,l,rfl⟩
 have hxl:=UInt8.toNat_lt c
 have hbl:0<b.length:=by rw [hbc];simp
 have p1:decide ((0:Int)≥(b.length:Int))=false:=by
  rw [decide_eq_false_iff_not]
  omega
 have z0:(b.map bD)[0]?=some (bD c):=by rw [hbc];rfl
 by_cases hd:48≤c.toNat∧c.toNat≤57
 ·have f1 : decide ((c.toNat:Int)<48)=false:=decide_eq_false (by omega)
  have f2:decide ((c.toNat:Int)>57)=false:=decide_eq_false (by omega)
  by_cases h0:c.toNat=48
  ·have e:lenO b=(0,1,0):=by
    rw [hbc]
    unfold lenO
    dsimp only
    rw [if_pos hd,if_pos h0]
   have f3:((c.toNat:Int)==48)=true:=by rw [h0];rfl
   rw [e]
   refine spec_of Tryz.func143 rfl rfl rfl (by kernel_rfl) rfl fun K=>?_
   (repeat' (first|with_reducible (first|refine zA fun Kn hK=>?_|refine zU ?_|refine Nx.go ?_|go_step)|with_reducible (first|refine zI ?_|refine zV ?_)|simp (maxSteps:=9^9) (disch:=omega) only [wq]|with_reducible refine zM (fun hb=>?_) (fun hb=>?_)<;>try simp only [hb]|with_reducible refine And.intro (by first|omega|(simp;done)|(simp;omega)) ?_|simp (maxSteps:=9^9) -implicitDefEqProofs only [go_sem,decide_false,p0,p1,z0,bD,f1,f2,f3,decide_true]))
   all_goals rfl
  ·have e:lenO b=lenT 0 0 b:=by
    rw [hbc]
    unfold lenO
    dsimp only
    rw [if_pos hd,if_neg h0]
   have f3:((c.toNat:Int)==48)=false:=by
    rw [beq_eq_false_iff_ne]
    omega
   rw [e]
   obtain ⟨R,hR⟩: ∃ R,R=lenT 0 0 b:=⟨_,rfl⟩
   rw [← hR]
   clear e hbc hbn
   refine spec_of Tryz.func143 rfl rfl rfl (by kernel_rfl) rfl fun K=>?_
   (repeat' (first|with_reducible (first|refine zA fun Kn hK=>?_|refine zU ?_|refine Nx.go ?_|go_step)|with_reducible (first|refine zI ?_|refine zV ?_)|simp (maxSteps:=9^9) (disch:=omega) only [wq]|with_reducible refine zM (fun hb=>?_) (fun hb=>?_)<;>try simp only [hb]|with_reducible refine And.intro (by first|omega|(simp;done)|(simp;omega)) ?_|simp (maxSteps:=9^9) -implicitDefEqProofs only [go_sem,decide_false,p0,p1,z0,bD,f1,f2,f3,decide_true]))
   refine sound_loopR (fun x:{p:Nat × Nat // p.2≤b.length∧p.1≤8∧R=lenT p.1 p.2 (b.drop p.2)}=>⟨[(0,vD (.sl b.length (b.map bD))),(1,vI 0),(2,vI 8),(9,vI x.1.1),(10,vI x.1.2)],[]⟩) (fun x=>b.length-x.1.2) ⟨(0,0),Nat.zero_le _,Nat.zero_le _,hR⟩ [] (by (iterate 2 ((try simp (maxSteps:=9^9) -implicitDefEqProofs only [go_sem,true_and]);(try simp (maxSteps:=9^9) (disch:=omega) only [wq])));try simp) (fun ⟨(n,i),hi,hn,he⟩=>?_)
   dsimp only at hi hn he
   by_cases hlt:i<b.length
   ·obtain ⟨x,hx⟩: ∃ x,b[i]?=some x:=⟨_,List.getElem?_eq_getElem hlt⟩
    have hb1:decide ((i:Int)<(b.length:Int))=true:=by simpa using hlt
    have hg:(b.map bD)[i]?=some (bD x):=by rw [List.getElem?_map,hx];rfl
    have hdr:b.drop i=x::b.drop (i+1):=by
     rw [List.drop_eq_getElem_cons hlt]
     rw [List.getElem?_eq_getElem hlt] at hx
     injection hx with hx
     rw [hx]
    rw [hdr,lenT] at he
    have hxl2:=UInt8.toNat_lt x
    by_cases hdx:48≤x.toNat∧x.toNat≤57
    ·have g1:decide ((x.toNat:Int)≥48)=true:=decide_eq_true (by omega)
     have g2:decide ((x.toNat:Int)≤57)=true:=decide_eq_true (by omega)
     rw [if_pos hdx] at he
     obtain ⟨d,hd9⟩: ∃ d,d=x.toNat-48:=⟨_,rfl⟩
     rw [← hd9] at he
     have hdd:(x.toNat:Int)-48=(d:Int):=by omega
     have hd10:d≤9:=by omega
     have w1:IntKind.u8.wrap ((x.toNat:Int)-48)=(d:Int):=by
      rw [hdd]
      exact IntWalk.u8_in _ (by omega)
     have w2:IntKind.i64.wrap ((8-(d:Int)).tdiv 10)=0:=by
      have:d=0∨d=1∨d=2∨d=3∨d=4∨d=5∨d=6∨d=7∨d=8∨d=9:=by omega
      rcases this with rfl|rfl|rfl|rfl|rfl|rfl|rfl|rfl|rfl|rfl<;>rfl
     have w3:(8-d)/10=0:=by omega
     rw [w3] at he
     by_cases hn0:0<n
     ·have g3:decide ((n:Int)>IntKind.i64.wrap ((8-(d:Int)).tdiv 10))=true:=by
       rw [w2]
       exact decide_eq_true (by omega)
      rw [if_pos (.inr hn0)] at he
      subst he
      have k3: ∀ {p:Prop},decide ((n:Int)>IntKind.i64.wrap ((8-(d:Int)).tdiv 10))=false→p:=fun h=>absurd (h.symm.trans g3) (by decide)
      (repeat' (first|with_reducible (first|refine zA fun Kn hK=>?_|refine zU ?_|refine Nx.go ?_|go_step)|with_reducible (first|refine zI ?_|refine zV ?_)|simp (maxSteps:=9^9) (disch:=omega) only [wq]|with_reducible refine zM (fun hb=>?_) (fun hb=>?_)<;>try simp only [hb]|with_reducible refine And.intro (by first|omega|(simp;done)|(simp;omega)) ?_|simp (maxSteps:=9^9) -implicitDefEqProofs only [go_sem,hb1,hg,bD,g1,g2,w1,List.length_map,decide_true]))
      all_goals first|rfl|exact k3 (by assumption)
     ·obtain rfl:n=0:=by omega
      have g3:decide (((0:Nat):Int)>IntKind.i64.wrap ((8-(d:Int)).tdiv 10))=false:=by
       rw [w2]
       rfl
      have k3: ∀ {p:Prop},decide (((0:Nat):Int)>IntKind.i64.wrap ((8-(d:Int)).tdiv 10))=true→p:=fun h=>absurd (h.symm.trans g3) (by decide)
      by_cases h9:8<d
      ·have g4:decide (8<(d:Int))=true:=decide_eq_true (by omega)
       rw [if_pos (.inl h9)] at he
       subst he
       have k4: ∀ {p:Prop},decide (8<(d:Int))=false→p:=fun h=>absurd (h.symm.trans g4) (by decide)
       (repeat' (first|with_reducible (first|refine zA fun Kn hK=>?_|refine zU ?_|refine Nx.go ?_|go_step)|with_reducible (first|refine zI ?_|refine zV ?_)|simp (maxSteps:=9^9) (disch:=omega) only [wq]|with_reducible refine zM (fun hb=>?_) (fun hb=>?_)<;>try simp only [hb]|with_reducible refine And.intro (by first|omega|(simp;done)|(simp;omega)) ?_|simp (maxSteps:=9^9) -implicitDefEqProofs only [go_sem,hb1,hg,bD,g1,g2,w1,List.length_map,decide_true]))
       all_goals first|rfl|exact k3 (by assumption)|exact k4 (by assumption)
      ·have g4:decide (8<(d:Int))=false:=decide_eq_false (by omega)
       rw [if_neg (by omega)] at he
       have w4:10*0+d=d:=by omega
       rw [w4] at he
       have k4: ∀ {p:Prop},decide (8<(d:Int))=true→p:=fun h=>absurd (h.symm.trans g4) (by decide)
       (repeat' (first|with_reducible (first|refine zA fun Kn hK=>?_|refine zU ?_|refine Nx.go ?_|go_step)|with_reducible (first|refine zI ?_|refine zV ?_)|simp (maxSteps:=9^9) (disch:=omega) only [wq]|with_reducible refine zM (fun hb=>?_) (fun hb=>?_)<;>try simp only [hb]|with_reducible refine And.intro (by first|omega|(simp;done)|(simp;omega)) ?_|simp (maxSteps:=9^9) -implicitDefEqProofs only [go_sem,hb1,hg,bD,g1,g2,w1,List.length_map,decide_true]))
       all_goals try first|exact k3 (by assumption)|exact k4 (by assumption)
       refine ⟨[],⟨(d,i+1),by omega,by omega,he⟩,?_⟩
       (iterate 2 ((try simp (maxSteps:=9^9) -implicitDefEqProofs only [go_sem,true_and]);(try simp (maxSteps:=9^9) (disch:=omega) only [wq])))
       try (simp only [ijq,true_and,and_true];first|done|omega|(split<;>omega)|(simp;done)|(simp;omega))
       all_goals trace_state
    ·rw [if_neg hdx] at he
     subst he
     by_cases hlo:48≤x.toNat
     ·have g1:decide ((x.toNat:Int)≥48)=true:=decide_eq_true (by omega)
      have g2:decide ((x.toNat:Int)≤57)=false:=decide_eq_false (by omega)
      (repeat' (first|with_reducible (first|refine zA fun Kn hK=>?_|refine zU ?_|refine Nx.go ?_|go_step)|with_reducible (first|refine zI ?_|refine zV ?_)|simp (maxSteps:=9^9) (disch:=omega) only [wq]|with_reducible refine zM (fun hb=>?_) (fun hb=>?_)<;>try simp only [hb]|with_reducible refine And.intro (by first|omega|(simp;done)|(simp;omega)) ?_|simp (maxSteps:=9^9) -implicitDefEqProofs only [go_sem,hb1,hg,bD,g1,g2,List.length_map,decide_true]))
      all_goals rfl
     ·have g1:decide ((x.toNat:Int)≥48)=false:=decide_eq_false (by omega)
      (repeat' (first|with_reducible (first|refine zA fun Kn hK=>?_|refine zU ?_|refine Nx.go ?_|go_step)|with_reducible (first|refine zI ?_|refine zV ?_)|simp (maxSteps:=9^9) (disch:=omega) only [wq]|with_reducible refine zM (fun hb=>?_) (fun hb=>?_)<;>try simp only [hb]|with_reducible refine And.intro (by first|omega|(simp;done)|(simp;omega)) ?_|simp (maxSteps:=9^9) -implicitDefEqProofs only [go_sem,hb1,hg,bD,g1,List.length_map,decide_true]))
      all_goals rfl
   ·have hb1:decide ((i:Int)<(b.length:Int))=false:=by simpa using hlt
    have hdr:b.drop i=[]:=List.drop_of_length_le (by omega)
    rw [hdr,lenT] at he
    subst he
    (repeat' (first|with_reducible (first|refine zA fun Kn hK=>?_|refine zU ?_|refine Nx.go ?_|go_step)|with_reducible (first|refine zI ?_|refine zV ?_)|simp (maxSteps:=9^9) (disch:=omega) only [wq]|with_reducible refine zM (fun hb=>?_) (fun hb=>?_)<;>try simp only [hb]|with_reducible refine And.intro (by first|omega|(simp;done)|(simp;omega)) ?_|simp (maxSteps:=9^9) -implicitDefEqProofs only [go_sem,hb1,decide_true]))
    all_goals rfl
 ·have e:lenO b=(0,0,3):=by
   rw [hbc]
   unfold lenO
   dsimp only
   rw [if_neg hd]
  rw [e]
  by_cases hlo:48≤c.toNat
  ·have f1:decide ((c.toNat:Int)<48)=false:=decide_eq_false (by omega)
   have f2:decide ((c.toNat:Int)>57)=true:=decide_eq_true (by omega)
   refine spec_of Tryz.func143 rfl rfl rfl (by kernel_rfl) rfl fun K=>?_
   (repeat' (first|with_reducible (first|refine zA fun Kn hK=>?_|refine zU ?_|refine Nx.go ?_|go_step)|with_reducible (first|refine zI ?_|refine zV ?_)|simp (maxSteps:=9^9) (disch:=omega) only [wq]|with_reducible refine zM (fun hb=>?_) (fun hb=>?_)<;>try simp only [hb]|with_reducible refine And.intro (by first|omega|(simp;done)|(simp;omega)) ?_|simp (maxSteps:=9^9) -implicitDefEqProofs only [go_sem,decide_false,p0,p1,z0,bD,f1,f2,decide_true]))
   all_goals rfl
  ·have f1:decide ((c.toNat:Int)<48)=true:=decide_eq_true (by omega)
   refine spec_of Tryz.func143 rfl rfl rfl (by kernel_rfl) rfl fun K=>?_
   (repeat' (first|with_reducible (first|refine zA fun Kn hK=>?_|refine zU ?_|refine Nx.go ?_|go_step)|with_reducible (first|refine zI ?_|refine zV ?_)|simp (maxSteps:=9^9) (disch:=omega) only [wq]|with_reducible refine zM (fun hb=>?_) (fun hb=>?_)<;>try simp only [hb]|with_reducible refine And.intro (by first|omega|(simp;done)|(simp;omega)) ?_|simp (maxSteps:=9^9) -implicitDefEqProofs only [go_sem,decide_false,p0,p1,z0,bD,f1,decide_true]))
   all_goals rfl
end
section
variable {G:Nat→Option (List D)}
theorem sread_m: ∀ v:Tree,∀ (cs:List D) (k:Nat),treeC v=cs→v.wt≤30000000→k≤4→Spec Tryz.prog G 121 [.g cs,.c (.v (.int .i64 (k:Int)))] (.one (.g (sbC (readS v k)))):=Tree.ind fun v ih cs k hcs hw hk4=>by
 subst hcs
 have hk:=kget_m (G:=G) v rfl hw
 have h5:=v.wt_kids
 have hkw: ∀ x∈v.kids,x.wt<v.wt:=fun x hx=>Tree.wt_kid hx
 rw [readS_eq]
 cases hg:getK v with
 | some p =>
  obtain ⟨s,d⟩:=p
  rw [hg] at hk
  rw [show keyD (some (s,d))=[.v (.bool s),bytesD d] from rfl,show (if (some (s,d)).isSome=true then (0:Int) else 7)=0 from rfl] at hk
  dsimp only
  rw [sbC_mk]
  rw [treeC_eq] at hk ⊢
  unfold bD bytesD at *
  refine spec_of Tryz.func121 rfl rfl rfl (by kernel_rfl) rfl fun K=>?_
  (repeat' (first|with_reducible (first|refine zA fun Kn hK=>?_|refine zU ?_|refine Nx.go ?_|go_step)|refine ⟨_,hk,?_⟩|with_reducible (first|refine zI ?_|refine zV ?_)|simp (maxSteps:=9^9) (disch:=omega) only [wq]|with_reducible refine zM (fun hb=>?_) (fun hb=>?_)<;>try simp only [hb]|with_reducible refine And.intro (by first|omega|(simp;done)|(simp;omega)) ?_|simp (maxSteps:=9^9) -implicitDefEqProofs only [go_sem,decide_true]))
  all_goals rfl
 | none =>
  rw [hg] at hk
  rw [show keyD none=[.v (.bool false),bytesD []] from rfl,show (if (none:Option (Bool × List UInt8)).isSome=true then (0:Int) else 7)=7 from rfl] at hk
  dsimp only
  by_cases h3:v.kids.length<3
  ·have p3:decide ((v.kids.length:Int)<3)=true:=decide_eq_true (by omega)
   rw [if_pos h3,show Sb.none= .mk 0 false [] [] 0 [] from rfl,sbC_mk]
   rw [treeC_eq] at hk ⊢
   unfold bD bytesD at *
   refine spec_of Tryz.func121 rfl rfl rfl (by kernel_rfl) rfl fun K=>?_
   (repeat' (first|with_reducible (first|refine zA fun Kn hK=>?_|refine zU ?_|refine Nx.go ?_|go_step)|refine ⟨_,hk,?_⟩|with_reducible (first|refine zI ?_|refine zV ?_)|simp (maxSteps:=9^9) (disch:=omega) only [wq]|with_reducible refine zM (fun hb=>?_) (fun hb=>?_)<;>try simp only [hb]|with_reducible refine And.intro (by first|omega|(simp;done)|(simp;omega)) ?_|simp (maxSteps:=9^9) -implicitDefEqProofs only [go_sem,p3,decide_true]))
   all_goals rfl
  ·rw [if_neg h3]
   have ev:=treeC_eq v
   rw [ev] at hk ⊢
   clear ev
   have kid0:v.kid 0=v.kids.getD 0 zeroT:=rfl
   have kid1:v.kid 1=v.kids.getD 1 zeroT:=rfl
   rw [kid0,kid1]
   clear kid0 kid1
   generalize v.kids=L at *
   obtain ⟨a,b,c,l,rfl⟩: ∃ a b c l,L=a::b::c::l:=by
    match L,h3 with
    | a::b::c::l,_=>exact ⟨a,b,c,l,rfl⟩
    | [],h=>exact absurd (by decide:([]:List Tree).length<3) h
    | [_],h=>exact absurd (by decide:1<3) h
    | [_,_],h=>exact absurd (by decide:2<3) h
   have hb:=kget_m (G:=G) b rfl (by have:=hkw b (by simp);omega)
   have hbd:b.data.length≤30000000:=by
    have:=hkw b (by simp)
    have:=b.wt_data
    omega
   have ihl: ∀ x∈c::l,∀ (cs:List D) (k:Nat),treeC x=cs→x.wt≤30000000→k≤4→Spec Tryz.prog G 121 [.g cs,.c (.v (.int .i64 (k:Int)))] (.one (.g (sbC (readS x k)))):=fun x hx=>ih x (by simp only [List.mem_cons] at hx ⊢;right;right;exact hx)
   have hml:(c::l).length≤30000000:=by
    simp only [List.length_cons] at h5 ⊢
    omega
   have hmw: ∀ x∈c::l,x.wt≤30000000:=fun x hx=>by
    have:=hkw x (by simp only [List.mem_cons] at hx ⊢;right;right;exact hx)
    omega
   have p3:decide (((l.length+1+1+1:Nat):Int)<3)=false:=by
    rw [decide_eq_false_iff_not]
    omega
   have q1:(a.data==[110,97,109,101])=decide (a.data=tName):=by
    by_cases h:a.data=tName
    ·rw [decide_eq_true h,h];rfl
    ·rw [decide_eq_false h,beq_eq_false_iff_ne];exact h
   rw [show (a::b::c::l).getD 0 zeroT=a from rfl,show (a::b::c::l).getD 1 zeroT=b from rfl,show (a::b::c::l).drop 2=c::l from rfl,show (a::b::c::l).drop 3=l from rfl]
   clear hkw ih h5
   by_cases c1:a.data=tName
   ·rw [if_pos c1]
    rw [decide_eq_true c1] at q1
    rw [sbC_mk]
    obtain ⟨s,d,hsd⟩: ∃ s d,(getK b).getD (false,[])=(s,d):=⟨_,_,rfl⟩
    have hsd2:keyD (getK b)=[.v (.bool s),bytesD d]:=by
     rw [keyD,keyC]
     cases hgb:getK b with
     | none =>
      rw [hgb] at hsd
      injection hsd with h1 h2
      subst h1 h2
      rfl
     | some q =>
      rw [hgb] at hsd
      simp only [Option.getD_some] at hsd
      subst hsd
      rfl
    rw [hsd2] at hb
    rw [hsd]
    generalize (if (getK b).isSome=true then (0:Int) else 7)=eb at *
    have hma: ∀ x∈c::l,x.data.length≤30000000:=fun x hx=>by
     have:=hmw x hx
     have:=x.wt_data
     omega
    simp only [List.flatMap_cons,treeC_eq a,treeC_eq b,List.cons_append,List.nil_append,List.length_cons] at hk ⊢
    rw [show treeC c++l.flatMap treeC=(c::l).flatMap treeC from rfl] at hk ⊢
    rw [treeC_eq b] at hb
    have hl1:l.length+1=(c::l).length:=rfl
    rw [hl1] at hk
    rw [hl1] at p3
    rw [hl1]
    clear hl1
    generalize c::l=m at *
    unfold bD bytesD at *
    refine spec_of Tryz.func121 rfl rfl rfl (by kernel_rfl) rfl fun K=>?_
    (repeat' (first|with_reducible (first|refine zA fun Kn hK=>?_|refine zU ?_|refine Nx.go ?_|go_step)|refine ⟨_,hk,?_⟩|refine ⟨_,hb,?_⟩|with_reducible (first|refine zI ?_|refine zV ?_)|simp (maxSteps:=9^9) (disch:=omega) only [wq]|with_reducible refine zM (fun hb=>?_) (fun hb=>?_)<;>try simp only [hb]|with_reducible refine And.intro (by first|omega|(simp;done)|(simp;omega)) ?_|simp (maxSteps:=9^9) -implicitDefEqProofs only [go_sem,p3,q1,List.length_cons,decide_true]))
    refine sound_voidC 7 3 1000 1 22 (by rfl) (by rfl) (by rfl) (by rfl) ?_
    refine sound_loopR (fun x:{k:Nat // k≤m.length}=>⟨[(4,vP 4 0),(7,vP 7 0),(46,vD (.sl m.length (m.flatMap treeC))),(47,vI m.length),(48,vI x.1)],[(4,some ⟨28,zeroOf Tryz.prog 28,true,false⟩),(7,some ⟨28,[.d (.v (.int .u8 2)),.d (.v (.bool s)),.d (.sl d.length (d.map bD)),.row 1000 1 0 x.1 .grow,.d (.v (.int .i64 0)),.nil],true,false⟩),(1000,some ⟨22,((m.take x.1).map fun y=>D.sl y.data.length (y.data.map bD)).map C.d,false,false⟩)]⟩) (fun x=>m.length-x.1) ⟨0,by omega⟩ [] (by (iterate 2 ((try simp (maxSteps:=9^9) -implicitDefEqProofs only [go_sem,bD,List.take_zero,List.flatMap_nil,List.map_nil]);(try simp (maxSteps:=9^9) (disch:=omega) only [wq])));try simp;exact List.take_of_length_le (by rw [treeC_flen];exact Nat.le_refl _)) (fun ⟨k,hk⟩=>?_)
    by_cases hlt:k<m.length
    ·obtain ⟨x,hx⟩: ∃ x,m[k]?=some x:=⟨_,List.getElem?_eq_getElem hlt⟩
     have hb:decide ((k:Int)<(m.length:Int))=true:=by simpa using hlt
     have hm:=List.mem_of_getElem? hx
     have ht:((m.take (k+1)).map fun y=>D.sl y.data.length (y.data.map bD))=((m.take k).map fun y=>D.sl y.data.length (y.data.map bD))++[D.sl x.data.length (x.data.map bD)]:=by
      rw [List.take_add_one,hx,List.map_append]
      rfl
     have hlen:((m.take k).map fun y=>D.sl y.data.length (y.data.map bD)).length=k:=by
      rw [List.length_map,List.length_take,Nat.min_eq_left hk]
     have hxv:=bclone_m (G:=G) x.data (by have:=hma x hm;omega)
     have hf:=flat_at treeC_len hx
     rw [treeC_eq x] at hf
     unfold bytesD at hxv hf
     generalize ((m.take k).map fun y=>D.sl y.data.length (y.data.map bD))=W at *
     (repeat' (first|with_reducible (first|refine zA fun Kn hK=>?_|refine zU ?_|refine Nx.go ?_|go_step)|refine ⟨_,hxv,?_⟩|with_reducible (first|refine zI ?_|refine zV ?_)|simp (maxSteps:=9^9) (disch:=omega) only [wq]|with_reducible refine zM (fun hb=>?_) (fun hb=>?_)<;>try simp only [hb]|with_reducible refine And.intro (by first|omega|(simp;done)|(simp;omega)) ?_|simp (maxSteps:=9^9) -implicitDefEqProofs only [go_sem,hb,rep1,hlen,List.length_map,true_and,Nat.le_refl,List.append_nil,Nat.mul_one,hf]))
     refine ⟨[(1000,58)],⟨k+1,hlt⟩,?_⟩
     rw [ht]
     (iterate 2 ((try simp (maxSteps:=9^9) -implicitDefEqProofs only [go_sem,bD]);(try simp (maxSteps:=9^9) (disch:=omega) only [wq])))
     (simp only [ijq,true_and,and_true];first|done|omega|(split<;>omega)|(simp;done)|(simp;omega))
    ·have hb:decide ((k:Int)<(m.length:Int))=false:=by simpa using hlt
     obtain rfl:k=m.length:=by omega
     rw [List.take_length]
     (repeat' (first|with_reducible (first|refine zA fun Kn hK=>?_|refine zU ?_|refine Nx.go ?_|go_step)|with_reducible (first|refine zI ?_|refine zV ?_)|simp (maxSteps:=9^9) (disch:=omega) only [wq]|with_reducible refine zM (fun hb=>?_) (fun hb=>?_)<;>try simp only [hb]|with_reducible refine And.intro (by first|omega|(simp;done)|(simp;omega)) ?_|simp (maxSteps:=9^9) -implicitDefEqProofs only [go_sem,hb,List.length_map,Nat.mul_one]))
     all_goals (rw [List.map_map];rfl)
   ·rw [if_neg c1]
    rw [decide_eq_false c1] at q1
    by_cases c2:3<k
    ·have p4:decide ((k:Int)>3)=true:=by
      rw [decide_eq_true_iff]
      omega
     rw [if_pos c2,show Sb.none= .mk 0 false [] [] 0 [] from rfl,sbC_mk]
     simp only [List.flatMap_cons,treeC_eq a,List.cons_append,List.nil_append,List.length_cons] at hk ⊢
     unfold bD bytesD at *
     refine spec_of Tryz.func121 rfl rfl rfl (by kernel_rfl) rfl fun K=>?_
     (repeat' (first|with_reducible (first|refine zA fun Kn hK=>?_|refine zU ?_|refine Nx.go ?_|go_step)|refine ⟨_,hk,?_⟩|with_reducible (first|refine zI ?_|refine zV ?_)|simp (maxSteps:=9^9) (disch:=omega) only [wq]|with_reducible refine zM (fun hb=>?_) (fun hb=>?_)<;>try simp only [hb]|with_reducible refine And.intro (by first|omega|(simp;done)|(simp;omega)) ?_|simp (maxSteps:=9^9) -implicitDefEqProofs only [go_sem,p3,p4,q1,List.length_cons,decide_true]))
     all_goals rfl
    ·have p4:decide ((k:Int)>3)=false:=by
      rw [decide_eq_false_iff_not]
      omega
     rw [if_neg c2,sbC_mk]
     have hgl:=getlen_m (G:=G) b.data (by omega)
     rw [lenO_P] at hgl
     unfold iD at hgl
     generalize (lenO b.data).2.1=g1 at *
     generalize (lenO b.data).2.2=g2 at *
     generalize lenP b.data=N at *
     simp only [List.flatMap_cons,treeC_eq a,treeC_eq b,treeC_eq c,List.cons_append,List.nil_append,List.length_cons] at hk ⊢
     have hll:l.length≤30000000:=by
      simp only [List.length_cons] at hml
      omega
     have hil: ∀ x∈l,Spec Tryz.prog G 121 [.g (treeC x),.c (.v (.int .i64 ((k:Int)+1)))] (.one (.g (sbC (readS x (k+1))))):=fun x hx=>by
      have:=ihl x (by simp only [List.mem_cons];right;exact hx) _ (k+1) rfl (hmw x (by simp only [List.mem_cons];right;exact hx)) (by omega)
      rwa [show ((k+1:Nat):Int)=(k:Int)+1 from by omega] at this
     clear ihl hmw hb hml
     unfold bD bytesD at *
     refine spec_of Tryz.func121 rfl rfl rfl (by kernel_rfl) rfl fun K=>?_
     (repeat' (first|with_reducible (first|refine zA fun Kn hK=>?_|refine zU ?_|refine Nx.go ?_|go_step)|refine ⟨_,hk,?_⟩|refine ⟨_,hgl,?_⟩|with_reducible (first|refine zI ?_|refine zV ?_)|simp (maxSteps:=9^9) (disch:=omega) only [wq]|with_reducible refine zM (fun hb=>?_) (fun hb=>?_)<;>try simp only [hb]|with_reducible refine And.intro (by first|omega|(simp;done)|(simp;omega)) ?_|simp (maxSteps:=9^9) -implicitDefEqProofs only [go_sem,p3,p4,q1,List.length_cons,decide_true]))
     refine sound_voidC 10 5 1000 6 28 (by rfl) (by rfl) (by rfl) (by rfl) ?_
     refine sound_loopR (fun x:{j:Nat // j≤l.length}=>⟨[(1,vI k),(4,vP 4 0),(10,vP 10 0),(79,vD (.sl l.length (l.flatMap treeC))),(80,vI l.length),(81,vI x.1)],[(4,some ⟨28,zeroOf Tryz.prog 28,true,false⟩),(10,some ⟨28,[.d (.v (.int .u8 3)),.d (.v (.bool false)),.nil,.nil,.d (.v (.int .i64 N)),.row 1000 6 0 x.1 .grow],true,false⟩),(1000,some ⟨28,((l.take x.1).flatMap fun y=>sbC (readS y (k+1))).map C.d,false,false⟩)]⟩) (fun x=>l.length-x.1) ⟨0,by omega⟩ [] (by (iterate 2 ((try simp (maxSteps:=9^9) -implicitDefEqProofs only [go_sem,bD,List.take_zero,List.flatMap_nil,List.map_nil]);(try simp (maxSteps:=9^9) (disch:=omega) only [wq])));try simp;exact List.take_of_length_le (by rw [treeC_flen];exact Nat.le_refl _)) (fun ⟨j,hj⟩=>?_)
     by_cases hlt:j<l.length
     ·obtain ⟨x,hx⟩: ∃ x,l[j]?=some x:=⟨_,List.getElem?_eq_getElem hlt⟩
      have hb:decide ((j:Int)<(l.length:Int))=true:=by simpa using hlt
      have hm:=List.mem_of_getElem? hx
      have ht:((l.take (j+1)).flatMap fun y=>sbC (readS y (k+1)))=((l.take j).flatMap fun y=>sbC (readS y (k+1)))++sbC (readS x (k+1)):=by
       rw [List.take_add_one,hx,List.flatMap_append]
       simp
      have hlen:((l.take j).flatMap fun y=>sbC (readS y (k+1))).length=j*6:=by
       rw [show ((l.take j).flatMap fun y=>sbC (readS y (k+1)))=((l.take j).map fun y=>readS y (k+1)).flatMap sbC from by rw [List.flatMap_map],sbC_flen,List.length_map,List.length_take,Nat.min_eq_left hj]
      have hxv:=hil x hm
      have hf:=flat_at treeC_len hx
      rw [treeC_eq x] at hf hxv
      unfold bytesD at hxv hf
      generalize ((l.take j).flatMap fun y=>sbC (readS y (k+1)))=W at *
      (repeat' (first|with_reducible (first|refine zA fun Kn hK=>?_|refine zU ?_|refine Nx.go ?_|go_step)|refine ⟨_,hxv,?_⟩|with_reducible (first|refine zI ?_|refine zV ?_)|simp (maxSteps:=9^9) (disch:=omega) only [wq]|with_reducible refine zM (fun hb=>?_) (fun hb=>?_)<;>try simp only [hb]|with_reducible refine And.intro (by first|omega|(simp;done)|(simp;omega)) ?_|simp (maxSteps:=9^9) -implicitDefEqProofs only [go_sem,hb,rep1,hlen,List.length_map,true_and,Nat.le_refl,List.append_nil,hf]))
      refine ⟨[(1000,92)],⟨j+1,hlt⟩,?_⟩
      rw [ht]
      (iterate 2 ((try simp (maxSteps:=9^9) -implicitDefEqProofs only [go_sem,bD]);(try simp (maxSteps:=9^9) (disch:=omega) only [wq])))
      (simp only [ijq,true_and,and_true];first|done|omega|(split<;>omega)|(simp;done)|(simp;omega))
     ·have hb:decide ((j:Int)<(l.length:Int))=false:=by simpa using hlt
      obtain rfl:j=l.length:=by omega
      rw [List.take_length]
      have hlen:(l.flatMap fun y=>sbC (readS y (k+1))).length=l.length*6:=by
       rw [show (l.flatMap fun y=>sbC (readS y (k+1)))=(l.map fun y=>readS y (k+1)).flatMap sbC from by rw [List.flatMap_map],sbC_flen,List.length_map]
      (repeat' (first|with_reducible (first|refine zA fun Kn hK=>?_|refine zU ?_|refine Nx.go ?_|go_step)|with_reducible (first|refine zI ?_|refine zV ?_)|simp (maxSteps:=9^9) (disch:=omega) only [wq]|with_reducible refine zM (fun hb=>?_) (fun hb=>?_)<;>try simp only [hb]|with_reducible refine And.intro (by first|omega|(simp;done)|(simp;omega)) ?_|simp (maxSteps:=9^9) -implicitDefEqProofs only [go_sem,hb,hlen,List.length_map]))
      all_goals (rw [List.flatMap_map];rfl)
end
def Tree.sm (t:Tree):Prop:=t.clean=true∧t.nodes≤512∧t.form.length≤4096
theorem may_sm {t:Tree} (h:t.may=true):t.sm:=by
 unfold Tree.may at h
 simp only [Bool.and_eq_true,decide_eq_true_eq] at h
 exact ⟨h.1.1.1,h.1.1.2,h.2⟩
theorem len_nodes (l:List Tree):l.length≤(l.map Tree.nodes).sum:=by
 induction l with
 | nil=>simp
 | cons x l ih =>
  have:1≤x.nodes:=by rw [Tree.nodes_eq];omega
  simp only [List.map_cons,List.sum_cons,List.length_cons]
  omega
theorem mem_nodes {l:List Tree} {x:Tree} (h:x∈l):x.nodes≤(l.map Tree.nodes).sum:=by
 induction l with
 | nil=>cases h
 | cons y l ih =>
  simp only [List.map_cons,List.sum_cons]
  rcases List.mem_cons.1 h with rfl|h
  ·omega
  ·have:=ih h;omega
theorem mem_form {l:List Tree} {x:Tree} (h:x∈l):x.form.length≤(l.map Tree.form).flatten.length:=by
 induction l with
 | nil=>cases h
 | cons y l ih =>
  simp only [List.map_cons,List.flatten_cons,List.length_append]
  rcases List.mem_cons.1 h with rfl|h
  ·omega
  ·have:=ih h;omega
theorem fair_atom {t:Tree} (h:t.fair=true) (hl:t.list=false):t.kids=[]:=by
 unfold Tree.fair at h
 rw [hl] at h
 simp at h
 exact h.1
theorem fair_data {t:Tree} (h:t.fair=true) (hl:t.list=true):t.data=[]:=by
 unfold Tree.fair at h
 rw [hl] at h
 simp at h
 exact h.2
theorem Tree.sm.kids {t:Tree} (h:t.sm):t.kids.length≤512:=by
 have h1:=h.2.1
 have h2:=len_nodes t.kids
 rw [Tree.nodes_eq] at h1
 omega
theorem Tree.sm.kid {t x:Tree} (h:t.sm) (hx:x∈t.kids):x.sm:=by
 obtain ⟨hc,hn,hf⟩:=h
 refine ⟨kid_clean' hc hx,?_,?_⟩
 ·rw [Tree.nodes_eq] at hn
  have:=mem_nodes hx
  omega
 ·rw [Tree.form_eq] at hf
  by_cases hl:t.list=true
  ·rw [if_pos hl] at hf
   have:=mem_form hx
   simp only [List.length_append,List.length_singleton] at hf
   omega
  ·have hk:=(fair_atom (clean_fair' hc) (by simpa using hl))
   rw [hk] at hx
   cases hx
theorem Tree.sm.data {t:Tree} (h:t.sm):t.data.length≤4096:=by
 obtain ⟨hc,hn,hf⟩:=h
 rw [Tree.form_eq] at hf
 by_cases hl:t.list=true
 ·rw [fair_data (clean_fair' hc) hl]
  simp
 ·rw [if_neg hl,Tree.atomF,List.length_append] at hf
  have:(textB t.data).length=(dec t.data.length).length+1+t.data.length:=by
   rw [textB,List.length_append,List.length_append]
   rfl
  omega
theorem getK_kd {v:Tree} {s:Bool} {d:List UInt8} (h:getK v=some (s,d)):d.length≤64:=by
 have:=(getK_iff.1 h).1
 unfold keyMay at this
 cases s<;>simp at this<;>omega
theorem readS_fit: ∀ v:Tree,∀ k:Nat,v.sm→(readS v k).fit:=Tree.ind fun v ih k hs=>by
 rw [readS_eq]
 cases hg:getK v with
 | some p =>
  obtain ⟨s,d⟩:=p
  have:=getK_kd hg
  dsimp only
  rw [Sb.fit_eq]
  exact ⟨⟨Nat.zero_le _,Nat.zero_le _,by show d.length≤5000;omega,fun n hn=>by cases hn⟩,fun x hx=>by cases hx⟩
 | none =>
  dsimp only
  have hkl:=hs.kids
  split
  ·rw [Sb.fit_eq]
   exact ⟨⟨Nat.zero_le _,Nat.zero_le _,Nat.zero_le _,fun n hn=>by cases hn⟩,fun x hx=>by cases hx⟩
  split
  ·rw [Sb.fit_eq]
   refine ⟨⟨Nat.zero_le _,?_,?_,?_⟩,fun x hx=>by cases hx⟩
   ·show ((v.kids.drop 2).map Tree.data).length≤1000
    rw [List.length_map,List.length_drop]
    omega
   ·show ((getK (v.kid 1)).getD (false,[])).2.length≤5000
    cases hb:getK (v.kid 1) with
    | none=>simp
    | some p =>
     obtain ⟨s,d⟩:=p
     have:=getK_kd hb
     show d.length≤5000
     omega
   ·intro n hn
    have hn:n∈(v.kids.drop 2).map Tree.data:=hn
    obtain ⟨x,hx,rfl⟩:=List.mem_map.1 hn
    have:=(hs.kid (List.mem_of_mem_drop hx)).data
    omega
  split
  ·rw [Sb.fit_eq]
   exact ⟨⟨Nat.zero_le _,Nat.zero_le _,Nat.zero_le _,fun n hn=>by cases hn⟩,fun x hx=>by cases hx⟩
  ·rw [Sb.fit_eq]
   refine ⟨⟨?_,Nat.zero_le _,Nat.zero_le _,fun n hn=>by cases hn⟩,?_⟩
   ·show ((v.kids.drop 3).map fun x=>readS x (k+1)).length≤1000
    rw [List.length_map,List.length_drop]
    omega
   ·intro x hx
    have hx:x∈(v.kids.drop 3).map fun x=>readS x (k+1):=hx
    obtain ⟨y,hy,rfl⟩:=List.mem_map.1 hx
    exact ih y (List.mem_of_mem_drop hy) _ (hs.kid (List.mem_of_mem_drop hy))
section
variable {G:Nat→Option (List D)}
noncomputable def sbgetD (v:Tree):DR:= .many [.g (sbC ((getSb v).getD Sb.none)),.c (.v (.int .i64 (if (getSb v).isSome=true then 0 else 7)))]
theorem sbget_m (hG:G 0=some powD) (v:Tree) {cs:List D} (hcs:treeC v=cs) (hw:v.wt≤30000000):Spec Tryz.prog G 99 [.g cs] (sbgetD v):=by
 subst hcs
 have h1:=sxmay_m (G:=G) hG v rfl hw
 obtain ⟨e1,e2⟩:=getS_eq v
 have hz:sbC Sb.none=[.v (.int .u8 0),.v (.bool false),.sl 0 [],.sl 0 [],.v (.int .i64 0),.sl 0 []]:=by
  rw [show Sb.none= .mk 0 false [] [] 0 [] from rfl,sbC_mk]
  rfl
 unfold sbgetD
 cases hm:v.may with
 | false =>
  rw [hm] at h1
  have hn:getSb v=none:=by
   unfold getSb
   rw [hm]
   rfl
  rw [hn]
  rw [show (none:Option Sb).getD Sb.none=Sb.none from rfl,show (if (none:Option Sb).isSome=true then (0:Int) else 7)=7 from rfl,hz]
  rw [treeC_eq] at h1 ⊢
  unfold bytesD at *
  refine spec_of Tryz.func99 rfl rfl rfl (by kernel_rfl) rfl fun K=>?_
  (repeat' (first|with_reducible (first|refine zA fun Kn hK=>?_|refine zU ?_|refine Nx.go ?_|go_step)|refine ⟨_,h1,?_⟩|with_reducible (first|refine zI ?_|refine zV ?_)|simp (maxSteps:=9^9) (disch:=omega) only [wq]|with_reducible refine zM (fun hb=>?_) (fun hb=>?_)<;>try simp only [hb]|with_reducible refine And.intro (by first|omega|(simp;done)|(simp;omega)) ?_|simp (maxSteps:=9^9) -implicitDefEqProofs only [go_sem,decide_true]))
 | true =>
  rw [hm] at h1
  have h2:=sread_m (G:=G) v _ 1 rfl hw (by omega)
  have hf:=readS_fit v 1 (may_sm hm)
  have h3:=sbput_m (G:=G) hG (readS v 1) rfl hf
  have h4:=same_m (G:=G) v (if (readS v 1).may=true then (readS v 1).val else zeroT) _ _ rfl rfl hw
  unfold sputD at h3
  have hd:(getSb v).isSome=((readS v 1).may&&v.same (if (readS v 1).may=true then (readS v 1).val else zeroT))∧((getSb v).isSome=true→(getSb v).getD Sb.none=readS v 1):=by
   cases hg:getSb v with
   | some s =>
    obtain ⟨a,b,c⟩:=e1 s hg
    rw [a,b,if_pos rfl,c]
    exact ⟨by rw [show v.same v=true from same_iff.2 rfl];rfl,fun _=>rfl⟩
   | none =>
    have hno:=e2 hm hg
    refine ⟨?_,fun h=>by cases h⟩
    cases hmm:(readS v 1).may with
    | false=>rfl
    | true =>
     rw [if_pos rfl]
     cases hs:v.same (readS v 1).val with
     | false=>rfl
     | true=>exact (hno ⟨hmm,(same_iff.1 hs).symm⟩).elim
  have hd2:(getSb v).isSome=false→(getSb v).getD Sb.none=Sb.none:=fun h=>by
   cases hg:getSb v with
   | some s=>rw [hg] at h;cases h
   | none=>rfl
  obtain ⟨d1,d2⟩:=hd
  generalize (getSb v).getD Sb.none=R at *
  generalize (getSb v).isSome=ok at *
  generalize (readS v 1).may=q at *
  generalize (if q=true then (readS v 1).val else zeroT)=V at *
  generalize readS v 1=r at *
  generalize v.same V=z at *
  clear e1 e2 hf
  rw [treeC_eq v] at h1 h2 h4 ⊢
  rw [treeC_eq V] at h3 h4
  rw [sbC_eq r] at h2 h3
  have p1:((1:Nat):Int)=1:=rfl
  rw [p1] at h2
  cases q<;>cases z
  all_goals
   first
    | (have hok:ok=true:=d1
       rw [d2 hok,hok,sbC_eq r]
       clear d1 d2 hd2 hok
       unfold bD bytesD at *
       refine spec_of Tryz.func99 rfl rfl rfl (by kernel_rfl) rfl fun K=>?_
       (repeat' (first|with_reducible (first|refine zA fun Kn hK=>?_|refine zU ?_|refine Nx.go ?_|go_step)|refine ⟨_,h1,?_⟩|refine ⟨_,h2,?_⟩|refine ⟨_,h3,?_⟩|refine ⟨_,h4,?_⟩|with_reducible (first|refine zI ?_|refine zV ?_)|simp (maxSteps:=9^9) (disch:=omega) only [wq]|with_reducible refine zM (fun hb=>?_) (fun hb=>?_)<;>try simp only [hb]|with_reducible refine And.intro (by first|omega|(simp;done)|(simp;omega)) ?_|simp (maxSteps:=9^9) -implicitDefEqProofs only [go_sem,decide_true]))
       all_goals rfl)
    | (have hok:ok=false:=d1
       rw [hd2 hok,hok,hz]
       clear d1 d2 hd2 hok
       unfold bD bytesD at *
       refine spec_of Tryz.func99 rfl rfl rfl (by kernel_rfl) rfl fun K=>?_
       (repeat' (first|with_reducible (first|refine zA fun Kn hK=>?_|refine zU ?_|refine Nx.go ?_|go_step)|refine ⟨_,h1,?_⟩|refine ⟨_,h2,?_⟩|refine ⟨_,h3,?_⟩|refine ⟨_,h4,?_⟩|with_reducible (first|refine zI ?_|refine zV ?_)|simp (maxSteps:=9^9) (disch:=omega) only [wq]|with_reducible refine zM (fun hb=>?_) (fun hb=>?_)<;>try simp only [hb]|with_reducible refine And.intro (by first|omega|(simp;done)|(simp;omega)) ?_|simp (maxSteps:=9^9) -implicitDefEqProofs only [go_sem,decide_true]))
       all_goals rfl)
end
def wK (w:Wd):List C:=(wdC w).map C.d
theorem wK_mk (a:Bool) (n:Int) (u:Bool) (k:Int):wK ⟨a,n,u,k⟩=[.d (.v (.bool a)),.d (.v (.int .i64 n)),.d (.v (.bool u)),.d (.v (.int .i64 k))]:=rfl
theorem wK_eq (w:Wd):wK w=[.d (.v (.bool w.aft)),.d (.v (.int .i64 w.frm)),.d (.v (.bool w.unt)),.d (.v (.int .i64 w.to))]:=rfl
theorem drop5 (x:Tree) (l:List D):(treeC x++l).drop 5=l:=by
 have:=treeC_len x
 rw [List.drop_append_of_le_length (by omega),List.drop_of_length_le (by omega)]
 rfl
theorem win_wt {w:Wd} (h:w.may=true):w.val.wt≤30000000:=by
 obtain ⟨a,n,u,k⟩:=w
 cases a<;>cases u
 all_goals simp [Wd.val,wdK,endV,listT,atomT,Tree.wt_eq,Tree.hint,Tree.data,Tree.kids,dateS_len,wValid,wNB,wNA]
section
variable {G:Nat→Option (List D)}
noncomputable def wgetP (v:Tree):DR:= .many [.g (if ((readW v).may&&(readW v).val.same v)=true then wdC (readW v) else wdC Wd.none),.c (.v (.int .i64 (if ((readW v).may&&(readW v).val.same v)=true then 0 else 11)))]
theorem wget_p (v:Tree) {cs:List D} (hcs:treeC v=cs) (hw:v.wt≤30000000):Spec Tryz.prog G 98 [.g cs] (wgetP v):=by
 subst hcs
 have hput:=wput_m (G:=G) (readW v)
 have hval:(readW v).may=true→Spec Tryz.prog G 58 [.g (treeC (readW v).val),.g (treeC v)] (.one (.c (.v (.bool ((readW v).val.same v))))):=fun hm=>same_m _ _ _ _ rfl rfl (win_wt hm)
 unfold wgetP
 have h5:=v.wt_kids
 have hkw: ∀ x∈v.kids,x.wt<v.wt:=fun x hx=>Tree.wt_kid hx
 unfold readW at *
 rw [treeC_eq v] at hval ⊢
 generalize v.kids=L at *
 cases L with
 | nil =>
  rw [show ([]:List Tree).drop 1=[] from rfl,show ([]:List Tree).foldl stepW Wd.none=Wd.none from rfl] at *
  have hm:Wd.none.may=true:=by decide
  have hs:=hval hm
  unfold wputD at hput
  rw [hm,if_pos rfl] at hput
  rw [treeC_eq Wd.none.val] at hs hput
  generalize Wd.none.val.same v=q at *
  unfold wdC bytesD Wd.none at *
  have q0:decide (((0:Nat):Int)>0)=false:=rfl
  cases q
  all_goals
   refine spec_of Tryz.func98 rfl rfl rfl (by kernel_rfl) rfl fun K=>?_
   (repeat' (first|with_reducible (first|refine zA fun Kn hK=>?_|refine zU ?_|refine Nx.go ?_|go_step)|refine ⟨_,hput,?_⟩|refine ⟨_,hs,?_⟩|with_reducible (first|refine zI ?_|refine zV ?_)|simp (maxSteps:=9^9) (disch:=omega) only [wq]|with_reducible refine zM (fun hb=>?_) (fun hb=>?_)<;>try simp only [hb]|with_reducible refine And.intro (by first|omega|(simp;done)|(simp;omega)) ?_|simp (maxSteps:=9^9) -implicitDefEqProofs only [go_sem,List.length_nil,q0]))
   all_goals rfl
 | cons a l =>
  rw [List.drop_one,List.tail_cons] at *
  have hlb:l.length≤30000000:=by
   rw [List.length_cons] at h5
   omega
  have hp1:decide (((l.length:Int)+1)>0)=true:=by
   rw [decide_eq_true_iff]
   omega
  have hp2:decide (((l.length+1:Nat):Int)>0)=true:=by
   rw [decide_eq_true_iff]
   omega
  rw [List.flatMap_cons] at *
  have z0:zeroOf Tryz.prog 37=wK Wd.none:=by kernel_rfl
  refine spec_of Tryz.func98 rfl rfl rfl (by kernel_rfl) rfl fun K=>?_
  (repeat' (first|with_reducible (first|refine zA fun Kn hK=>?_|refine zU ?_|refine Nx.go ?_|go_step)|with_reducible (first|refine zI ?_|refine zV ?_)|simp (maxSteps:=9^9) (disch:=omega) only [wq]|with_reducible refine zM (fun hb=>?_) (fun hb=>?_)<;>try simp only [hb]|with_reducible refine And.intro (by first|omega|(simp;done)|(simp;omega)) ?_|simp (maxSteps:=9^9) -implicitDefEqProofs only [go_sem,drop5,List.length_cons,hp1,hp2]))
  refine sound_loopR (fun x:{k:Nat // k≤l.length}=>⟨[(1,vP 1 0),(2,vP 2 0),(4,vP 4 0),(17,vD (.sl l.length (l.flatMap treeC))),(18,vI l.length),(19,vI x.1)],[(1,some ⟨45,[.d (.v (.bool v.list)),.d (.v (.bool v.hinted)),.d (bytesD v.hint),.d (bytesD v.data),.d (.sl (l.length+1) (treeC a++l.flatMap treeC))],true,false⟩),(2,some ⟨37,zeroOf Tryz.prog 37,true,false⟩),(4,some ⟨37,wK ((l.take x.1).foldl stepW Wd.none),true,false⟩)]⟩) (fun x=>l.length-x.1) ⟨0,by omega⟩ [] (by (iterate 2 ((try simp (maxSteps:=9^9) -implicitDefEqProofs only [go_sem,wK_eq]);(try simp (maxSteps:=9^9) (disch:=omega) only [wq])));try simp;exact ⟨List.take_of_length_le (by rw [treeC_flen];exact Nat.le_refl _),rfl,rfl,rfl,rfl⟩) (fun ⟨k,hk⟩=>?_)
  by_cases hlt:k<l.length
  ·obtain ⟨x,hx⟩: ∃ x,l[k]?=some x:=⟨_,List.getElem?_eq_getElem hlt⟩
   have hb:decide ((k:Int)<(l.length:Int))=true:=by simpa using hlt
   have hst:(l.take (k+1)).foldl stepW Wd.none=stepW ((l.take k).foldl stepW Wd.none) x:=by
    rw [List.take_add_one,hx,List.foldl_append]
    rfl
   generalize (l.take k).foldl stepW Wd.none=w at *
   rw [wK_eq w]
   have hxm:=hkw x (List.mem_cons_of_mem _ (List.mem_of_getElem? hx))
   have hf:=flat_at treeC_len hx
   have ex:=treeC_eq x
   by_cases h2:x.kids.length=2
   ·obtain ⟨y,z,hxk⟩: ∃ y z,x.kids=[y,z]:=by
     match hk:x.kids,h2 with
     | [y,z],_=>exact ⟨y,z,rfl⟩
    have hz:z.data.length≤30000000:=by
     have h1:z.wt<x.wt:=Tree.wt_kid (by rw [hxk];simp)
     have h2:=z.wt_data
     omega
    have hd:=date_m (G:=G) z.data _ rfl (by omega)
    unfold resO iD at hd
    have est:stepW w x=if y.data=wNB then ⟨(dateP z.data).isSome,((dateP z.data).getD 0:Nat),w.unt,w.to⟩
      else if y.data=wNA then ⟨w.aft,w.frm,(dateP z.data).isSome,((dateP z.data).getD 0:Nat)⟩
      else w:=by unfold stepW;rw [hxk]
    generalize (dateP z.data).isSome=ok at *
    generalize (dateP z.data).getD 0=d at *
    rw [hxk] at ex
    simp only [List.flatMap_cons,List.flatMap_nil,treeC_eq y,treeC_eq z,List.cons_append,List.nil_append,List.append_nil,List.length_cons,List.length_nil] at ex
    rw [ex] at hf
    have q1:(y.data==[110,111,116,45,98,101,102,111,114,101])=decide (y.data=wNB):=by
     by_cases h:y.data=wNB
     ·rw [decide_eq_true h,h];rfl
     ·rw [decide_eq_false h,beq_eq_false_iff_ne];exact h
    have q2:(y.data==[110,111,116,45,97,102,116,101,114])=decide (y.data=wNA):=by
     by_cases h:y.data=wNA
     ·rw [decide_eq_true h,h];rfl
     ·rw [decide_eq_false h,beq_eq_false_iff_ne];exact h
    have q3:((2:Nat):Int)=2:=rfl
    have q4:((2:Int)==2)=true:=rfl
    unfold bytesD at *
    clear hput hval ex
    by_cases c1:y.data=wNB
    ·rw [if_pos c1] at est
     rw [decide_eq_true c1] at q1
     (repeat' (first|with_reducible (first|refine zA fun Kn hK=>?_|refine zU ?_|refine Nx.go ?_|go_step)|refine ⟨_,hd,?_⟩|with_reducible (first|refine zI ?_|refine zV ?_)|simp (maxSteps:=9^9) (disch:=omega) only [wq]|with_reducible refine zM (fun hb=>?_) (fun hb=>?_)<;>try simp only [hb]|with_reducible refine And.intro (by first|omega|(simp;done)|(simp;omega)) ?_|simp (maxSteps:=9^9) -implicitDefEqProofs only [go_sem,hb,hf,q1,q3,q4]))
     refine ⟨[],⟨k+1,hlt⟩,?_⟩
     rw [hst,est]
     (iterate 2 ((try simp (maxSteps:=9^9) -implicitDefEqProofs only [go_sem,wK_mk]);(try simp (maxSteps:=9^9) (disch:=omega) only [wq])))
     (simp only [ijq,true_and,and_true];first|done|omega|(split<;>omega)|(simp;done)|(simp;omega))
    ·rw [if_neg c1] at est
     rw [decide_eq_false c1] at q1
     by_cases c2:y.data=wNA
     ·rw [if_pos c2] at est
      rw [decide_eq_true c2] at q2
      (repeat' (first|with_reducible (first|refine zA fun Kn hK=>?_|refine zU ?_|refine Nx.go ?_|go_step)|refine ⟨_,hd,?_⟩|with_reducible (first|refine zI ?_|refine zV ?_)|simp (maxSteps:=9^9) (disch:=omega) only [wq]|with_reducible refine zM (fun hb=>?_) (fun hb=>?_)<;>try simp only [hb]|with_reducible refine And.intro (by first|omega|(simp;done)|(simp;omega)) ?_|simp (maxSteps:=9^9) -implicitDefEqProofs only [go_sem,hb,hf,q1,q2,q3,q4]))
      refine ⟨[],⟨k+1,hlt⟩,?_⟩
      rw [hst,est]
      (iterate 2 ((try simp (maxSteps:=9^9) -implicitDefEqProofs only [go_sem,wK_mk]);(try simp (maxSteps:=9^9) (disch:=omega) only [wq])))
      (simp only [ijq,true_and,and_true];first|done|omega|(split<;>omega)|(simp;done)|(simp;omega))
     ·rw [if_neg c2] at est
      rw [decide_eq_false c2] at q2
      (repeat' (first|with_reducible (first|refine zA fun Kn hK=>?_|refine zU ?_|refine Nx.go ?_|go_step)|refine ⟨_,hd,?_⟩|with_reducible (first|refine zI ?_|refine zV ?_)|simp (maxSteps:=9^9) (disch:=omega) only [wq]|with_reducible refine zM (fun hb=>?_) (fun hb=>?_)<;>try simp only [hb]|with_reducible refine And.intro (by first|omega|(simp;done)|(simp;omega)) ?_|simp (maxSteps:=9^9) -implicitDefEqProofs only [go_sem,hb,hf,q1,q2,q3,q4]))
      refine ⟨[],⟨k+1,hlt⟩,?_⟩
      rw [hst,est]
      (iterate 2 ((try simp (maxSteps:=9^9) -implicitDefEqProofs only [go_sem,wK_eq]);(try simp (maxSteps:=9^9) (disch:=omega) only [wq])))
      (simp only [ijq,true_and,and_true];first|done|omega|(split<;>omega)|(simp;done)|(simp;omega))
   ·have est:stepW w x=w:=by
     unfold stepW
     match hk:x.kids with
     | []=>rfl
     | [y]=>rfl
     | [y,z]=>rw [hk] at h2;exact absurd rfl h2
     | y::z::u::m=>rfl
    have q1:((x.kids.length:Int)==2)=false:=by
     rw [beq_eq_false_iff_ne]
     omega
    rw [ex] at hf
    unfold bytesD at *
    clear hput hval ex
    (repeat' (first|with_reducible (first|refine zA fun Kn hK=>?_|refine zU ?_|refine Nx.go ?_|go_step)|with_reducible (first|refine zI ?_|refine zV ?_)|simp (maxSteps:=9^9) (disch:=omega) only [wq]|with_reducible refine zM (fun hb=>?_) (fun hb=>?_)<;>try simp only [hb]|with_reducible refine And.intro (by first|omega|(simp;done)|(simp;omega)) ?_|simp (maxSteps:=9^9) -implicitDefEqProofs only [go_sem,hb,hf,q1]))
    refine ⟨[],⟨k+1,hlt⟩,?_⟩
    rw [hst,est]
    (iterate 2 ((try simp (maxSteps:=9^9) -implicitDefEqProofs only [go_sem,wK_eq]);(try simp (maxSteps:=9^9) (disch:=omega) only [wq])))
    (simp only [ijq,true_and,and_true];first|done|omega|(split<;>omega)|(simp;done)|(simp;omega))
  ·have hb:decide ((k:Int)<(l.length:Int))=false:=by simpa using hlt
   obtain rfl:k=l.length:=by omega
   rw [List.take_length]
   generalize l.foldl stepW Wd.none=w at *
   rw [wK_eq w]
   unfold wputD at hput
   cases hm:w.may with
   | true =>
    have hs:=hval hm
    rw [hm,if_pos rfl] at hput
    rw [treeC_eq w.val] at hs hput
    generalize w.val.same v=q at *
    unfold wdC bytesD at *
    cases q
    all_goals
     (repeat' (first|with_reducible (first|refine zA fun Kn hK=>?_|refine zU ?_|refine Nx.go ?_|go_step)|refine ⟨_,hput,?_⟩|refine ⟨_,hs,?_⟩|with_reducible (first|refine zI ?_|refine zV ?_)|simp (maxSteps:=9^9) (disch:=omega) only [wq]|with_reducible refine zM (fun hb=>?_) (fun hb=>?_)<;>try simp only [hb]|with_reducible refine And.intro (by first|omega|(simp;done)|(simp;omega)) ?_|simp (maxSteps:=9^9) -implicitDefEqProofs only [go_sem,hb]))
     all_goals (rw [hm];rfl)
   | false =>
    rw [hm,if_neg (by decide)] at hput
    unfold wdC zeroC at *
    (repeat' (first|with_reducible (first|refine zA fun Kn hK=>?_|refine zU ?_|refine Nx.go ?_|go_step)|refine ⟨_,hput,?_⟩|with_reducible (first|refine zI ?_|refine zV ?_)|simp (maxSteps:=9^9) (disch:=omega) only [wq]|with_reducible refine zM (fun hb=>?_) (fun hb=>?_)<;>try simp only [hb]|with_reducible refine And.intro (by first|omega|(simp;done)|(simp;omega)) ?_|simp (maxSteps:=9^9) -implicitDefEqProofs only [go_sem,hb]))
    all_goals (rw [hm];rfl)
def wgetR (o:Option Wd):DR:= .many [.g (wdC (o.getD Wd.none)),.c (.v (.int .i64 (if o.isSome then 0 else 11)))]
theorem wget_m (v:Tree) {cs:List D} (hcs:treeC v=cs) (hw:v.wt≤30000000) (hc:v.clean=true):Spec Tryz.prog G 98 [.g cs] (wgetR (getR v)):=by
 have h:=wget_p (G:=G) v hcs hw
 have he:=getW_eq hc
 suffices wgetP v=wgetR (getR v) by rwa [this] at h
 unfold wgetP wgetR
 cases hg:getR v with
 | some w =>
  obtain ⟨h1,h2,h3⟩:=he.1 w hg
  rw [h1,h2,h3]
  rw [show v.same v=true from same_iff.2 rfl]
  rfl
 | none =>
  have h1:=he.2 hg
  have:((readW v).may&&(readW v).val.same v)=false:=by
   rw [Bool.and_eq_false_iff]
   cases hm:(readW v).may with
   | false=>exact .inl rfl
   | true =>
    right
    cases hs:(readW v).val.same v with
    | false=>rfl
    | true=>exact (h1 ⟨hm,same_iff.1 hs⟩).elim
  rw [this]
  rfl
end
theorem catch_idle (p q:Addr) (w:World) :
  CallsD Tryz.prog 122 #[.pointer (some p),.pointer (some q)] .returning w fun e u' w'=>e= .returned (.tuple #[])∧u'= .returning∧w'=w:=by
 refine callsD_of_wpS Tryz.func122 rfl fun c₀ cs hu=>?_
 simp only [Tryz.ntmps122,List.size_toArray,List.length_cons,List.length_nil,Nat.reduceAdd,Nat.reduceSub,Array.replicate_succ,Array.replicate_zero,List.push_toArray,List.append_toArray,List.nil_append,List.cons_append]
 apply wpS_seq
 apply wpS_region
 simp [wpOpsS,go_sem,recoverD,hu,Exit.thenS]
 refine wpS_of_wp ?_
 go_wp2
 cases c₀
 simp_all [bodyPostS,results,Tryz.results122]
theorem under_none:(Tryz.prog.underlying 151)=some (.struct #[]):=by kernel_rfl
theorem assert_none (w:World) (xT:TypeId):(Instr.typeAssert (.iface 151 (.agg #[])) xT 151 true).run Tryz.prog w= .ok (.tuple #[.agg #[],.bool true]) w:=by
 simp [Instr.typeAssert,run_underlying under_none]
def HaltedZ (p:Prop):Prop:=p
theorem go_onZ {p:Prop} (h:p):HaltedZ p:=h
theorem haltZ {p:Prop} (h:HaltedZ p):p:=h
attribute [irreducible] HaltedZ
section
variable {P:Program} {w:World} {ops:Array Oper} {rest:List Oper} {o:Oper} {a:Act} {Q:Exit→Act→World→Prop}
theorem haltZ_load {ty:TypeId} {x:Operand} (ho:o.op= .load ty x) (h:HaltedZ (wpList P ops Q (o::rest) a w)):wpList P ops Q (o::rest) a w:=haltZ h
theorem haltZ_store {ty:TypeId} {x y:Operand} (ho:o.op= .store ty x y) (h:HaltedZ (wpList P ops Q (o::rest) a w)):wpList P ops Q (o::rest) a w:=haltZ h
end
def zTagV:List Value:=[.int .u8 0,.slice none 0 0,.slice none 0 0,.int .u8 0,.bool false,.bool false,.slice none 0 0,.bool false,.bool false,.slice none 0 0]
theorem catch_pan (T E:Nat) (w:World) (cT:Array Value) (x:Value) (hc:cT.size=10) (hT:w.heap[T]?=some (.cells cT 35 (0,0))) (hE:w.heap[E]?=some (.cells #[x] 46 (0,0))) (hne:T≠E) :
  CallsD Tryz.prog 122 #[.pointer (some ⟨T,0,none⟩),.pointer (some ⟨E,0,none⟩)] (.panicking [{ v:=vNone,recovered:=false }]) w fun e u' w'=>e= .returned (.tuple #[])∧u'= .panicking [{ v:=vNone,recovered:=true }] ∧
   Ev (fun k=>k=T∨k=E) w w'∧w'.heap[T]?=some (.cells zTagV.toArray 35 (0,0))∧w'.heap[E]?=some (.cells #[.int .i64 13] 46 (0,0)):=by
 refine callsD_of_wpS Tryz.func122 rfl fun c₀ cs hu=>?_
 unfold vNone at *
 simp only [Tryz.ntmps122,List.size_toArray,List.length_cons,List.length_nil,Nat.reduceAdd,Nat.reduceSub,Array.replicate_succ,Array.replicate_zero,List.push_toArray,List.append_toArray,List.nil_append,List.cons_append]
 apply wpS_seq
 apply wpS_region
 simp [wpOpsS,go_sem,recoverD,hu,Exit.thenS]
 refine wpS_of_wp ?_
 have hta:=assert_none
 go_wp2_with (refine haltZ_store (ty:=35) rfl ?_)
 refine go_onZ (wpList_store_row rfl 35 _ _ rfl T zTagV.toArray rfl rfl 35 cT (box_alloc hT _) (by kernel_rfl) hc (by simp [zTagV,Value.oneCell']) ?_)
 have hT2:=setRow_heap _ T cT zTagV.toArray 35 (0,0) (box_alloc hT (.cells #[] 151))
 have hE2:((w.alloc (.cells #[] 151)).setRow T zTagV.toArray).heap[E]?=_:=(setRow_other _ T E zTagV.toArray (Ne.symm hne)).trans (box_alloc hE (.cells #[] 151))
 have hev:Ev (fun k=>k=T∨k=E) w ((w.alloc (.cells #[] 151)).setRow T zTagV.toArray):=by
  refine ⟨rfl,rfl,rfl,by simp,fun k hk hn=>?_⟩
  rw [setRow_other _ _ _ _ (fun e=>hn (.inl e))]
  exact Below.heap_alloc w _ k hk
 generalize (w.alloc (.cells #[] 151)).setRow T zTagV.toArray=w2 at *
 have hc2:=boxed hE2 0 _ rfl
 have hf2:=boxed_frozen hE2 0
 go_wp2
 simp only [bodyPostS,results,Tryz.results122]
 have hev3:Ev (fun k=>k=T∨k=E) w (w2.setCell ⟨E,0,none⟩ (.int .i64 13)):=⟨hev.os,hev.tape,hev.output,by simpa [World.setCell] using hev.size,fun k hk hn=>(Below.heap_setCell w2 ⟨E,0,none⟩ _ k (fun e=>hn (.inr e))).trans (hev.block k hk hn)⟩
 exact ⟨trivial,_,rfl,.tuple #[],by simp,rfl,rfl,hev3,box_far (p:=⟨E,0,none⟩) hT2 hne _,by simpa using box_set hE2 (j:=0) (.int .i64 13)⟩
theorem results_cc {P:Program} {fn:Func} {p q:Tmp} {ty t2:TypeId} {k2:IntKind} (h:fn.results= #[.cell p ty,.cell q t2]) (tmps:Array Value) (w:World) (g e:Nat) (t:TypeId) (cs:Array Value) (fr:Nat × Nat) (d:TypeDesc) (u:Value)
  (hp:tmps.getD p undef= .pointer (some ⟨g,0,none⟩)) (hg:w.heap[g]?=some (.cells cs t fr))
  (hu:P.underlying ty=some d) (hd:(match d with| .struct _| .array _ _=>true|_=>false)=true) (hi:(P.info? ty).map (·.size)=some cs.size)
  (hq:tmps.getD q undef= .pointer (some ⟨e,0,none⟩)) (he:w.cell? ⟨e,0,none⟩=some u) (hu2:P.underlying t2=some (.int k2)) :
  (results fn tmps).run P w= .ok (.tuple #[.agg cs,u]) w:=by
 have hp':tmps[p]?.getD undef= .pointer (some ⟨g,0,none⟩):=by simpa using hp
 have hq':tmps[q]?.getD undef= .pointer (some ⟨e,0,none⟩):=by simpa using hq
 have h2:(loadVar t2 ⟨e,0,none⟩).run P w= .ok u w:=by simp [loadVar,isAgg,run_underlying hu2,go_sem,he]
 simp [results,h,hp',hq',asAddr,run_loadVar_row w g t ty cs fr d hg hu hd hi,h2]
def getDf (T E:Nat):List Deferred:=[{ target:= .fn (.func 122) #[.pointer (some ⟨T,0,none⟩),.pointer (some ⟨E,0,none⟩)],args:= #[] }]
theorem get_pan {tmps:Array Value} {R:Ending→World→Prop} (T E:Nat) (hne:T≠E) (w6:World) (cT:Array Value) (x:Value) (hc:cT.size=10) (hT:w6.heap[T]?=some (.cells cT 35 (0,0))) (hE:w6.heap[E]?=some (.cells #[x] 46 (0,0)))
  (p2:tmps.getD 2 undef= .pointer (some ⟨T,0,none⟩)) (p3:tmps.getD 3 undef= .pointer (some ⟨E,0,none⟩))
  (hR: ∀ w7,Ev (fun k=>k=T∨k=E) w6 w7→R (.returned (.tuple #[.agg zTagV.toArray,.int .i64 13])) w7):bodyPostD Tryz.prog Tryz.f100 R (.panic [{ v:=vNone,recovered:=false }]) ⟨tmps,getDf T E⟩ w6:=by
 refine leaves_cons (f:=122) (args:= #[.pointer (some ⟨T,0,none⟩),.pointer (some ⟨E,0,none⟩)]) (by simp) (by simp [go_sem]) ?_
 refine (catch_pan T E w6 _ _ hc hT hE hne).mono ?_
 rintro e u' w7 ⟨rfl,rfl,hev7,z1,z2⟩
 simp only [Leaves,settle]
 have hc7:=boxed z2 0 _ rfl
 exact ⟨.tuple #[.agg zTagV.toArray,.int .i64 13],results_cc rfl _ w7 T E 35 zTagV.toArray (0,0) _ _ p2 z1 Tryz.underlying35 rfl (by kernel_rfl) p3 hc7 Tryz.underlying46,hR w7 hev7⟩
theorem get_ret {tmps:Array Value} {R:Ending→World→Prop} (T E:Nat) (w6:World) (cT:Array Value) (hc:cT.size=10) (hT:w6.heap[T]?=some (.cells cT 35 (0,0))) (hE:w6.heap[E]?=some (.cells #[.int .i64 0] 46 (0,0)))
  (p2:tmps.getD 2 undef= .pointer (some ⟨T,0,none⟩)) (p3:tmps.getD 3 undef= .pointer (some ⟨E,0,none⟩))
  (hR:R (.returned (.tuple #[.agg cT,.int .i64 0])) w6):bodyPostD Tryz.prog Tryz.f100 R .ret ⟨tmps,getDf T E⟩ w6:=by
 refine leaves_cons (f:=122) (args:= #[.pointer (some ⟨T,0,none⟩),.pointer (some ⟨E,0,none⟩)]) (by simp) (by simp [go_sem]) ?_
 refine (catch_idle ⟨T,0,none⟩ ⟨E,0,none⟩ w6).mono ?_
 rintro e u' w7 ⟨rfl,rfl,rfl⟩
 simp only [Leaves,settle]
 have hc7:=boxed hE 0 _ rfl
 exact ⟨.tuple #[.agg cT,.int .i64 0],results_cc rfl _ w7 T E 35 cT (0,0) _ _ p2 hT Tryz.underlying35 rfl (by rw [hc];kernel_rfl) p3 hc7 Tryz.underlying46,hR⟩
theorem rd_zTag {w:World} {S:Nat→Prop}:DRd w S (.g (tagC zTg)) (.agg zTagV.toArray):=by
 refine ⟨zTagV,rfl,by rw [tagC_len];rfl,fun j x u hx hu=>?_⟩
 rw [zTg,tagC_mk] at hx
 unfold zTagV at hu
 match j with
 | 0|1|2|3|4|5|6|7|8|9 =>
  injection hx with hx
  injection hu with hu
  subst hx hu
  first|exact .v _ rfl|exact .nil none 0 (by decide)
 | j+10=>cases hx
def getO (v:Tree):DR:=match (if v.may then getT isV v else none) with
 | some t=> .many [.g (tagC t),.c (.v (.int .i64 0))]
 | none=> .many [.g (tagC zTg),.c (.v (.int .i64 13))]
section
variable {G:Nat→Option (List D)}
theorem tget_m (hG:G 0=some powD) (v:Tree) {cs:List D} (hcs:treeC v=cs) (hw:v.wt≤30000000):Spec Tryz.prog G 100 [.g cs] (getO v):=by
 subst hcs
 refine Spec.mk0 (by unfold getO;split<;>rfl) ?_
 intro w S vs hS hT hA
 have hmay:=(sxmay_m (G:=G) hG v rfl hw).get0 rfl
 have hmf: ∀ (fn:Fn) (first cap:Array Value) (w:World),(Instr.makeFunc fn first cap).run Tryz.prog w= .ok (.func fn first cap) w:=fun _ _ _ _=>rfl
 obtain ⟨hl,hc⟩:=hA
 match vs,hl with
 | [u],_ =>
 obtain ⟨us,rfl,hul,hus⟩:DRd w S (.g (treeC v)) u:=hc 0 _ _ rfl rfl
 rw [treeC_len] at hul
 match us,hul with
 | [u0,u1,u2,u3,u4],_ =>
 have hend: ∀ w7:World,DEnd w7 (fun b=>S b∨w.heap.size≤b∧b<w7.heap.size) (.many [.g (tagC zTg),.c (.v (.int .i64 13))]) (.returned (.tuple #[.agg zTagV.toArray,.int .i64 13])):=fun w7=>by
  refine ⟨[.agg zTagV.toArray,.int .i64 13],rfl,rfl,fun i x y hx hy=>?_⟩
  match i with
  | 0 =>
   have hx:some (DV.g (tagC zTg))=some x:=hx
   have hy:some (Value.agg zTagV.toArray)=some y:=hy
   injection hx with hx
   injection hy with hy
   subst hx hy
   exact rd_zTag
  | 1 =>
   have hx:some (DV.c (.v (.int .i64 13)))=some x:=hx
   have hy:some (Value.int .i64 13)=some y:=hy
   injection hx with hx
   injection hy with hy
   subst hx hy
   exact .v _ rfl
  | i+2=>simp at hx
 go_enter_defers Tryz.func100,Tryz.ntmps100
 go_wp2_with (refine haltZ_load (ty:=45) rfl ?_)
 have e3:Ev (fun _=>False) w (((w.alloc (.cells #[u0,u1,u2,u3,u4] 45)).alloc (.cells zTagV.toArray 35)).alloc (.cells #[.int .i64 0] 46)):=by
  refine ⟨rfl,rfl,rfl,by simp;omega,fun k hk _=>?_⟩
  rw [Below.heap_alloc _ _ k (by simp;omega),Below.heap_alloc _ _ k (by simp;omega),Below.heap_alloc _ _ k hk]
 have b1:(((w.alloc (.cells #[u0,u1,u2,u3,u4] 45)).alloc (.cells zTagV.toArray 35)).alloc (.cells #[.int .i64 0] 46)).heap[w.heap.size]?=some (.cells #[u0,u1,u2,u3,u4] 45 (0,0)):=box_alloc (box_alloc (box_new w _ _) _) _
 have b2:(((w.alloc (.cells #[u0,u1,u2,u3,u4] 45)).alloc (.cells zTagV.toArray 35)).alloc (.cells #[.int .i64 0] 46)).heap[w.heap.size+1]?=some (.cells zTagV.toArray 35 (0,0)):=by
  have h:=box_new (w.alloc (.cells #[u0,u1,u2,u3,u4] 45)) zTagV.toArray 35
  rw [World.size_alloc] at h
  exact box_alloc h _
 have b3:(((w.alloc (.cells #[u0,u1,u2,u3,u4] 45)).alloc (.cells zTagV.toArray 35)).alloc (.cells #[.int .i64 0] 46)).heap[w.heap.size+1+1]?=some (.cells #[.int .i64 0] 46 (0,0)):=by
  have h:=box_new ((w.alloc (.cells #[u0,u1,u2,u3,u4] 45)).alloc (.cells zTagV.toArray 35)) #[.int .i64 0] 46
  rw [World.size_alloc,World.size_alloc] at h
  exact h
 have later: ∀ w',Ev (fun _=>False) w w'→(∀ b,S b→b<w'.heap.size)∧Tables G w' S∧DArgs w' S [.g (treeC v)] [.agg #[u0,u1,u2,u3,u4]]:=fun w' h=>by
  have hb: ∀ b,S b→w'.heap[b]?=w.heap[b]?:=fun b hb=>h.block b (hS b hb) (fun h=>h)
  refine ⟨fun b hb=>Nat.lt_of_lt_of_le (hS b hb) h.size,fun g cs hg=>(hT g cs hg).mono (fun _ h=>h) hb,rfl,fun i x y hx hy=>?_⟩
  cases i with
  | zero =>
   have hx:some (DV.g (treeC v))=some x:=hx
   have hy:some (Value.agg #[u0,u1,u2,u3,u4])=some y:=hy
   injection hx with hx
   injection hy with hy
   subst hx hy
   exact ⟨[u0,u1,u2,u3,u4],rfl,by rw [treeC_len];rfl,fun j a b ha hb'=>RD.mono (fun _ h=>h) (fun p hp=>World.cell?_of_block (hb _ hp)) (hus j a b ha hb')⟩
  | succ i=>simp at hx
 unfold zTagV at e3 b1 b2 b3
 generalize hg:w.heap.size=g at *
 generalize (((w.alloc (.cells #[u0,u1,u2,u3,u4] 45)).alloc (.cells _ 35)).alloc (.cells #[.int .i64 0] 46))=w3 at *
 refine go_onZ (wpList_load_row rfl 45 _ rfl g rfl 45 #[u0,u1,u2,u3,u4] (0,0) _ b1 Tryz.underlying45 rfl (by kernel_rfl) ?_)
 go_wp2_with fail
 obtain ⟨l1,l2,l3⟩:=later w3 e3
 refine Calls.mono (hmay w3 S _ l1 l2 l3) ?_
 rintro e w4 ⟨e4,y,rfl,hy⟩
 obtain rfl:y= .bool v.may:=by
  have hy:RD w4 _ (.v (.bool v.may)) y:=hy
  cases hy
  rfl
 clear hy l1 l2 l3 hmay
 have e5:=e3.trans e4 (fun i hi h=>h)
 have k1: ∀ {k x},w3.heap[k]?=some x→w4.heap[k]?=some x:=fun {k x} h=>(e4.block k (Array.getElem?_eq_some_iff.1 h).1 (fun h=>h)).trans h
 have d1:=k1 b1
 have d2:=k1 b2
 have d3:=k1 b3
 clear k1 b1 b2 b3 e3 e4
 obtain ⟨l1,l2,l3⟩:=later w4 e5
 cases hm:v.may with
 | false =>
  have hwf:=(want_f (G:=G)).get0 rfl
  have hO:getO v= .many [.g (tagC zTg),.c (.v (.int .i64 13))]:=by
   unfold getO
   rw [hm]
   rfl
  go_wp2_with fail
  refine Calls.mono (hwf w4 S _ l1 l2 ⟨rfl,fun i x y hx hy=>?_⟩) ?_
  ·cases i with
   | zero =>
    have hx:some (DV.c (.v (.bool false)))=some x:=hx
    have hy:some (Value.bool false)=some y:=hy
    injection hx with hx
    injection hy with hy
    subst hx hy
    exact .v _ rfl
   | succ i=>simp at hx
  rintro e w6 ⟨e6,rfl⟩
  have k6: ∀ {k x},w4.heap[k]?=some x→w6.heap[k]?=some x:=fun {k x} h=>(e6.block k (Array.getElem?_eq_some_iff.1 h).1 (fun h=>h)).trans h
  go_wp2
  refine get_pan (g+1) (g+1+1) (by omega) w6 _ _ rfl (k6 d2) (k6 d3) rfl rfl fun w7 hev7=>⟨(e5.trans e6 fun _ _ h=>h).trans hev7 (fun i hi h=>by omega),?_⟩
  rw [hO,hg]
  exact hend w7
 | true =>
  have hwt:=(want_t (G:=G)).get0 rfl
  have hcl:v.clean=true:=by
   simp only [Tree.may,Bool.and_eq_true] at hm
   exact hm.1.1.1
  have hget:=(pget_m (G:=G) v _ rfl hw hcl).get0 (by unfold outT;split<;>rfl)
  go_wp2_with fail
  refine Calls.mono (hwt w4 S _ l1 l2 ⟨rfl,fun i x y hx hy=>?_⟩) ?_
  ·cases i with
   | zero =>
    have hx:some (DV.c (.v (.bool true)))=some x:=hx
    have hy:some (Value.bool true)=some y:=hy
    injection hx with hx
    injection hy with hy
    subst hx hy
    exact .v _ rfl
   | succ i=>simp at hx
  rintro e w6 ⟨e6,us6,rfl,hl6,_⟩
  obtain rfl:us6=[]:=List.length_eq_zero_iff.1 hl6
  have k6: ∀ {k x},w4.heap[k]?=some x→w6.heap[k]?=some x:=fun {k x} h=>(e6.block k (Array.getElem?_eq_some_iff.1 h).1 (fun h=>h)).trans h
  have e7:=e5.trans e6 (fun i hi h=>h)
  have q1:=k6 d1
  have q2:=k6 d2
  have q3:=k6 d3
  have z6:=(Array.getElem?_eq_some_iff.1 q3).1
  clear k6 l1 l2 l3 d1 d2 d3 hwt hl6
  go_wp2_with (refine haltZ_load (ty:=45) rfl ?_)
  refine go_onZ (wpList_load_row rfl 45 _ rfl g rfl 45 #[u0,u1,u2,u3,u4] (0,0) _ q1 Tryz.underlying45 rfl (by kernel_rfl) ?_)
  go_wp2_with fail
  obtain ⟨l1,l2,l3⟩:=later w6 e7
  refine Calls.mono (hget w6 S _ l1 l2 l3) ?_
  rintro e w8 ⟨e8,hD⟩
  have k8: ∀ {k x},w6.heap[k]?=some x→w8.heap[k]?=some x:=fun {k x} h=>(e8.block k (Array.getElem?_eq_some_iff.1 h).1 (fun h=>h)).trans h
  have r2:=k8 q2
  have r3:=k8 q3
  have e9:=e7.trans e8 (fun i hi h=>h)
  clear k8 q1 q2 q3 l1 l2 l3
  have hO0:getO v=match getT isV v with
    | some t=> .many [.g (tagC t),.c (.v (.int .i64 0))]
    | none=> .many [.g (tagC zTg),.c (.v (.int .i64 13))]:=by
   unfold getO
   rw [hm,if_pos rfl]
  cases ho:getT isV v with
  | none =>
   rw [ho] at hD hO0
   obtain rfl:e= .panicked [{ v:=vNone,recovered:=false }]:=hD
   go_wp2
   refine get_pan (g+1) (g+1+1) (by omega) w8 _ _ rfl r2 r3 rfl rfl fun w9 hev9=>⟨e9.trans hev9 (fun i hi h=>by omega),?_⟩
   rw [hO0,hg]
   exact hend w9
  | some t =>
   rw [ho] at hD hO0
   obtain ⟨y,rfl,ys,rfl,hyl,hyr⟩: ∃ y,e= .returned y∧DRd w8 _ (.g (tagC t)) y:=hD
   rw [tagC_len] at hyl
   go_wp2_with (refine haltZ_store (ty:=35) rfl ?_)
   have hones:ys.toArray.all (·.oneCell')=true:=by
    rw [← Array.all_toList,List.all_eq_true]
    intro u hu
    obtain ⟨j,hj,hju⟩:=List.mem_iff_getElem.1 hu
    have hj':j<ys.length:=by simpa using hj
    have hy:ys[j]?=some u:=by
     rw [List.getElem?_eq_getElem hj']
     exact congrArg some (by simpa using hju)
    exact RD.one (hyr j _ u (List.getElem?_eq_getElem (by rw [tagC_len,← hyl];exact hj')) hy)
   refine go_onZ (wpList_store_row rfl 35 _ _ rfl (g+1) ys.toArray rfl rfl 35 _ r2 (by rw [List.size_toArray,hyl];kernel_rfl) (by simp [hyl]) hones ?_)
   have t2:=setRow_heap w8 (g+1) _ ys.toArray 35 (0,0) r2
   have t3:=(setRow_other w8 (g+1) (g+1+1) ys.toArray (by omega)).trans r3
   have v8:Ev (fun k=>k=g+1∨k=g+1+1) w8 (w8.setRow (g+1) ys.toArray):=⟨rfl,rfl,rfl,by simp,fun k hk hn=>setRow_other _ _ _ _ (fun e=>hn (.inl e))⟩
   generalize w8.setRow (g+1) ys.toArray=w9 at *
   have hc9:=boxed t3 0 _ rfl
   have hf9:=boxed_frozen t3 0
   have s2:(w9.setCell ⟨g+1+1,0,none⟩ (.int .i64 0)).heap[g+1]?=some (.cells ys.toArray 35 (0,0)):=box_far (p:=⟨g+1+1,0,none⟩) t2 (by simp) _
   have s3:(w9.setCell ⟨g+1+1,0,none⟩ (.int .i64 0)).heap[g+1+1]?=some (.cells #[.int .i64 0] 46 (0,0)):=by simpa using box_set t3 (j:=0) (.int .i64 0)
   have v9:Ev (fun k=>k=g+1∨k=g+1+1) w8 (w9.setCell ⟨g+1+1,0,none⟩ (.int .i64 0)):=⟨v8.os,v8.tape,v8.output,by simpa [World.setCell] using v8.size,fun k hk hn=>(Below.heap_setCell w9 ⟨g+1+1,0,none⟩ _ k (fun e=>hn (.inr e))).trans (v8.block k hk hn)⟩
   go_wp2
   refine get_ret (g+1) (g+1+1) _ _ (by rw [List.size_toArray,hyl]) s2 s3 rfl rfl ⟨e9.trans v9 (fun i hi h=>by omega),?_⟩
   rw [hO0]
   generalize w9.setCell ⟨g+1+1,0,none⟩ (.int .i64 0)=w10 at *
   refine ⟨[.agg ys.toArray,.int .i64 0],rfl,rfl,fun i x y hx hy=>?_⟩
   match i with
   | 0 =>
    have hx:some (DV.g (tagC t))=some x:=hx
    have hy:some (Value.agg ys.toArray)=some y:=hy
    injection hx with hx
    injection hy with hy
    subst hx hy
    have hz8:=v9.size
    have hz6:=e8.size
    refine ⟨ys,rfl,by rw [tagC_len];exact hyl,fun j a b ha hb=>RD.mono (fun c hc=>?_) (fun p hp=>World.cell?_of_block (v9.block _ ?_ ?_)) (hyr j a b ha hb)⟩
    ·rcases hc with hc|⟨h1,h2⟩
     ·exact .inl hc
     ·exact .inr ⟨by omega,by omega⟩
    ·rcases hp with hc|⟨h1,h2⟩
     ·have:=hS _ hc
      omega
     ·exact h2
    ·rintro (h|h)
     all_goals
      rcases hp with hc|⟨h1,h2⟩
      ·have:=hS _ hc
       omega
      ·omega
   | 1 =>
    have hx:some (DV.c (.v (.int .i64 0)))=some x:=hx
    have hy:some (Value.int .i64 0)=some y:=hy
    injection hx with hx
    injection hy with hy
    subst hx hy
    exact .v _ rfl
   | i+2=>simp at hx
end
theorem getO_at (v:Tree):getO v= .many [.g (tagC ((getTg v).getD zeroTg)),.c (.v (.int .i64 (if (getTg v).isSome=true then 0 else 13)))]:=by
 unfold getO getTg
 generalize (if v.may=true then getT isV v else none)=o
 cases o<;>rfl
theorem word_eq (a w:List UInt8):(a==w)=decide (a=w):=by
 by_cases h:a=w
 ·rw [decide_eq_true h,h,beq_self_eq_true]
 ·rw [decide_eq_false h,beq_eq_false_iff_ne]
  exact h
section
variable {G:Nat→Option (List D)}
end
section
variable {G:Nat→Option (List D)}
end
section
variable {G:Nat→Option (List D)}
end
section
variable {G:Nat→Option (List D)}
end
theorem great_nodes {t:Tg} (h:t.great 0=false):t.nodes≤1000:=by
 rw [Tg.great_eq] at h
 simp at h
 omega
section
variable {G:Nat→Option (List D)}
end
theorem bd_wt {o:UInt8} {b:Bd} {w:List UInt8} (h:mayE isV o b=true):b.txt.length≤((bdT b w).map Tree.wt).sum:=by
 unfold mayE at h
 unfold bdT
 split
 ·simp only [List.map_cons,List.map_nil,List.sum_cons,List.sum_nil,wt_atomT]
  omega
 ·rename_i hb
  rw [if_neg hb] at h
  simp only [Bool.and_eq_true,emptyL_iff] at h
  rw [h.2]
  simp
theorem wt_val: ∀ t:Tg,t.right isV=true→t.wt≤t.val.wt:=by
 refine Tg.ind fun t ih h=>?_
 rw [Tg.right_eq,Bool.and_eq_true,List.all_eq_true] at h
 obtain ⟨hok,hk⟩:=h
 have hs: ∀ l:List Tg,(∀ x∈l,x.wt≤x.val.wt)→(l.map Tg.wt).sum≤((l.map Tg.val).map Tree.wt).sum:=by
  intro l
  induction l with
  | nil=>simp
  | cons x l ih =>
   intro h
   have h0:=h x (by simp)
   have:=ih fun y hy=>h y (by simp [hy])
   simp only [List.map_cons,List.sum_cons]
   omega
 have hk':=hs t.kids fun x hx=>ih x hx (hk x hx)
 rw [Tg.ok,Bool.and_eq_true] at hok
 obtain ⟨hb,_⟩:=hok
 obtain ⟨k,d,l,o,lo,hi⟩:=t
 have hp: ∀ {q:Bool},((Tg.mk k d l o lo hi).plain&&q)=true→lo=Bd.none∧hi=Bd.none∧q=true:=fun {q} h=>by
  rw [Bool.and_eq_true] at h
  have h1:=blank_mk h.1
  exact ⟨h1.2.1,h1.2.2,h.2⟩
 rw [Tg.wt_eq,val_of]
 rw [blank_of] at hb
 simp only [Tg.data,Tg.kids,Tg.lo,Tg.hi] at hk' ⊢
 by_cases h1:k=1
 ·rw [if_pos h1] at hb ⊢
  obtain ⟨rfl,rfl,h⟩:=hp hb
  simp only [Bool.and_eq_true,emptyL_iff] at h
  obtain ⟨rfl,rfl⟩:=h
  simp [wt_listT,wt_atomT,Bd.none]
 rw [if_neg h1] at hb ⊢
 by_cases h2:k=2
 ·rw [if_pos (.inl h2)] at hb
  rw [if_pos h2]
  obtain ⟨rfl,rfl,h⟩:=hp hb
  rw [emptyL_iff] at h
  subst h
  simp [wt_atomT,Bd.none]
 rw [if_neg h2]
 by_cases h5:k=5
 ·rw [if_pos (.inr h5)] at hb
  rw [if_neg (by rw [h5];decide),if_pos h5]
  obtain ⟨rfl,rfl,h⟩:=hp hb
  rw [emptyL_iff] at h
  subst h
  simp [wt_listT,wt_atomT,Bd.none]
  omega
 rw [if_neg (by simp [h2,h5])] at hb
 by_cases h4:k=4
 ·rw [if_pos (.inr h4)] at hb
  rw [if_pos h4]
  obtain ⟨rfl,rfl,h⟩:=hp hb
  rw [emptyL_iff] at h
  subst h
  simp only [wt_listT,wt_atomT,List.map_cons,List.sum_cons,Bd.none,List.length_nil]
  omega
 rw [if_neg h4]
 by_cases h3:k=3
 ·rw [if_pos (.inl h3)] at hb
  rw [if_neg h5,if_neg (by rw [h3];decide)]
  obtain ⟨rfl,rfl,h⟩:=hp hb
  rw [emptyL_iff] at h
  subst h
  simp only [wt_listT,Bd.none,List.length_nil]
  omega
 rw [if_neg (by simp [h3,h4])] at hb
 simp only [Bool.and_eq_true,decide_eq_true_eq,emptyL_iff] at hb
 obtain ⟨h6,hm,rfl,rfl⟩:=hb
 rw [mayR] at hm
 simp only [Bool.and_eq_true] at hm
 have b1:=bd_wt (w:=wG) hm.2.1
 have b2:=bd_wt (w:=wL) hm.2.2
 rw [if_neg h5,if_pos h6]
 simp only [wt_listT,wt_atomT,List.map_cons,List.map_nil,List.map_append,List.sum_append,List.sum_cons,List.sum_nil,List.length_nil]
 omega
section
variable {G:Nat→Option (List D)}
end
end Go.Proofs.YtfammdfpgccnfaaGreatDoor
