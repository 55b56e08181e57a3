/- Parts of the proof, laid together. -/
import Derived.Test.YtfammdfpgccnfaaGreatDoorW7
set_option linter.unusedVariables false
set_option linter.unusedSimpArgs false
set_option maxRecDepth 100000
set_option maxHeartbeats 8000000
namespace Go.Proofs.YtfammdfpgccnfaaGreatDoor
open Go.RowKit
theorem ordW_drop {k:Nat} (h1:1≤k) (h2:k≤5):ordW.drop (k-1)=ordN (UInt8.ofNat k)::ordW.drop k:=by
 match k,h1,h2 with
 | 1,_,_|2,_,_|3,_,_|4,_,_|5,_,_=>rfl
section
variable {G:Nat→Option (List D)}
theorem rranged12_m (l:List Tree) (hl:l.length≤100000000) (hd: ∀ x∈l,x.data.length≤1000000000): ∃ u,TagR G 150 (.c (.sl l.length (l.flatMap treeC))) (rangeT isV l) u:=by
 match l,hl,hd with
 | [],_,_ =>
  refine ⟨zTg,⟨fun p h=>(by cases h),?_⟩⟩
  rw [show rangeT isV []=none from rfl,zTg,tagC_mk]
  have d:(((([]:List Tree).length:Nat):Int)==0)=true:=rfl
  generalize ([]:List Tree)=L at *
  refine spec_of Tryz.func150 rfl rfl rfl (by kernel_rfl) rfl fun K=>?_
  (repeat' (first|with_reducible (first|refine zA fun Kn hK=>?_|refine zU ?_|refine Nx.go ?_|go_step)|with_reducible (first|refine zI ?_|refine zV ?_)|simp (maxSteps:=9^9) (disch:=omega) only [wq]|with_reducible refine zM (fun hb=>?_) (fun hb=>?_)<;>try simp only [hb]|with_reducible refine And.intro (by first|omega|(simp;done)|(simp;omega)) ?_|simp (maxSteps:=9^9) -implicitDefEqProofs only [go_sem,d,bD,bytesD,Bd.none,Option.isSome_none]))
  rfl
 | x :: l, hl,hd =>
  have hx:(x::l)[0]?=some x:=rfl
  have f0:=flat_at (f:=treeC) treeC_len hx
  simp only [Nat.zero_mul,List.drop_zero] at f0
  have n0:(((x::l).length:Int)==0)=false:=by rw [beq_eq_false_iff_ne,List.length_cons];omega
  have n1:(0:Int)<((x::l).length:Int):=by rw [List.length_cons];omega
  have n1':0<(x::l).length:=by rw [List.length_cons];omega
  have n2:1≤(x::l).length:=by rw [List.length_cons];omega
  have dr:=flat_drop (f:=treeC) treeC_len (x::l) 1
  have dl:(x::l).length-1=l.length:=by simp
  have dl2:(((x::l).length:Int)-1)=(l.length:Int):=by rw [List.length_cons];omega
  have hdr:(x::l).drop 1=l:=rfl
  rw [hdr] at dr
  simp only [Nat.one_mul] at dr
  have hd2: ∀ y∈l,y.data.length≤1000000000:=fun y hy=>hd y (by simp [hy])
  have hl2:l.length≤100000000:=by rw [List.length_cons] at hl;omega
  have hname: ∀ k:Nat,1≤k→k≤5→Spec Tryz.prog G 92 [.c (.v (.int .u8 (k:Int)))] (.one (.c (.v (.string ⟨(ordN (UInt8.ofNat k)).toArray⟩)))):=fun k h1 h2=>by
   have e:(UInt8.ofNat k).toNat=k:=UInt8.toNat_ofNat_of_lt' (by simp only [UInt8.size];omega)
   have h:=rname_m (G:=G) (UInt8.ofNat k) (by rw [e];exact ⟨h1,h2⟩)
   unfold bD at h
   rw [e] at h
   exact h
  have his:=fun w=>isref_m (G:=G) x rfl w
  have hR : ∀ o,rangeT isV (x::l)=o→o=match findW x ordW 1 with
    | none=>none
    | some o=>match endT l wG with
     | none=>none
     | some (lo,l1)=>match endT l1 wL with
      | none=>none
      | some (hi,l2)=>if emptyL l2&&mayR isV (UInt8.ofNat o) lo hi then some (.mk 6 [] [] (UInt8.ofNat o) lo hi) else none:=fun o h=>by rw [← h];rfl
  clear hd hdr hx
  generalize hRo:rangeT isV (x::l)=R at *
  have hR:=hR R rfl
  generalize x::l=L at *
  cases hF:findW x ordW 1 with
  | none =>
   rw [hF] at hR
   subst hR
   refine ⟨zTg,⟨fun p h=>(by cases h),?_⟩⟩
   rw [zTg,tagC_mk]
   refine spec_of Tryz.func150 rfl rfl rfl (by kernel_rfl) rfl fun K=>?_
   (repeat' (first|with_reducible (first|refine zA fun Kn hK=>?_|refine zU ?_|refine Nx.go ?_|go_step)|with_reducible (first|refine zI ?_|refine zV ?_)|simp (maxSteps:=9^9) (disch:=omega) only [wq]|with_reducible refine zM (fun hb=>?_) (fun hb=>?_)<;>try simp only [hb]|with_reducible refine And.intro (by first|omega|(simp;done)|(simp;omega)) ?_|simp (maxSteps:=9^9) -implicitDefEqProofs only [go_sem,n0,bD,bytesD,Bd.none,Option.isSome_none]))
   refine sound_loopR (fun x_1:{k:Nat // 1≤k∧k≤6∧findW x ordW 1=findW x (ordW.drop (k-1)) k}=>⟨[(0,vD (.sl L.length (L.flatMap treeC))),(2,vP 2 0),(4,.a (.c (.d (.v (.int .u8 (x_1.1:Int))))))],[(2,some ⟨35,zeroOf Tryz.prog 35,true,false⟩)]⟩) (fun x=>6-x.1) ⟨1,by simp⟩ [] (by (iterate 2 ((try simp (maxSteps:=9^9) -implicitDefEqProofs only [go_sem,true_and]);(try simp (maxSteps:=9^9) (disch:=omega) only [wq])));try simp) (fun ⟨k,h1,h2,hk⟩=>?_)
   by_cases hlt:k≤5
   ·have hb:decide ((k:Int)≤5)=true:=by simp;omega
    have hn:=hname k h1 hlt
    have hi:=his (ordN (UInt8.ofNat k))
    rw [ordW_drop h1 hlt,findW] at hk
    generalize ordN (UInt8.ofNat k)=w at *
    cases hq:isB x w with
    | true =>
     rw [hq,if_pos rfl,hF] at hk
     cases hk
    | false =>
     rw [hq] at hi
     rw [hq,if_neg (by simp)] at hk
     (repeat' (first|with_reducible (first|refine zA fun Kn hK=>?_|refine zU ?_|refine Nx.go ?_|go_step)|refine ⟨_,hn,?_⟩|refine ⟨_,hi,?_⟩|with_reducible (first|refine zI ?_|refine zV ?_)|simp (maxSteps:=9^9) (disch:=omega) only [wq]|with_reducible refine zM (fun hb=>?_) (fun hb=>?_)<;>try simp only [hb]|with_reducible refine And.intro (by first|omega|(simp;done)|(simp;omega)) ?_|simp (maxSteps:=9^9) -implicitDefEqProofs only [go_sem,hb,n1,n1',f0]))
     refine ⟨[],⟨k+1,by omega,by omega,by rw [Nat.add_sub_cancel];exact hk⟩,?_⟩
     (iterate 2 ((try simp (maxSteps:=9^9) -implicitDefEqProofs only [go_sem,true_and]);(try simp (maxSteps:=9^9) (disch:=omega) only [wq])))
     (simp only [ijq,true_and,and_true];first|done|omega|(split<;>omega)|(simp;done)|(simp;omega))
   ·have hb:decide ((k:Int)≤5)=false:=by simp;omega
    (repeat' (first|with_reducible (first|refine zA fun Kn hK=>?_|refine zU ?_|refine Nx.go ?_|go_step)|with_reducible (first|refine zI ?_|refine zV ?_)|simp (maxSteps:=9^9) (disch:=omega) only [wq]|with_reducible refine zM (fun hb=>?_) (fun hb=>?_)<;>try simp only [hb]|with_reducible refine And.intro (by first|omega|(simp;done)|(simp;omega)) ?_|simp (maxSteps:=9^9) -implicitDefEqProofs only [go_sem,hb,n1,n1',f0,bD]))
    try rfl
  | some o =>
   obtain ⟨lo,l1,E1⟩:=rend12_m (G:=G) l wG (by decide) hl2
   obtain ⟨hi,l2,E2⟩:=rend12_m (G:=G) l1 wL (by decide) (by have:=E1.len;omega)
   have ho : 1≤o∧o≤5:=by
    have: ∀ (ws:List (List UInt8)) (k:Nat),findW x ws k=some o→k≤o∧o<k+ws.length:=by
     intro ws
     induction ws with
     | nil=>intro k h;cases h
     | cons w ws ih =>
      intro k h
      rw [findW] at h
      split at h
      ·injection h with h
       rw [List.length_cons]
       omega
      ·have:=ih _ h
       rw [List.length_cons]
       omega
    have h:=this ordW 1 hF
    have:ordW.length=5:=rfl
    omega
   have eo:((UInt8.ofNat o).toNat:Int)=(o:Int):=by
    rw [UInt8.toNat_ofNat_of_lt' (by simp only [UInt8.size];omega)]
   have hsome:R.isSome=((endT l wG).isSome&&((endT l1 wL).isSome&&(emptyL l2&&mayR isV (UInt8.ofNat o) lo hi)))∧ ∀ p,R=some p→p= .mk 6 [] [] (UInt8.ofNat o) lo hi:=by
    rw [hR,hF]
    dsimp only
    cases h1:endT l wG with
    | none=>exact ⟨rfl,fun p h=>by cases h⟩
    | some q1 =>
     have e1:=E1.is q1 h1
     subst e1
     dsimp only
     cases h2:endT l1 wL with
     | none=>exact ⟨rfl,fun p h=>by cases h⟩
     | some q2 =>
      have e2:=E2.is q2 h2
      subst e2
      dsimp only
      cases emptyL l2&&mayR isV (UInt8.ofNat o) lo hi with
      | false=>exact ⟨rfl,fun p h=>by cases h⟩
      | true=>exact ⟨rfl,fun p h=>by injection h with h;exact h.symm⟩
   refine ⟨_,⟨hsome.2,?_⟩⟩
   rw [hsome.1,tagC_mk]
   have tx: ∀ (b:Bd) (k:List Tree),(∀ y∈k,y.data.length≤1000000000)→(b.txt=[]∨ ∃ y∈k,b.txt=y.data)→b.txt.length≤1000000000:=fun b k hk h=>by
    rcases h with h|⟨y,hy,h⟩<;>rw [h]
    ·simp
    ·exact hk y hy
   have hm:=rmay11_m (G:=G) (UInt8.ofNat o) lo hi (tx lo l hd2 E1.txt) (tx hi l1 (fun y hy=>hd2 y (E1.mem y hy)) E2.txt)
   have e1:=E1.spec
   have e2:=E2.spec
   have e0:=len0_empty l2
   clear hsome E1 E2 tx hR hRo
   generalize (endT l wG).isSome=p1 at *
   generalize (endT l1 wL).isSome=p2 at *
   unfold wG at e1
   unfold wL at e2
   unfold bdD at e1 e2 hm
   generalize mayR isV (UInt8.ofNat o) lo hi=q at *
   unfold bD at hm ⊢
   rw [eo] at hm ⊢
   generalize emptyL l2=z at *
   refine spec_of Tryz.func150 rfl rfl rfl (by kernel_rfl) rfl fun K=>?_
   (repeat' (first|with_reducible (first|refine zA fun Kn hK=>?_|refine zU ?_|refine Nx.go ?_|go_step)|with_reducible (first|refine zI ?_|refine zV ?_)|simp (maxSteps:=9^9) (disch:=omega) only [wq]|with_reducible refine zM (fun hb=>?_) (fun hb=>?_)<;>try simp only [hb]|with_reducible refine And.intro (by first|omega|(simp;done)|(simp;omega)) ?_|simp (maxSteps:=9^9) -implicitDefEqProofs only [go_sem,n0,bD,bytesD]))
   refine sound_loopR (fun x_1:{k:Nat // 1≤k∧k≤6∧findW x ordW 1=findW x (ordW.drop (k-1)) k}=>⟨[(0,vD (.sl L.length (L.flatMap treeC))),(2,vP 2 0),(4,.a (.c (.d (.v (.int .u8 (x_1.1:Int))))))],[(2,some ⟨35,zeroOf Tryz.prog 35,true,false⟩)]⟩) (fun x=>6-x.1) ⟨1,by simp⟩ [] (by (iterate 2 ((try simp (maxSteps:=9^9) -implicitDefEqProofs only [go_sem,true_and]);(try simp (maxSteps:=9^9) (disch:=omega) only [wq])));try simp) (fun ⟨k,h1,h2,hk⟩=>?_)
   by_cases hlt:k≤5
   ·have hb:decide ((k:Int)≤5)=true:=by simp;omega
    have hn:=hname k h1 hlt
    have hi':=his (ordN (UInt8.ofNat k))
    rw [ordW_drop h1 hlt,findW] at hk
    generalize ordN (UInt8.ofNat k)=w at *
    cases hq:isB x w with
    | true =>
     rw [hq,if_pos rfl,hF] at hk
     injection hk with hk
     subst hk
     rw [hq] at hi'
     cases p1<;>cases p2<;>cases z
     all_goals
      (repeat' (first|with_reducible (first|refine zA fun Kn hK=>?_|refine zU ?_|refine Nx.go ?_|go_step)|refine ⟨_,hn,?_⟩|refine ⟨_,hi',?_⟩|refine ⟨_,e1,?_⟩|refine ⟨_,e2,?_⟩|refine ⟨_,hm,?_⟩|with_reducible (first|refine zI ?_|refine zV ?_)|simp (maxSteps:=9^9) (disch:=omega) only [wq]|with_reducible refine zM (fun hb=>?_) (fun hb=>?_)<;>try simp only [hb]|with_reducible refine And.intro (by first|omega|(simp;done)|(simp;omega)) ?_|simp (maxSteps:=9^9) -implicitDefEqProofs only [go_sem,hb,n1,n1',n2,dr,dl,dl2,e0,f0,decide_true]))
      all_goals rfl
    | false =>
     rw [hq] at hi'
     rw [hq,if_neg (by simp)] at hk
     (repeat' (first|with_reducible (first|refine zA fun Kn hK=>?_|refine zU ?_|refine Nx.go ?_|go_step)|refine ⟨_,hn,?_⟩|refine ⟨_,hi',?_⟩|with_reducible (first|refine zI ?_|refine zV ?_)|simp (maxSteps:=9^9) (disch:=omega) only [wq]|with_reducible refine zM (fun hb=>?_) (fun hb=>?_)<;>try simp only [hb]|with_reducible refine And.intro (by first|omega|(simp;done)|(simp;omega)) ?_|simp (maxSteps:=9^9) -implicitDefEqProofs only [go_sem,hb,n1,n1',f0]))
     refine ⟨[],⟨k+1,by omega,by omega,by rw [Nat.add_sub_cancel];exact hk⟩,?_⟩
     (iterate 2 ((try simp (maxSteps:=9^9) -implicitDefEqProofs only [go_sem,true_and]);(try simp (maxSteps:=9^9) (disch:=omega) only [wq])))
     (simp only [ijq,true_and,and_true];first|done|omega|(split<;>omega)|(simp;done)|(simp;omega))
   ·exfalso
    obtain rfl:k=6:=by omega
    rw [hF] at hk
    cases hk
theorem rget12_m: ∀ v:Tree,∀ cs:List D,treeC v=cs→v.wt≤30000000→ ∃ u,TagR G 127 (.g cs) (getT isV v) u:=Tree.ind fun v ih cs hcs hw=>by
 subst hcs
 have hh:=headref_m (G:=G) v rfl wStar
 have h5:=v.wt_kids
 have hd: ∀ x∈v.kids,x.data.length≤1000000000:=fun x hx=>by
  have h1:=Tree.wt_kid hx
  have h2:=Tree.wt_data x
  omega
 have htg: ∀ k,Spec Tryz.prog G 149 [.c (.sl (v.kids.drop k).length ((v.kids.drop k).flatMap treeC))] (.many [.c (.sl (preS ((v.kids.drop k).map (getT isV))).length ((preS ((v.kids.drop k).map (getT isV))).flatMap tagC)),.c (.v (.bool (allSome ((v.kids.drop k).map (getT isV))).isSome))]):=fun k=>by
  refine rtags12_w (getT isV) (v.kids.drop k) (by rw [List.length_drop];omega) fun x hx=>?_
  have hx:=List.mem_of_mem_drop hx
  exact ih x hx _ rfl (by have:=Tree.wt_kid hx;omega)
 clear ih
 rw [getT_eq]
 have ev:=treeC_eq v
 rw [ev] at hh ⊢
 unfold wStar at hh
 cases hl:v.list with
 | false =>
  rw [if_neg (by simp)]
  rw [hl] at hh
  refine ⟨aTg v.data,⟨fun p h=>?_,?_⟩⟩
  ·cases hb:v.hinted<;>rw [hb] at h
   ·rw [if_neg (by simp)] at h
    injection h with h
    exact h.symm
   ·rw [if_pos rfl] at h
    cases h
  ·rw [aTg,tagC_mk]
   cases hb:v.hinted
   ·rw [if_neg (by simp)]
    refine spec_of Tryz.func127 rfl rfl rfl (by kernel_rfl) rfl fun K=>?_
    (repeat' (first|with_reducible (first|refine zA fun Kn hK=>?_|refine zU ?_|refine Nx.go ?_|go_step)|with_reducible (first|refine zI ?_|refine zV ?_)|simp (maxSteps:=9^9) (disch:=omega) only [wq]|with_reducible refine zM (fun hb=>?_) (fun hb=>?_)<;>try simp only [hb]|with_reducible refine And.intro (by first|omega|(simp;done)|(simp;omega)) ?_|simp (maxSteps:=9^9) -implicitDefEqProofs only [go_sem,bD,bytesD,Bd.none,Option.isSome_some]))
    all_goals rfl
   ·rw [if_pos rfl]
    refine spec_of Tryz.func127 rfl rfl rfl (by kernel_rfl) rfl fun K=>?_
    (repeat' (first|with_reducible (first|refine zA fun Kn hK=>?_|refine zU ?_|refine Nx.go ?_|go_step)|with_reducible (first|refine zI ?_|refine zV ?_)|simp (maxSteps:=9^9) (disch:=omega) only [wq]|with_reducible refine zM (fun hb=>?_) (fun hb=>?_)<;>try simp only [hb]|with_reducible refine And.intro (by first|omega|(simp;done)|(simp;omega)) ?_|simp (maxSteps:=9^9) -implicitDefEqProofs only [go_sem,bD,bytesD,Bd.none,Option.isSome_none]))
    all_goals rfl
 | true =>
  rw [if_pos rfl]
  rw [hl] at hh
  cases hb:headB v wStar with
  | false =>
   unfold wStar at hb
   rw [hb] at hh
   rw [if_neg (by simp)]
   have hs:=htg 0
   simp only [List.drop_zero] at hs
   have hp: ∀ p,allSome (v.kids.map (getT isV))=some p→p=preS (v.kids.map (getT isV)):=fun p h=>preS_of h
   generalize preS (v.kids.map (getT isV))=P at *
   generalize allSome (v.kids.map (getT isV))=A at *
   refine ⟨kTg 3 P,⟨fun p h=>?_,?_⟩⟩
   ·obtain ⟨q,hq,rfl⟩:=Option.map_eq_some_iff.1 h
    rw [hp q hq]
   ·rw [kTg,tagC_mk]
    cases A
    all_goals
     refine spec_of Tryz.func127 rfl rfl rfl (by kernel_rfl) rfl fun K=>?_
     (repeat' (first|with_reducible (first|refine zA fun Kn hK=>?_|refine zU ?_|refine Nx.go ?_|go_step)|refine ⟨_,hh,?_⟩|refine ⟨_,hs,?_⟩|with_reducible (first|refine zI ?_|refine zV ?_)|simp (maxSteps:=9^9) (disch:=omega) only [wq]|with_reducible refine zM (fun hb=>?_) (fun hb=>?_)<;>try simp only [hb]|with_reducible refine And.intro (by first|omega|(simp;done)|(simp;omega)) ?_|simp (maxSteps:=9^9) -implicitDefEqProofs only [go_sem,bD,bytesD,Bd.none]))
     all_goals rfl
  | true =>
   have hk:v.kids≠[]:=fun e=>by
    unfold headB at hb
    rw [e] at hb
    simp at hb
   unfold wStar at hb
   rw [hb] at hh
   rw [if_pos rfl]
   have n9:1≤v.kids.length:=List.length_pos_iff.2 hk
   have er:=flat_drop (f:=treeC) treeC_len v.kids 1
   have el:v.kids.length-1=(v.kids.drop 1).length:=by rw [List.length_drop]
   have el2:((v.kids.length:Int)-1)=((v.kids.drop 1).length:Int):=by rw [List.length_drop];omega
   simp only [Nat.one_mul] at er
   have hs:=htg 2
   have hM2:v.kids.drop 2=(v.kids.drop 1).drop 1:=by rw [List.drop_drop]
   have hMm:(v.kids.map (getT isV)).drop 2=((v.kids.drop 1).drop 1).map (getT isV):=by rw [← List.map_drop,hM2]
   have hdM: ∀ x∈v.kids.drop 1,x.data.length≤1000000000:=fun x hx=>hd x (List.mem_of_mem_drop hx)
   have hlM:(v.kids.drop 1).length≤30000000:=by rw [List.length_drop];omega
   rw [hM2] at hs
   rw [hMm]
   clear hM2 hMm htg hd
   generalize v.kids.drop 1=M at *
   match M,hs,el,el2,er,hdM,hlM with
   | [],hs,el,el2,er,hdM,hlM =>
    have d:(((([]:List Tree).length:Nat):Int)==0)=true:=rfl
    rw [show ∀ s,starT isV [] s=some (kTg 1 []) from fun _=>rfl]
    refine ⟨kTg 1 [],⟨fun p h=>(by injection h with h;exact h.symm),?_⟩⟩
    rw [kTg,tagC_mk]
    generalize ([]:List Tree)=L at *
    refine spec_of Tryz.func127 rfl rfl rfl (by kernel_rfl) rfl fun K=>?_
    (repeat' (first|with_reducible (first|refine zA fun Kn hK=>?_|refine zU ?_|refine Nx.go ?_|go_step)|refine ⟨_,hh,?_⟩|with_reducible (first|refine zI ?_|refine zV ?_)|simp (maxSteps:=9^9) (disch:=omega) only [wq]|with_reducible refine zM (fun hb=>?_) (fun hb=>?_)<;>try simp only [hb]|with_reducible refine And.intro (by first|omega|(simp;done)|(simp;omega)) ?_|simp (maxSteps:=9^9) -implicitDefEqProofs only [go_sem,n9,el,el2,er,d,bD,bytesD,Bd.none,Option.isSome_some]))
    all_goals rfl
   | x :: l, hs,el,el2,er,hdM,hlM =>
    have hx:(x::l)[0]?=some x:=rfl
    have f0:=flat_at (f:=treeC) treeC_len hx
    simp only [Nat.zero_mul,List.drop_zero] at f0
    have n0:(((x::l).length:Int)==0)=false:=by rw [beq_eq_false_iff_ne,List.length_cons];omega
    have n1:(0:Int)<((x::l).length:Int):=by rw [List.length_cons];omega
    have n1':0<(x::l).length:=by rw [List.length_cons];omega
    have n2:1≤(x::l).length:=by rw [List.length_cons];omega
    have dr:=flat_drop (f:=treeC) treeC_len (x::l) 1
    have dl:(x::l).length-1=l.length:=by simp
    have dl2:(((x::l).length:Int)-1)=(l.length:Int):=by rw [List.length_cons];omega
    have hdr:(x::l).drop 1=l:=rfl
    rw [hdr] at dr hs ⊢
    simp only [Nat.one_mul] at dr
    have his:=fun w=>isref_m (G:=G) x rfl w
    have i1:=his wSet
    have i2:=his wPrefix
    have i3:=his wRange
    have hp: ∀ p,allSome (l.map (getT isV))=some p→p=preS (l.map (getT isV)):=fun p h=>preS_of h
    obtain ⟨ru,hru⟩:=rranged12_m (G:=G) l (by rw [List.length_cons] at hlM;omega) (fun y hy=>hdM y (by simp [hy]))
    have hrs:=hru.spec
    have hst: ∀ sub,starT isV (x::l) sub=if isB x wSet then sub.map (kTg 4) else if isB x wPrefix then prefT l else if isB x wRange then rangeT isV l else none:=fun _=>rfl
    rw [hst]
    clear hst
    generalize preS (l.map (getT isV))=P at *
    generalize allSome (l.map (getT isV))=A at *
    cases q1:isB x wSet with
    | true =>
     rw [q1] at i1
     unfold wSet at i1
     rw [if_pos rfl]
     clear hdr hx
     generalize x::l=L at *
     refine ⟨kTg 4 P,⟨fun p h=>?_,?_⟩⟩
     ·obtain ⟨q,hq,rfl⟩:=Option.map_eq_some_iff.1 h
      rw [hp q hq]
     ·rw [kTg,tagC_mk]
      cases A
      all_goals
       refine spec_of Tryz.func127 rfl rfl rfl (by kernel_rfl) rfl fun K=>?_
       (repeat' (first|with_reducible (first|refine zA fun Kn hK=>?_|refine zU ?_|refine Nx.go ?_|go_step)|refine ⟨_,hh,?_⟩|refine ⟨_,hs,?_⟩|refine ⟨_,i1,?_⟩|with_reducible (first|refine zI ?_|refine zV ?_)|simp (maxSteps:=9^9) (disch:=omega) only [wq]|with_reducible refine zM (fun hb=>?_) (fun hb=>?_)<;>try simp only [hb]|with_reducible refine And.intro (by first|omega|(simp;done)|(simp;omega)) ?_|simp (maxSteps:=9^9) -implicitDefEqProofs only [go_sem,n9,el,el2,er,n0,n1,n1',n2,dr,dl,dl2,f0,bD,bytesD,Bd.none]))
       all_goals rfl
    | false =>
     rw [q1] at i1
     unfold wSet at i1
     rw [if_neg (by simp)]
     cases q2:isB x wPrefix with
     | true =>
      have q3:isB x wRange=false:=by
       unfold isB at q2 ⊢
       simp only [Bool.and_eq_true,beq_iff_eq] at q2
       rw [q2.2]
       simp [wPrefix,wRange]
      rw [q2] at i2
      rw [q3] at i3
      unfold wPrefix at i2
      unfold wRange at i3
      rw [if_pos rfl]
      match l,hs,hdr,hx,f0,n0,n1,n1',n2,dr,dl,dl2,el,el2,er,hdM,hlM with
      | [],hs,hdr,hx,f0,n0,n1,n1',n2,dr,dl,dl2,el,el2,er,hdM,hlM =>
       rw [show prefT []=none from rfl]
       have d:((([x]:List Tree).length:Int)==2)=false:=rfl
       refine ⟨zTg,⟨fun p h=>(by cases h),?_⟩⟩
       rw [zTg,tagC_mk]
       clear hdr hx
       generalize [x]=L at *
       refine spec_of Tryz.func127 rfl rfl rfl (by kernel_rfl) rfl fun K=>?_
       (repeat' (first|with_reducible (first|refine zA fun Kn hK=>?_|refine zU ?_|refine Nx.go ?_|go_step)|refine ⟨_,hh,?_⟩|refine ⟨_,i1,?_⟩|refine ⟨_,i2,?_⟩|refine ⟨_,i3,?_⟩|with_reducible (first|refine zI ?_|refine zV ?_)|simp (maxSteps:=9^9) (disch:=omega) only [wq]|with_reducible refine zM (fun hb=>?_) (fun hb=>?_)<;>try simp only [hb]|with_reducible refine And.intro (by first|omega|(simp;done)|(simp;omega)) ?_|simp (maxSteps:=9^9) -implicitDefEqProofs only [go_sem,n9,el,el2,er,n0,n1,n1',n2,d,f0,bD,bytesD,Bd.none,Option.isSome_none]))
       all_goals rfl
      | [y],hs,hdr,hx,f0,n0,n1,n1',n2,dr,dl,dl2,el,el2,er,hdM,hlM =>
       have hy:[x,y][1]?=some y:=rfl
       obtain ⟨a0,a1,a3,a4⟩:=tree_at hy
       simp only [Nat.reduceMul,Nat.reduceAdd,Nat.one_mul] at a0 a1 a3 a4
       have d:((([x,y]:List Tree).length:Int)==2)=true:=rfl
       have m1:(1:Int)<(([x,y]:List Tree).length:Int):=by simp
       have m1':1<([x,y]:List Tree).length:=by simp
       rw [show prefT [y]=if y.list||y.hinted then none else some (.mk 5 y.data [] 0 Bd.none Bd.none) from rfl]
       refine ⟨.mk 5 y.data [] 0 Bd.none Bd.none,⟨fun p h=>?_,?_⟩⟩
       ·split at h
        ·cases h
        ·injection h with h
         exact h.symm
       rw [tagC_mk]
       clear hdr hx hy
       generalize [x,y]=L at *
       generalize y.list=r1 at *
       generalize y.hinted=r2 at *
       cases r1<;>cases r2
       all_goals
        refine spec_of Tryz.func127 rfl rfl rfl (by kernel_rfl) rfl fun K=>?_
        (repeat' (first|with_reducible (first|refine zA fun Kn hK=>?_|refine zU ?_|refine Nx.go ?_|go_step)|refine ⟨_,hh,?_⟩|refine ⟨_,i1,?_⟩|refine ⟨_,i2,?_⟩|refine ⟨_,i3,?_⟩|with_reducible (first|refine zI ?_|refine zV ?_)|simp (maxSteps:=9^9) (disch:=omega) only [wq]|with_reducible refine zM (fun hb=>?_) (fun hb=>?_)<;>try simp only [hb]|with_reducible refine And.intro (by first|omega|(simp;done)|(simp;omega)) ?_|simp (maxSteps:=9^9) -implicitDefEqProofs only [go_sem,n9,el,el2,er,n0,n1,n1',n2,d,m1,m1',a0,a1,a3,f0,bD,bytesD,Bd.none,decide_true]))
        all_goals rfl
      | y::z::l,hs,hdr,hx,f0,n0,n1,n1',n2,dr,dl,dl2,el,el2,er,hdM,hlM =>
       rw [show prefT (y::z::l)=none from rfl]
       have d:(((x::y::z::l:List Tree).length:Int)==2)=false:=by rw [beq_eq_false_iff_ne,List.length_cons,List.length_cons,List.length_cons];omega
       refine ⟨zTg,⟨fun p h=>(by cases h),?_⟩⟩
       rw [zTg,tagC_mk]
       clear hdr hx
       generalize x::y::z::l=L at *
       refine spec_of Tryz.func127 rfl rfl rfl (by kernel_rfl) rfl fun K=>?_
       (repeat' (first|with_reducible (first|refine zA fun Kn hK=>?_|refine zU ?_|refine Nx.go ?_|go_step)|refine ⟨_,hh,?_⟩|refine ⟨_,i1,?_⟩|refine ⟨_,i2,?_⟩|refine ⟨_,i3,?_⟩|with_reducible (first|refine zI ?_|refine zV ?_)|simp (maxSteps:=9^9) (disch:=omega) only [wq]|with_reducible refine zM (fun hb=>?_) (fun hb=>?_)<;>try simp only [hb]|with_reducible refine And.intro (by first|omega|(simp;done)|(simp;omega)) ?_|simp (maxSteps:=9^9) -implicitDefEqProofs only [go_sem,n9,el,el2,er,n0,n1,n1',n2,d,f0,bD,bytesD,Bd.none,Option.isSome_none]))
       all_goals rfl
     | false =>
      rw [q2] at i2
      unfold wPrefix at i2
      rw [if_neg (by simp)]
      clear hdr hx
      generalize x::l=L at *
      cases q3:isB x wRange with
      | true =>
       rw [q3] at i3
       unfold wRange at i3
       rw [if_pos rfl]
       refine ⟨ru,⟨hru.is,?_⟩⟩
       generalize rangeT isV l=R at *
       rw [tagC_eq] at hrs ⊢
       refine spec_of Tryz.func127 rfl rfl rfl (by kernel_rfl) rfl fun K=>?_
       (repeat' (first|with_reducible (first|refine zA fun Kn hK=>?_|refine zU ?_|refine Nx.go ?_|go_step)|refine ⟨_,hh,?_⟩|refine ⟨_,i1,?_⟩|refine ⟨_,i2,?_⟩|refine ⟨_,i3,?_⟩|refine ⟨_,hrs,?_⟩|with_reducible (first|refine zI ?_|refine zV ?_)|simp (maxSteps:=9^9) (disch:=omega) only [wq]|with_reducible refine zM (fun hb=>?_) (fun hb=>?_)<;>try simp only [hb]|with_reducible refine And.intro (by first|omega|(simp;done)|(simp;omega)) ?_|simp (maxSteps:=9^9) -implicitDefEqProofs only [go_sem,n9,el,el2,er,n0,n1,n1',n2,dr,dl,dl2,f0,bD,bytesD]))
       all_goals rfl
      | false =>
       rw [q3] at i3
       unfold wRange at i3
       rw [if_neg (by simp)]
       refine ⟨zTg,⟨fun p h=>(by cases h),?_⟩⟩
       rw [zTg,tagC_mk]
       refine spec_of Tryz.func127 rfl rfl rfl (by kernel_rfl) rfl fun K=>?_
       (repeat' (first|with_reducible (first|refine zA fun Kn hK=>?_|refine zU ?_|refine Nx.go ?_|go_step)|refine ⟨_,hh,?_⟩|refine ⟨_,i1,?_⟩|refine ⟨_,i2,?_⟩|refine ⟨_,i3,?_⟩|refine ⟨_,hrs,?_⟩|with_reducible (first|refine zI ?_|refine zV ?_)|simp (maxSteps:=9^9) (disch:=omega) only [wq]|with_reducible refine zM (fun hb=>?_) (fun hb=>?_)<;>try simp only [hb]|with_reducible refine And.intro (by first|omega|(simp;done)|(simp;omega)) ?_|simp (maxSteps:=9^9) -implicitDefEqProofs only [go_sem,n9,el,el2,er,n0,n1,n1',n2,dr,dl,dl2,f0,bD,bytesD,Bd.none,Option.isSome_none]))
       all_goals rfl
theorem rGet12_m (v:Tree) {cs:List D} (hcs:treeC v=cs) (hw:v.wt≤30000000):Spec Tryz.prog G 108 [.g cs] (match (if v.may then getT isV v else none) with
  | some t=> .many [.g (tagC t),.c (.v (.bool true))]
  | none=> .many [.g (tagC zTg),.c (.v (.bool false))]):=by
 subst hcs
 have h1:=may_m (G:=G) v rfl hw
 obtain ⟨u,hu⟩:=rget12_m (G:=G) v _ rfl hw
 have h2:=hu.spec
 have h3:=hu.is
 clear hu
 rw [treeC_eq] at h1 h2 ⊢
 cases hm:v.may with
 | false =>
  rw [hm] at h1
  rw [if_neg (by simp)]
  dsimp only
  rw [zTg,tagC_mk]
  refine spec_of Tryz.func108 rfl rfl rfl (by kernel_rfl) rfl fun K=>?_
  (repeat' (first|with_reducible (first|refine zA fun Kn hK=>?_|refine zU ?_|refine Nx.go ?_|go_step)|refine ⟨_,h1,?_⟩|with_reducible (first|refine zI ?_|refine zV ?_)|simp (maxSteps:=9^9) (disch:=omega) only [wq]|with_reducible refine zM (fun hb=>?_) (fun hb=>?_)<;>try simp only [hb]|with_reducible refine And.intro (by first|omega|(simp;done)|(simp;omega)) ?_|simp (maxSteps:=9^9) -implicitDefEqProofs only [go_sem,bD,bytesD,Bd.none]))
  all_goals rfl
 | true =>
  rw [hm] at h1
  rw [if_pos rfl]
  generalize getT isV v=o at *
  cases o with
  | none =>
   dsimp only
   rw [tagC_eq u] at h2
   rw [zTg,tagC_mk]
   refine spec_of Tryz.func108 rfl rfl rfl (by kernel_rfl) rfl fun K=>?_
   (repeat' (first|with_reducible (first|refine zA fun Kn hK=>?_|refine zU ?_|refine Nx.go ?_|go_step)|refine ⟨_,h1,?_⟩|refine ⟨_,h2,?_⟩|with_reducible (first|refine zI ?_|refine zV ?_)|simp (maxSteps:=9^9) (disch:=omega) only [wq]|with_reducible refine zM (fun hb=>?_) (fun hb=>?_)<;>try simp only [hb]|with_reducible refine And.intro (by first|omega|(simp;done)|(simp;omega)) ?_|simp (maxSteps:=9^9) -implicitDefEqProofs only [go_sem,bD,bytesD,Bd.none,Option.isSome_none]))
   all_goals rfl
  | some t =>
   obtain rfl:=h3 t rfl
   dsimp only
   rw [tagC_eq] at h2 ⊢
   refine spec_of Tryz.func108 rfl rfl rfl (by kernel_rfl) rfl fun K=>?_
   (repeat' (first|with_reducible (first|refine zA fun Kn hK=>?_|refine zU ?_|refine Nx.go ?_|go_step)|refine ⟨_,h1,?_⟩|refine ⟨_,h2,?_⟩|with_reducible (first|refine zI ?_|refine zV ?_)|simp (maxSteps:=9^9) (disch:=omega) only [wq]|with_reducible refine zM (fun hb=>?_) (fun hb=>?_)<;>try simp only [hb]|with_reducible refine And.intro (by first|omega|(simp;done)|(simp;omega)) ?_|simp (maxSteps:=9^9) -implicitDefEqProofs only [go_sem,bD,bytesD,Option.isSome_some]))
   all_goals rfl
end
section
variable {G:Nat→Option (List D)}
end
theorem great_nodes {t:Tg} (h:t.great 0=false):t.nodes≤1000:=by
 rw [Tg.great_eq] at h
 simp at h
 omega
section
variable {G:Nat→Option (List D)}
end
theorem bd_wt {o:UInt8} {b:Bd} {w:List UInt8} (h:mayE isV o b=true):b.txt.length≤((bdT b w).map Tree.wt).sum:=by
 unfold mayE at h
 unfold bdT
 split
 ·simp only [List.map_cons,List.map_nil,List.sum_cons,List.sum_nil,wt_atomT]
  omega
 ·rename_i hb
  rw [if_neg hb] at h
  simp only [Bool.and_eq_true,emptyL_iff] at h
  rw [h.2]
  simp
theorem wt_val: ∀ t:Tg,t.right isV=true→t.wt≤t.val.wt:=by
 refine Tg.ind fun t ih h=>?_
 rw [Tg.right_eq,Bool.and_eq_true,List.all_eq_true] at h
 obtain ⟨hok,hk⟩:=h
 have hs: ∀ l:List Tg,(∀ x∈l,x.wt≤x.val.wt)→(l.map Tg.wt).sum≤((l.map Tg.val).map Tree.wt).sum:=by
  intro l
  induction l with
  | nil=>simp
  | cons x l ih =>
   intro h
   have h0:=h x (by simp)
   have:=ih fun y hy=>h y (by simp [hy])
   simp only [List.map_cons,List.sum_cons]
   omega
 have hk':=hs t.kids fun x hx=>ih x hx (hk x hx)
 rw [Tg.ok,Bool.and_eq_true] at hok
 obtain ⟨hb,_⟩:=hok
 obtain ⟨k,d,l,o,lo,hi⟩:=t
 have hp: ∀ {q:Bool},((Tg.mk k d l o lo hi).plain&&q)=true→lo=Bd.none∧hi=Bd.none∧q=true:=fun {q} h=>by
  rw [Bool.and_eq_true] at h
  have h1:=blank_mk h.1
  exact ⟨h1.2.1,h1.2.2,h.2⟩
 rw [Tg.wt_eq,val_of]
 rw [blank_of] at hb
 simp only [Tg.data,Tg.kids,Tg.lo,Tg.hi] at hk' ⊢
 by_cases h1:k=1
 ·rw [if_pos h1] at hb ⊢
  obtain ⟨rfl,rfl,h⟩:=hp hb
  simp only [Bool.and_eq_true,emptyL_iff] at h
  obtain ⟨rfl,rfl⟩:=h
  simp [wt_listT,wt_atomT,Bd.none]
 rw [if_neg h1] at hb ⊢
 by_cases h2:k=2
 ·rw [if_pos (.inl h2)] at hb
  rw [if_pos h2]
  obtain ⟨rfl,rfl,h⟩:=hp hb
  rw [emptyL_iff] at h
  subst h
  simp [wt_atomT,Bd.none]
 rw [if_neg h2]
 by_cases h5:k=5
 ·rw [if_pos (.inr h5)] at hb
  rw [if_neg (by rw [h5];decide),if_pos h5]
  obtain ⟨rfl,rfl,h⟩:=hp hb
  rw [emptyL_iff] at h
  subst h
  simp [wt_listT,wt_atomT,Bd.none]
  omega
 rw [if_neg (by simp [h2,h5])] at hb
 by_cases h4:k=4
 ·rw [if_pos (.inr h4)] at hb
  rw [if_pos h4]
  obtain ⟨rfl,rfl,h⟩:=hp hb
  rw [emptyL_iff] at h
  subst h
  simp only [wt_listT,wt_atomT,List.map_cons,List.sum_cons,Bd.none,List.length_nil]
  omega
 rw [if_neg h4]
 by_cases h3:k=3
 ·rw [if_pos (.inl h3)] at hb
  rw [if_neg h5,if_neg (by rw [h3];decide)]
  obtain ⟨rfl,rfl,h⟩:=hp hb
  rw [emptyL_iff] at h
  subst h
  simp only [wt_listT,Bd.none,List.length_nil]
  omega
 rw [if_neg (by simp [h3,h4])] at hb
 simp only [Bool.and_eq_true,decide_eq_true_eq,emptyL_iff] at hb
 obtain ⟨h6,hm,rfl,rfl⟩:=hb
 rw [mayR] at hm
 simp only [Bool.and_eq_true] at hm
 have b1:=bd_wt (w:=wG) hm.2.1
 have b2:=bd_wt (w:=wL) hm.2.2
 rw [if_neg h5,if_pos h6]
 simp only [wt_listT,wt_atomT,List.map_cons,List.map_nil,List.map_append,List.sum_append,List.sum_cons,List.sum_nil,List.length_nil]
 omega
section
variable {G:Nat→Option (List D)}
end
def datC:C→C
 | .nil=> .d (.sl 0 [])
 | c=>c
theorem datC_nil:datC .nil= .d (.sl 0 []):=rfl
theorem datC_d (x:D):datC (.d x)= .d x:=rfl
theorem rc_dat {w:World} {S:Nat→Prop} {m:NM} {dom:Nat→Prop} {c:C} {u:Value} (h:RC w S m dom c u):RC w S m dom (datC c) u:=by
 cases c with
 | nil =>
  have hu:u= .slice none 0 0:=h
  subst hu
  exact (show RD w S (.sl 0 []) (.slice none 0 0) from .nil none 0 (by decide))
 | _=>exact h
theorem sound_dataO {P:Program} {G:Nat→Option (List D)} {K:Ctx G} {F:Fr} {Q:Exit→FSt→Prop} {s:FSt} {c:Code} (r:Nat) {o:AObj} (h1:s.ob r=some (some o)) (hne:0<o.cs.length) (hfr:o.fr=false)
  (h:Sound P K F c Q ⟨s.sl,upd s.ob r (some (some { o with cs:=o.cs.map datC }))⟩):Sound P K F c Q s:=fun m a w hr=>by
 refine h m a w ?_
 have hvd:m.vd r=false:=by
  rcases (hr.heap.obj r o h1).row with ⟨_,hcs,_⟩|⟨hv,_⟩
  ·rw [hcs] at hne
   cases hne
  ·exact hv
 have t:Turn K m m s.ob (upd s.ob r (some (some { o with cs:=o.cs.map datC }))) w w (fun x=>x=r):=by
  refine ⟨fun r' hr'=>upd_ne hr',fun r' hr'=>?_,fun _ _=>rfl,fun _ _=>rfl,fun _ _=>rfl,Ev.refl _ _,fun r' hr' ⟨o',h1',h2⟩ hv'=> .inl ⟨r,rfl,⟨o,h1,hfr⟩,hvd,by rw [hr']⟩,fun r1 r2 hr hr' _ _ _ _ _=>hr.trans hr'.symm⟩
  show upd s.ob r _ r'≠none
  unfold upd
  split
  ·simp
  ·exact hr'
 have k:=t.keep hr.heap
 have hh:HRel K m (upd s.ob r (some (some { o with cs:=o.cs.map datC }))) w:=t.rel hr.heap (fun r' o' hr' ho'=>by
   subst hr'
   rw [upd_same] at ho'
   injection ho' with ho'
   injection ho' with ho'
   subst ho'
   rcases (hr.heap.obj r' o h1).row with ⟨hv,_⟩|⟨hv,arr,g1,g2,g3,g4,g5⟩
   ·rw [hvd] at hv
    cases hv
   ·refine ⟨.inr ⟨hv,arr,g1,g2,fun he=>by simpa using g3 he,by simpa using g4,fun j x hx=>?_⟩⟩
    have hx:(o.cs.map datC)[j]?=some x:=hx
    rw [List.getElem?_map,Option.map_eq_some_iff] at hx
    obtain ⟨y,hy,rfl⟩:=hx
    obtain ⟨u,hu,hrc⟩:=g5 j y hy
    exact ⟨u,hu,rc_dat (k.rc hrc)⟩) (fun r' o' hr' ho' hf _=>by
   subst hr'
   rw [upd_same] at ho'
   injection ho' with ho'
   injection ho' with ho'
   subst ho'
   rw [show o.fr=true from hf] at hfr
   cases hfr)
 exact hr.turn (dst:=none) (v:= .bot) (u:=undef) t hh (fun d hd=>by cases hd) trivial
theorem getSb_fit {v:Tree} {s:Sb} (h:getSb v=some s):s.fit:=by
 have h1:=((getS_eq v).1 s h).1
 have hm:v.may=true:=by
  unfold getSb at h
  split at h
  ·assumption
  ·cases h
 rw [← h1]
 exact readS_fit v 1 (may_sm hm)
theorem noneSb_fit:Sb.none.fit:=by
 rw [Sb.fit_eq]
 exact ⟨⟨Nat.zero_le _,Nat.zero_le _,Nat.zero_le _,fun n hn=>by cases hn⟩,fun x hx=>by cases hx⟩
theorem getTg_sz {v:Tree} {t:Tg} (h:getTg v=some t):t.wt≤v.wt∧t.nodes≤512:=by
 obtain ⟨a,b⟩:=getTg_of h
 have hm:v.may=true:=by
  unfold getTg at h
  split at h
  ·assumption
  ·cases h
 rw [tMay,Bool.and_eq_true] at a
 have h1:=wt_val t a.1
 have h2:=val_nodes t a.1
 rw [b] at h1 h2
 have h3:=(may_sm hm).2.1
 exact ⟨h1,by omega⟩
theorem zeroTg_sz:zeroTg.wt=1∧zeroTg.nodes=1:=by
 unfold zeroTg
 rw [Tg.wt_eq,Tg.nodes_eq]
 exact ⟨rfl,rfl⟩
theorem none_fit:Ct.none.fit:=⟨Nat.zero_le _,Nat.zero_le _,noneSb_fit,by show zeroTg.wt≤_;rw [zeroTg_sz.1];omega,by show zeroTg.nodes≤_;rw [zeroTg_sz.2];omega,none_64⟩
theorem getDk_len (x:Tree):((getK x).getD (false,[])).2.length≤64:=by
 cases h:getK x with
 | none=>simp
 | some p =>
  obtain ⟨s,d⟩:=p
  exact getK_kd h
theorem ofP_sm {v:Tree} (h:v.sm): ∀ x∈(ofP v).2.kids,x.data.length≤4096:=by
 intro x hx
 unfold ofP at hx
 split at hx
 ·cases hx
 ·cases hx
 ·rename_i a b m hk
  exact ((h.kid (by rw [hk];simp)).kid hx).data
theorem ofP_wt {v:Tree}:(ofP v).2.wt≤v.wt+1:=by
 unfold ofP
 split
 ·show zeroT.wt≤_
  rw [zeroT_wt]
  omega
 ·show zeroT.wt≤_
  rw [zeroT_wt]
  omega
 ·rename_i a b m hk
  have:=Tree.wt_kid (t:=v) (x:=b) (by rw [hk];simp)
  show b.wt≤_
  omega
theorem step_fit {c:Ct} {v:Tree} (h:c.fit) (hs:v.sm) (hw:v.wt<2000000):(stepC c v).fit:=by
 obtain ⟨f1,f2,f3,f4,f5,f6⟩:=h
 have hk:=ofP_sm hs
 have hx:=ofP_wt (v:=v)
 unfold stepC
 split
 ·unfold issP
  split
  ·rename_i hh
   have g1:=getDk_len ((ofP v).2.kid 1)
   have g2:((ofP v).2.kid 2).data.length≤4096:=by
    obtain ⟨hl,_⟩:=hh
    match hkk:(ofP v).2.kids,hl with
    | [p,q,r],_ =>
     rw [Tree.kid_at (i:=2) (x:=r) (by rw [hkk];rfl)]
     exact hk r (by rw [hkk];simp)
   exact ⟨by show ((getK ((ofP v).2.kid 1)).getD (false,[])).2.length≤5000;omega,by show ((ofP v).2.kid 2).data.length≤5000;omega,f3,f4,f5,f6⟩
  ·have g1:=getDk_len (ofP v).2
   exact ⟨by show ((getK (ofP v).2).getD (false,[])).2.length≤5000;omega,f2,f3,f4,f5,f6⟩
 split
 ·refine ⟨f1,f2,?_,f4,f5,f6⟩
  show ((getSb (ofP v).2).getD Sb.none).fit
  cases hg:getSb (ofP v).2 with
  | none=>exact noneSb_fit
  | some s=>exact getSb_fit hg
 split
 ·exact ⟨f1,f2,f3,f4,f5,f6⟩
 split
 ·have hz:=zeroTg_sz
  refine ⟨f1,f2,f3,?_,?_,f6⟩
  ·show ((getTg (ofP v).2).getD zeroTg).wt≤_
   cases hg:getTg (ofP v).2 with
   | none=>show zeroTg.wt≤_;omega
   | some t=>have:=getTg_sz hg;show t.wt≤_;omega
  ·show ((getTg (ofP v).2).getD zeroTg).nodes≤_
   cases hg:getTg (ofP v).2 with
   | none=>show zeroTg.nodes≤_;omega
   | some t=>have:=getTg_sz hg;show t.nodes≤_;omega
 split
 ·refine ⟨f1,f2,f3,f4,f5,?_⟩
  show ((getR v).getD Wd.none).in64
  cases hg:getR v with
  | none=>exact none_64
  | some w=>exact may_64 (getR_of hs.1 hg).1
 ·exact ⟨f1,f2,f3,f4,f5,f6⟩
theorem fold_fit: ∀ (l:List Tree) (c:Ct),c.fit→(∀ x∈l,x.sm)→(∀ x∈l,x.wt<2000000)→(l.foldl stepC c).fit
 | [],c,h,_,_=>h
 | x::l,c,h,hs,hw=>fold_fit l _ (step_fit h (hs x (by simp)) (hw x (by simp))) (fun y hy=>hs y (by simp [hy])) fun y hy=>hw y (by simp [hy])
theorem readC_fit {v:Tree} (hm:v.may=true) (hw:v.wt≤2000000):(readC v).fit:=
 fold_fit _ _ none_fit (fun x hx=>(may_sm hm).kid hx) fun x hx=>by
  have:=Tree.wt_kid hx
  omega
theorem ct_lit (c:Ct): ∃ a b d:D,∃ k:UInt8,∃ s1 s2 s3 s4 s5:D,∃ g:Bool,∃ t0 t1 t2 t3 t4 t5 t6 t7 t8 t9 w0 w1 w2 w3:D,ctC c=[a,b,d,.v (.int .u8 (k.toNat:Int)),s1,s2,s3,s4,s5,.v (.bool g),t0,t1,t2,t3,t4,t5,t6,t7,t8,t9,w0,w1,w2,w3]:=by
 obtain ⟨s1,s2,s3,s4,s5,hs⟩:=sb_cells c.sub
 obtain ⟨t0,t1,t2,t3,t4,t5,t6,t7,t8,t9,ht⟩:=tag_cells c.tag
 unfold ctC wdC
 rw [hs,ht]
 exact ⟨_,_,_,_,_,_,_,_,_,_,_,_,_,_,_,_,_,_,_,_,_,_,_,_,rfl⟩
theorem ct_zero:ctC Ct.none=[.v (.bool false),.sl 0 [],.sl 0 [],.v (.int .u8 0),.v (.bool false),.sl 0 [],.sl 0 [],.v (.int .i64 0),.sl 0 [],.v (.bool false),.v (.int .u8 0),.sl 0 [],.sl 0 [],.v (.int .u8 0),.v (.bool false),.v (.bool false),.sl 0 [],.v (.bool false),.v (.bool false),.sl 0 [],.v (.bool false),.v (.int .i64 0),.v (.bool false),.v (.int .i64 0)]:=by
 unfold ctC wdC
 rw [show Ct.none.sub= .mk 0 false [] [] 0 [] from rfl,sbC_mk,show Ct.none.tag=zeroTg from rfl,zeroTg_C]
 rfl
section
variable {G:Nat→Option (List D)}
noncomputable def cgetD (o:Option Ct):DR:= .many [.g (ctC (o.getD Ct.none)),.c (.v (.int .i64 (if o.isSome=true then 0 else 3)))]
theorem cget_m (hG:G 0=some powD) (v:Tree) {cs:List D} (hcs:treeC v=cs) (hw:v.wt≤2000000):Spec Tryz.prog G 29 [.g cs] (cgetD (refC v)):=by
 subst hcs
 have h1:=sxmay_m (G:=G) hG v rfl (by omega)
 obtain ⟨e1,e2⟩:=getC_eq v
 unfold cgetD
 cases hm:v.may with
 | false =>
  rw [hm] at h1
  have hn:refC v=none:=by
   unfold refC
   rw [hm]
   rfl
  rw [hn,Option.getD_none,ct_zero,show (if (none:Option Ct).isSome=true then (0:Int) else 3)=3 from rfl]
  clear e1 e2 hn
  rw [treeC_eq] at h1 ⊢
  simp only [bD,bytesD] at *
  refine spec_of Tryz.func29 rfl rfl rfl (by kernel_rfl) rfl fun K=>?_
  (repeat' (first|with_reducible (first|refine zA fun Kn hK=>?_|refine zU ?_|refine Nx.go ?_|go_step)|refine ⟨_,h1,?_⟩|with_reducible (first|refine zI ?_|refine zK ?_ ?_|refine zL ?_ ?_|refine zV ?_)|simp (maxSteps:=9^9) (disch:=omega) only [wq]|with_reducible refine zM (fun hb=>?_) (fun hb=>?_)<;>try simp only [hb]|with_reducible refine And.intro (by first|omega|(simp;done)|(simp;omega)) ?_|simp (maxSteps:=9^9) -implicitDefEqProofs only [go_sem,decide_true,bne,Bool.not_true,Bool.not_false]))
  all_goals rfl
 | true =>
  rw [hm] at h1
  have hfit:=readC_fit hm hw
  have hcl:=may_clean hm
  have hkw: ∀ x∈v.kids,x.wt<v.wt:=fun x hx=>Tree.wt_kid hx
  have h3:=cput_m (G:=G) hG (readC v) rfl hfit
  have h4:=same_m (G:=G) v (if (readC v).may=true then (readC v).val else zeroT) _ _ rfl rfl (by omega)
  have hp: ∀ (c:Ct) (x:Tree),x∈v.kids→SpecO Tryz.prog G 62 [.c (.ptr 0 0),(DV.g (treeC x)).av] [(0,certO (ctC c))] (.ret (.tup []) [(0,some (certO (ctC (stepC c x))))]):=fun c x hx=>part_m hG c x rfl (by have:=hkw x hx;omega) (kid_clean' hcl hx)
  unfold cputD at h3
  have hd:(refC v).isSome=((readC v).may&&v.same (if (readC v).may=true then (readC v).val else zeroT))∧((refC v).isSome=true→(refC v).getD Ct.none=readC v):=by
   cases hg:refC v with
   | some s =>
    obtain ⟨a,b,c⟩:=e1 s hg
    rw [a,b,if_pos rfl,c]
    exact ⟨by rw [show v.same v=true from same_iff.2 rfl];rfl,fun _=>rfl⟩
   | none =>
    have hno:=e2 hg
    refine ⟨?_,fun h=>by cases h⟩
    cases hmm:(readC v).may with
    | false=>rfl
    | true =>
     rw [if_pos rfl]
     cases hs:v.same (readC v).val with
     | false=>rfl
     | true=>exact (hno ⟨hmm,(same_iff.1 hs).symm⟩).elim
  have hd2:(refC v).isSome=false→(refC v).getD Ct.none=Ct.none:=fun h=>by
   cases hg:refC v with
   | some s=>rw [hg] at h;cases h
   | none=>rfl
  obtain ⟨d1,d2⟩:=hd
  generalize (refC v).getD Ct.none=R at *
  generalize (refC v).isSome=ok at *
  generalize (readC v).may=q at *
  generalize (if q=true then (readC v).val else zeroT)=V at *
  generalize v.same V=z at *
  have hrd:readC v=v.kids.foldl stepC Ct.none:=rfl
  clear e1 e2 hfit hcl
  rw [treeC_eq v] at h1 h4 ⊢
  rw [treeC_eq V] at h3 h4
  have hlen:=ctC_len
  have h5:=v.wt_kids
  generalize hE:(if ok=true then (0:Int) else 3)=E at *
  generalize hRC:ctC R=RC at *
  simp only [bD,bytesD] at h1 h3 h4 ⊢
  refine spec_of Tryz.func29 rfl rfl rfl (by kernel_rfl) rfl fun K=>?_
  (repeat' (first|with_reducible (first|refine zA fun Kn hK=>?_|refine zU ?_|refine Nx.go ?_|go_step)|refine ⟨_,h1,?_⟩|with_reducible (first|refine zI ?_|refine zK ?_ ?_|refine zL ?_ ?_|refine zV ?_)|simp (maxSteps:=9^9) (disch:=omega) only [wq]|with_reducible refine zM (fun hb=>?_) (fun hb=>?_)<;>try simp only [hb]|with_reducible refine And.intro (by first|omega|(simp;done)|(simp;omega)) ?_|simp (maxSteps:=9^9) -implicitDefEqProofs only [go_sem,decide_true,bne,Bool.not_true,Bool.not_false]))
  refine sound_dataO 4 (by rfl) (by decide) (by rfl) ?_
  refine sound_loopR (fun x:{k:Nat // k≤v.kids.length}=>⟨[(1,vP 1 0),(2,vP 2 0),(4,vP 4 0),(14,vD (.sl v.kids.length (v.kids.flatMap treeC))),(15,vI v.kids.length),(16,vI x.1)],[(1,some ⟨45,treeK v,true,false⟩),(2,some ⟨39,zeroOf Tryz.prog 39,true,false⟩),(4,some (certO (ctC ((v.kids.take x.1).foldl stepC Ct.none))))]⟩) (fun x=>v.kids.length-x.1) ⟨0,by omega⟩ [] (by (iterate 2 ((try simp (maxSteps:=9^9) -implicitDefEqProofs only [go_sem,bD,bytesD,List.take_zero,List.foldl_nil,ct_zero,datC_nil,datC_d]);(try simp (maxSteps:=9^9) (disch:=omega) only [wq])));try simp) (fun ⟨k,hk⟩=>?_)
  by_cases hlt:k<v.kids.length
  ·obtain ⟨x,hx⟩: ∃ x,v.kids[k]?=some x:=⟨_,List.getElem?_eq_getElem hlt⟩
   have hb:decide ((k:Int)<(v.kids.length:Int))=true:=by simpa using hlt
   have hpx:=hp ((v.kids.take k).foldl stepC Ct.none) x (List.mem_of_getElem? hx)
   have hf:=flat_at treeC_len hx
   have ht:(v.kids.take (k+1)).foldl stepC Ct.none=stepC ((v.kids.take k).foldl stepC Ct.none) x:=by
    rw [List.take_add_one,hx,List.foldl_append]
    rfl
   generalize (v.kids.take k).foldl stepC Ct.none=c0 at *
   rw [treeC_eq x] at hf hpx
   simp only [bytesD] at hf hpx
   clear hp h3 h4 hd2 d1 d2
   (repeat' (first|with_reducible (first|refine zA fun Kn hK=>?_|refine zU ?_|refine Nx.go ?_|go_step)|refine ⟨some [4],?_⟩|refine ⟨_,hpx,?_⟩|(refine ⟨[],⟨k+1,hlt⟩,?_⟩;rw [ht])|refine raw_f ?_|with_reducible (first|refine zI ?_|refine zK ?_ ?_|refine zL ?_ ?_|refine zV ?_)|simp (maxSteps:=9^9) (disch:=omega) only [wq]|with_reducible refine zM (fun hb=>?_) (fun hb=>?_)<;>try simp only [hb]|with_reducible refine And.intro (by first|omega|(simp;done)|(simp;omega)) ?_|simp (maxSteps:=9^9) -implicitDefEqProofs only [go_sem,hb,hf,bD,bytesD]))
   all_goals first|omega|(simp only [ijq,true_and,and_true];first|done|omega|(split<;>omega)|(simp;done)|(simp;omega))
  ·have hb:decide ((k:Int)<(v.kids.length:Int))=false:=by simpa using hlt
   obtain rfl:k=v.kids.length:=by omega
   rw [List.take_length,← hrd]
   clear hp hrd hkw h1
   generalize readC v=r at *
   obtain ⟨a0,b0,d0,k0,s1,s2,s3,s4,s5,g0,t0,t1,t2,t3,t4,t5,t6,t7,t8,t9,w0,w1,w2,w3,hlit⟩:=ct_lit r
   rw [hlit] at h3 ⊢
   have hzero:=ct_zero
   cases q<;>cases z
   all_goals
    first
     | (have hok:ok=true:=d1
        subst hok
        have hfin:RC=[a0,b0,d0,.v (.int .u8 (k0.toNat:Int)),s1,s2,s3,s4,s5,.v (.bool g0),t0,t1,t2,t3,t4,t5,t6,t7,t8,t9,w0,w1,w2,w3]:=by rw [← hRC,d2 rfl,hlit]
        have hE:E=0:=hE.symm
        clear d1 d2 hd2 hRC hlit hzero
        (repeat' (first|with_reducible (first|refine zA fun Kn hK=>?_|refine zU ?_|refine Nx.go ?_|go_step)|refine ⟨_,h3,?_⟩|refine ⟨_,h4,?_⟩|with_reducible (first|refine zI ?_|refine zK ?_ ?_|refine zL ?_ ?_|refine zV ?_)|simp (maxSteps:=9^9) (disch:=omega) only [wq]|with_reducible refine zM (fun hb=>?_) (fun hb=>?_)<;>try simp only [hb]|with_reducible refine And.intro (by first|omega|(simp;done)|(simp;omega)) ?_|simp (maxSteps:=9^9) -implicitDefEqProofs only [go_sem,hb,decide_true,bne,Bool.not_true,Bool.not_false]))
        all_goals (rw [hfin,hE];try rfl))
     | (have hok:ok=false:=d1
        subst hok
        have hfin:=hRC.symm.trans ((congrArg ctC (hd2 rfl)).trans hzero)
        have hE:E=3:=hE.symm
        clear d1 d2 hd2 hRC hlit hzero
        (repeat' (first|with_reducible (first|refine zA fun Kn hK=>?_|refine zU ?_|refine Nx.go ?_|go_step)|refine ⟨_,h3,?_⟩|refine ⟨_,h4,?_⟩|with_reducible (first|refine zI ?_|refine zK ?_ ?_|refine zL ?_ ?_|refine zV ?_)|simp (maxSteps:=9^9) (disch:=omega) only [wq]|with_reducible refine zM (fun hb=>?_) (fun hb=>?_)<;>try simp only [hb]|with_reducible refine And.intro (by first|omega|(simp;done)|(simp;omega)) ?_|simp (maxSteps:=9^9) -implicitDefEqProofs only [go_sem,hb,decide_true,bne,Bool.not_true,Bool.not_false]))
        all_goals (rw [hfin,hE];try rfl))
end
theorem maxI:(maxN:Int)=315569520000:=by
 rw [maxN_val]
 rfl
theorem sideW_t (n:Int):sideW true n=(decide (n≥0)&&decide (n<315569520000)):=by
 unfold sideW
 rw [maxI,Bool.eq_iff_iff]
 simp
theorem sideW_f (n:Int):sideW false n=(n==0):=by
 unfold sideW
 rw [Bool.eq_iff_iff]
 simp
section
variable {G:Nat→Option (List D)}
theorem rwmay_m (w:Wd):Spec Tryz.prog G 21 [.g (wdC w)] (.one (.c (.v (.bool w.may)))):=by
 unfold Wd.may wdC
 obtain ⟨a,n,u,k⟩:=w
 dsimp only
 obtain ⟨x1,e1⟩: ∃ x,decide (n≥0)=x:=⟨_,rfl⟩
 obtain ⟨x2,e2⟩: ∃ x,decide (n<315569520000)=x:=⟨_,rfl⟩
 obtain ⟨x3,e3⟩: ∃ x,(n==0)=x:=⟨_,rfl⟩
 obtain ⟨y1,h1⟩: ∃ x,decide (k≥0)=x:=⟨_,rfl⟩
 obtain ⟨y2,h2⟩: ∃ x,decide (k<315569520000)=x:=⟨_,rfl⟩
 obtain ⟨y3,h3⟩: ∃ x,(k==0)=x:=⟨_,rfl⟩
 cases a<;>cases u
 ·rw [sideW_f,sideW_f,e3,h3]
  cases x3<;>cases y3
  all_goals
   refine spec_of Tryz.func21 rfl rfl rfl (by kernel_rfl) rfl fun K=>?_
   (repeat' (first|with_reducible (first|refine zA fun Kn hK=>?_|refine zU ?_|refine Nx.go ?_|go_step)|with_reducible (first|refine zI ?_|refine zV ?_)|simp (maxSteps:=9^9) (disch:=omega) only [wq]|with_reducible refine zM (fun hb=>?_) (fun hb=>?_)<;>try simp only [hb]|with_reducible refine And.intro (by first|omega|(simp;done)|(simp;omega)) ?_|simp (maxSteps:=9^9) -implicitDefEqProofs only [go_sem,e3,h3,decide_true]))
   all_goals rfl
 ·rw [sideW_f,sideW_t,e3,h1,h2]
  cases x3<;>cases y1<;>cases y2
  all_goals
   refine spec_of Tryz.func21 rfl rfl rfl (by kernel_rfl) rfl fun K=>?_
   (repeat' (first|with_reducible (first|refine zA fun Kn hK=>?_|refine zU ?_|refine Nx.go ?_|go_step)|with_reducible (first|refine zI ?_|refine zV ?_)|simp (maxSteps:=9^9) (disch:=omega) only [wq]|with_reducible refine zM (fun hb=>?_) (fun hb=>?_)<;>try simp only [hb]|with_reducible refine And.intro (by first|omega|(simp;done)|(simp;omega)) ?_|simp (maxSteps:=9^9) -implicitDefEqProofs only [go_sem,e3,h1,h2,decide_true]))
   all_goals rfl
 ·rw [sideW_t,sideW_f,e1,e2,h3]
  cases x1<;>cases x2<;>cases y3
  all_goals
   refine spec_of Tryz.func21 rfl rfl rfl (by kernel_rfl) rfl fun K=>?_
   (repeat' (first|with_reducible (first|refine zA fun Kn hK=>?_|refine zU ?_|refine Nx.go ?_|go_step)|with_reducible (first|refine zI ?_|refine zV ?_)|simp (maxSteps:=9^9) (disch:=omega) only [wq]|with_reducible refine zM (fun hb=>?_) (fun hb=>?_)<;>try simp only [hb]|with_reducible refine And.intro (by first|omega|(simp;done)|(simp;omega)) ?_|simp (maxSteps:=9^9) -implicitDefEqProofs only [go_sem,e1,e2,h3,decide_true]))
   all_goals rfl
 ·rw [sideW_t,sideW_t,e1,e2,h1,h2]
  cases x1<;>cases x2<;>cases y1<;>cases y2
  all_goals
   refine spec_of Tryz.func21 rfl rfl rfl (by kernel_rfl) rfl fun K=>?_
   (repeat' (first|with_reducible (first|refine zA fun Kn hK=>?_|refine zU ?_|refine Nx.go ?_|go_step)|with_reducible (first|refine zI ?_|refine zV ?_)|simp (maxSteps:=9^9) (disch:=omega) only [wq]|with_reducible refine zM (fun hb=>?_) (fun hb=>?_)<;>try simp only [hb]|with_reducible refine And.intro (by first|omega|(simp;done)|(simp;omega)) ?_|simp (maxSteps:=9^9) -implicitDefEqProofs only [go_sem,e1,e2,h1,h2,decide_true]))
   all_goals rfl
end
section
variable {G:Nat→Option (List D)}
theorem rwend_m (v:Tree) {cs:List D} (hcs:treeC v=cs) (word:List UInt8) (hw:v.wt≤30000000):Spec Tryz.prog G 126 [.g cs,.c (.v (.string ⟨word.toArray⟩))] (resO (endR v word)):=by
 subst hcs
 have hh:=headref_m (G:=G) v rfl word
 have hkw: ∀ x∈v.kids,x.wt<v.wt:=fun x hx=>Tree.wt_kid hx
 cases hq:headB v word with
 | false =>
  have e:endR v word=none:=by unfold endR;rw [hq];rfl
  rw [hq] at hh
  rw [e]
  unfold resO iD
  rw [treeC_eq] at hh ⊢
  unfold bytesD at *
  refine spec_of Tryz.func126 rfl rfl rfl (by kernel_rfl) rfl fun K=>?_
  (repeat' (first|with_reducible (first|refine zA fun Kn hK=>?_|refine zU ?_|refine Nx.go ?_|go_step)|refine ⟨_,hh,?_⟩|with_reducible (first|refine zI ?_|refine zV ?_)|simp (maxSteps:=9^9) (disch:=omega) only [wq]|with_reducible refine zM (fun hb=>?_) (fun hb=>?_)<;>try simp only [hb]|with_reducible refine And.intro (by first|omega|(simp;done)|(simp;omega)) ?_|simp (maxSteps:=9^9) -implicitDefEqProofs only [go_sem,decide_true]))
  all_goals rfl
 | true =>
  rw [hq] at hh
  by_cases h2:v.kids.length=2
  ·obtain ⟨x,y,hk⟩: ∃ x y,v.kids=[x,y]:=by
    match hk:v.kids,h2 with
    | [x,y],_=>exact ⟨x,y,rfl⟩
   have hy:=hkw y (by rw [hk];simp)
   have hyd:=y.wt_data
   have hd:=rget_m (G:=G) y.data _ rfl (by omega)
   rw [← date_eq] at hd
   have e:endR v word=if y.list||y.hinted then none else dateP y.data:=by unfold endR;rw [hq,hk];rfl
   rw [e]
   have ev:=treeC_eq v
   rw [hk] at ev
   simp only [List.flatMap_cons,List.flatMap_nil,treeC_eq x,treeC_eq y,List.cons_append,List.nil_append,List.append_nil,List.length_cons,List.length_nil] at ev
   rw [ev] at hh ⊢
   have q3:((2:Nat):Int)=2:=rfl
   have q4:((2:Int)==2)=true:=rfl
   clear ev e hkw
   unfold resO iD at *
   unfold bytesD at *
   generalize y.list=yl at *
   generalize y.hinted=yh at *
   generalize dateP y.data=o at *
   cases yl<;>cases yh
   all_goals
    refine spec_of Tryz.func126 rfl rfl rfl (by kernel_rfl) rfl fun K=>?_
    (repeat' (first|with_reducible (first|refine zA fun Kn hK=>?_|refine zU ?_|refine Nx.go ?_|go_step)|refine ⟨_,hh,?_⟩|refine ⟨_,hd,?_⟩|with_reducible (first|refine zI ?_|refine zV ?_)|simp (maxSteps:=9^9) (disch:=omega) only [wq]|with_reducible refine zM (fun hb=>?_) (fun hb=>?_)<;>try simp only [hb]|with_reducible refine And.intro (by first|omega|(simp;done)|(simp;omega)) ?_|simp (maxSteps:=9^9) -implicitDefEqProofs only [go_sem,q3,q4,decide_true]))
    all_goals rfl
  ·have e:endR v word=none:=by
    unfold endR
    rw [hq]
    match hk:v.kids with
    | []=>rfl
    | [x]=>rfl
    | [x,y]=>rw [hk] at h2;exact absurd rfl h2
    | x::y::z::m=>rfl
   have q1:((v.kids.length:Int)==2)=false:=by
    rw [beq_eq_false_iff_ne]
    omega
   rw [e]
   unfold resO iD
   rw [treeC_eq] at hh ⊢
   unfold bytesD at *
   refine spec_of Tryz.func126 rfl rfl rfl (by kernel_rfl) rfl fun K=>?_
   (repeat' (first|with_reducible (first|refine zA fun Kn hK=>?_|refine zU ?_|refine Nx.go ?_|go_step)|refine ⟨_,hh,?_⟩|with_reducible (first|refine zI ?_|refine zV ?_)|simp (maxSteps:=9^9) (disch:=omega) only [wq]|with_reducible refine zM (fun hb=>?_) (fun hb=>?_)<;>try simp only [hb]|with_reducible refine And.intro (by first|omega|(simp;done)|(simp;omega)) ?_|simp (maxSteps:=9^9) -implicitDefEqProofs only [go_sem,q1,decide_true]))
   all_goals rfl
end
def rwgetD (o:Option Wd):DR:= .many [.g (wdC (o.getD Wd.none)),.c (.v (.bool o.isSome))]
section
variable {G:Nat→Option (List D)}
theorem rwget_m (v:Tree) {cs:List D} (hcs:treeC v=cs) (hw:v.wt≤30000000):Spec Tryz.prog G 106 [.g cs] (rwgetD (getR v)):=by
 subst hcs
 have hh:=headref_m (G:=G) v rfl wValid
 have hkw: ∀ x∈v.kids,x.wt<v.wt:=fun x hx=>Tree.wt_kid hx
 cases hq:headB v wValid with
 | false =>
  have e:getR v=none:=by unfold getR;rw [hq];rfl
  rw [hq] at hh
  rw [e]
  unfold rwgetD wValid at *
  rw [treeC_eq] at hh ⊢
  unfold bytesD at *
  refine spec_of Tryz.func106 rfl rfl rfl (by kernel_rfl) rfl fun K=>?_
  (repeat' (first|with_reducible (first|refine zA fun Kn hK=>?_|refine zU ?_|refine Nx.go ?_|go_step)|refine ⟨_,hh,?_⟩|with_reducible (first|refine zI ?_|refine zV ?_)|simp (maxSteps:=9^9) (disch:=omega) only [wq]|with_reducible refine zM (fun hb=>?_) (fun hb=>?_)<;>try simp only [hb]|with_reducible refine And.intro (by first|omega|(simp;done)|(simp;omega)) ?_|simp (maxSteps:=9^9) -implicitDefEqProofs only [go_sem,decide_true]))
  all_goals rfl
 | true =>
  rw [hq] at hh
  have hk0:v.kids≠[]:=by
   intro h
   unfold headB at hq
   rw [h] at hq
   simp at hq
  have ev:=treeC_eq v
  have en: ∀ x∈v.kids,Spec Tryz.prog G 126 [.g (treeC x),.c (.v (.string ⟨wNB.toArray⟩))] (resO (endR x wNB)):=fun x hx=>rwend_m x rfl wNB (by have:=hkw x hx;omega)
  have ea: ∀ x∈v.kids,Spec Tryz.prog G 126 [.g (treeC x),.c (.v (.string ⟨wNA.toArray⟩))] (resO (endR x wNA)):=fun x hx=>rwend_m x rfl wNA (by have:=hkw x hx;omega)
  have hl5:=v.wt_kids
  unfold getR
  rw [hq,if_pos rfl]
  rw [ev] at hh ⊢
  clear ev hkw hq
  generalize v.kids=L at *
  have p0:decide (((0:Nat):Int)>0)=false:=rfl
  have p1:decide (((1:Nat):Int)>0)=true:=rfl
  match L,hk0 with
  | [a],_ =>
   simp only [List.drop_one,List.tail_cons,List.flatMap_cons,List.flatMap_nil,treeC_eq a,List.cons_append,List.nil_append,List.append_nil,List.length_cons,List.length_nil] at hh ⊢
   unfold rwgetD wValid bytesD at *
   refine spec_of Tryz.func106 rfl rfl rfl (by kernel_rfl) rfl fun K=>?_
   (repeat' (first|with_reducible (first|refine zA fun Kn hK=>?_|refine zU ?_|refine Nx.go ?_|go_step)|refine ⟨_,hh,?_⟩|with_reducible (first|refine zI ?_|refine zV ?_)|simp (maxSteps:=9^9) (disch:=omega) only [wq]|with_reducible refine zM (fun hb=>?_) (fun hb=>?_)<;>try simp only [hb]|with_reducible refine And.intro (by first|omega|(simp;done)|(simp;omega)) ?_|simp (maxSteps:=9^9) -implicitDefEqProofs only [go_sem,p0,p1,decide_true]))
   all_goals rfl
  | [a,x],_ =>
   have hx1:=en x (by simp)
   have hx2:=ea x (by simp)
   rw [treeC_eq x] at hx1 hx2
   unfold resO iD at hx1 hx2
   simp only [List.drop_one,List.tail_cons,List.flatMap_cons,List.flatMap_nil,treeC_eq a,treeC_eq x,List.cons_append,List.nil_append,List.append_nil,List.length_cons,List.length_nil] at hh ⊢
   obtain ⟨o1,ho1⟩: ∃ o,endR x wNB=o:=⟨_,rfl⟩
   obtain ⟨o2,ho2⟩: ∃ o,endR x wNA=o:=⟨_,rfl⟩
   rw [ho1] at hx1
   rw [ho2] at hx2
   cases o1<;>cases o2
   all_goals
    simp only [ho1,ho2]
    clear en ea ho1 ho2
    unfold rwgetD wValid bytesD at *
    try unfold wNB at *
    try unfold wNA at *
    refine spec_of Tryz.func106 rfl rfl rfl (by kernel_rfl) rfl fun K=>?_
    (repeat' (first|with_reducible (first|refine zA fun Kn hK=>?_|refine zU ?_|refine Nx.go ?_|go_step)|refine ⟨_,hh,?_⟩|refine ⟨_,hx1,?_⟩|refine ⟨_,hx2,?_⟩|with_reducible (first|refine zI ?_|refine zV ?_)|simp (maxSteps:=9^9) (disch:=omega) only [wq]|with_reducible refine zM (fun hb=>?_) (fun hb=>?_)<;>try simp only [hb]|with_reducible refine And.intro (by first|omega|(simp;done)|(simp;omega)) ?_|simp (maxSteps:=9^9) -implicitDefEqProofs only [go_sem,p0,p1,decide_true]))
    all_goals rfl
  | a :: x::y::m,_ =>
   have hx1:=en x (by simp)
   have hx2:=ea x (by simp)
   have hy2:=ea y (by simp)
   have hml:m.length≤30000000:=by
    simp only [List.length_cons] at hl5
    omega
   rw [treeC_eq x] at hx1 hx2
   rw [treeC_eq y] at hy2
   unfold resO iD at hx1 hx2 hy2
   simp only [List.drop_one,List.tail_cons,List.flatMap_cons,treeC_eq a,treeC_eq x,treeC_eq y,List.cons_append,List.nil_append,List.length_cons] at hh ⊢
   obtain ⟨o1,ho1⟩: ∃ o,endR x wNB=o:=⟨_,rfl⟩
   obtain ⟨o2,ho2⟩: ∃ o,endR x wNA=o:=⟨_,rfl⟩
   obtain ⟨o3,ho3⟩: ∃ o,endR y wNA=o:=⟨_,rfl⟩
   rw [ho1] at hx1
   rw [ho2] at hx2
   rw [ho3] at hy2
   cases m with
   | nil =>
    have p2:decide (((0+1+1:Nat):Int)>0)=true:=rfl
    have p3:decide (((0+1:Nat):Int)>0)=true:=rfl
    have p4:decide (((2:Nat):Int)>0)=true:=rfl
    simp only [List.length_nil,List.flatMap_nil] at hh ⊢
    cases o1<;>cases o2<;>cases o3
    all_goals
     simp only [ho1,ho2,ho3]
     clear en ea ho1 ho2 ho3 hl5
     unfold rwgetD wValid bytesD at *
     try unfold wNB at *
     try unfold wNA at *
     refine spec_of Tryz.func106 rfl rfl rfl (by kernel_rfl) rfl fun K=>?_
     (repeat' (first|with_reducible (first|refine zA fun Kn hK=>?_|refine zU ?_|refine Nx.go ?_|go_step)|refine ⟨_,hh,?_⟩|refine ⟨_,hx1,?_⟩|refine ⟨_,hx2,?_⟩|refine ⟨_,hy2,?_⟩|with_reducible (first|refine zI ?_|refine zV ?_)|simp (maxSteps:=9^9) (disch:=omega) only [wq]|with_reducible refine zM (fun hb=>?_) (fun hb=>?_)<;>try simp only [hb]|with_reducible refine And.intro (by first|omega|(simp;done)|(simp;omega)) ?_|simp (maxSteps:=9^9) -implicitDefEqProofs only [go_sem,p0,p1,p2,p3,p4,List.length_nil,decide_true]))
     all_goals rfl
   | cons z m =>
    have p2:decide (((m.length+1+1:Nat):Int)>0)=true:=decide_eq_true (by omega)
    have p3:decide (((m.length+1:Nat):Int)>0)=true:=decide_eq_true (by omega)
    simp only [List.length_cons] at hh hml ⊢
    have k3:((z::m).flatMap treeC).length=(m.length+1)*5:=by rw [treeC_flen,List.length_cons]
    generalize (z::m).flatMap treeC=Z at *
    have k1: ∀ (h0 h1 h2 h3 h4 g0 g1 g2 g3 g4:D),(h0::h1::h2::h3::h4::g0::g1::g2::g3::g4::Z).take ((m.length+1+1+1+1-1)*5)=h0::h1::h2::h3::h4::g0::g1::g2::g3::g4::Z:=fun _ _ _ _ _ _ _ _ _ _=>List.take_of_length_le (by simp only [List.length_cons];omega)
    have k2: ∀ (g0 g1 g2 g3 g4:D),(g0::g1::g2::g3::g4::Z).take ((m.length+1+1+1+1-1-1)*5)=g0::g1::g2::g3::g4::Z:=fun _ _ _ _ _=>List.take_of_length_le (by simp only [List.length_cons];omega)
    have k4:Z.take ((m.length+1+1+1+1-1-1-1)*5)=Z:=List.take_of_length_le (by omega)
    have r1:m.length+1+1+1+1-1=m.length+1+1+1:=rfl
    have r2:m.length+1+1+1-1=m.length+1+1:=rfl
    have r3:m.length+1+1-1=m.length+1:=rfl
    rw [r1] at k1
    rw [r1,r2] at k2
    rw [r1,r2,r3] at k4
    have p4:decide (((m.length+1+1+1:Nat):Int)>0)=true:=decide_eq_true (by omega)
    cases o1<;>cases o2<;>cases o3
    all_goals
     simp only [ho1,ho2,ho3]
     clear en ea ho1 ho2 ho3 hl5
     unfold rwgetD wValid bytesD at *
     try unfold wNB at *
     try unfold wNA at *
     refine spec_of Tryz.func106 rfl rfl rfl (by kernel_rfl) rfl fun K=>?_
     (repeat' (first|with_reducible (first|refine zA fun Kn hK=>?_|refine zU ?_|refine Nx.go ?_|go_step)|refine ⟨_,hh,?_⟩|refine ⟨_,hx1,?_⟩|refine ⟨_,hx2,?_⟩|refine ⟨_,hy2,?_⟩|with_reducible (first|refine zI ?_|refine zV ?_)|simp (maxSteps:=9^9) (disch:=omega) only [wq]|with_reducible refine zM (fun hb=>?_) (fun hb=>?_)<;>try simp only [hb]|with_reducible refine And.intro (by first|omega|(simp;done)|(simp;omega)) ?_|simp (maxSteps:=9^9) -implicitDefEqProofs only [go_sem,p0,p1,p2,p3,p4,k1,k2,k4,r1,r2,r3,List.length_cons,decide_true]))
     all_goals rfl
end
@[go_sem] def sbK (s:Sb):List C:=[.d (bD s.kind),.d (.v (.bool s.ks)),.d (bytesD s.kd),.d (.sl s.names.length (s.names.map bytesD)),.d (.v (.int .i64 s.k)),.d (.sl s.kids.length (s.kids.flatMap sbC))]
theorem tk_none {α:Type} {f:α→Bool} {l:List α} {x:α} {k:Nat} (hx:l[k]?=some x) (hq:f x=true) (hall: ∀ y∈l.take k,f y=true): ∀ y∈l.take (k+1),f y=true:=by
 intro y hy
 rw [List.take_add_one,hx] at hy
 rcases List.mem_append.1 hy with hy|hy
 ·exact hall y hy
 ·simp at hy
  rw [hy]
  exact hq
section
variable {G:Nat→Option (List D)}
theorem rright16_m: ∀ s:Sb,∀ (cs:List D) (k:Nat),sbC s=cs→k≤4→Spec Tryz.prog G 47 [.g cs,.c (.v (.int .i64 k))] (.one (.c (.v (.bool (s.right k))))):=Sb.ind fun s ih cs k hcs hk=>by
 subst hcs
 have hp:=rkmay_m (G:=G) s.ks s.kd
 have hsame:=rksame_m (G:=G) s.ks false s.kd []
 have key: ∀ q:UInt8,((s.kind.toNat:Int)==(q.toNat:Int))=decide (s.kind=q):=fun q=>by rw [u8_beq];exact Bool.beq_eq_decide_eq _ _
 have e1:((s.kind.toNat:Int)==1)=decide (s.kind=1):=key 1
 have e2:((s.kind.toNat:Int)==2)=decide (s.kind=2):=key 2
 have e3:((s.kind.toNat:Int)==3)=decide (s.kind=3):=key 3
 clear key
 have hr:=s.right_eq k
 by_cases c12:s.kind=1∨s.kind=2
 ·have n0 := len0_empty s.names
  have e0:=int0 s.k
  have n8:decide ((s.names.length:Int)>8)= !decide (s.names.length≤8):=by
   rw [← decide_not,decide_eq_decide]
   omega
  have z0:decide ((s.kids.length:Int)>0)= !emptyL s.kids:=pos_len s.kids
  have hv:s.right k=(decide (s.k=0)&&(emptyL s.kids&&(keyMay s.ks s.kd&&((decide (s.kind=1)==emptyL s.names)&&(decide (s.names.length≤8)&&s.names.all fun n=> !emptyL n))))):=by
   rw [hr]
   unfold Sb.plain Sb.names2
   rcases c12 with c1|c2
   ·rw [if_pos c1,decide_eq_true c1]
    cases hz:emptyL s.names with
    | true =>
     rw [emptyL_iff] at hz
     rw [hz]
     simp [Bool.and_assoc]
    | false=>simp
   ·rw [if_neg (by rw [c2];decide),if_pos c2,decide_eq_false (show ¬ s.kind=1 by rw [c2];decide)]
    cases hz:emptyL s.names<;>simp [Bool.and_assoc]
  rw [hv]
  clear hv hr ih hsame e3
  rw [sbC_eq]
  have c1d: ∀ b,decide (s.kind=1)=b→decide (s.kind=1∨s.kind=2)=true:=fun _ _=>decide_eq_true c12
  have e2':decide (s.kind=1)=false→((s.kind.toNat:Int)==2)=true:=fun h=>by
   rw [e2]
   rcases c12 with c|c
   ·rw [decide_eq_false_iff_not] at h
    exact (h c).elim
   ·exact decide_eq_true c
  clear e2 c1d
  generalize keyMay s.ks s.kd=q at *
  generalize decide (s.kind=1)=d1 at *
  generalize emptyL s.names=z at *
  generalize decide (s.k=0)=y at *
  generalize emptyL s.kids=zk at *
  generalize hz8:decide (s.names.length≤8)=z8 at *
  have bad: ∀ (y zk q d1 z z8:Bool),(y&&(zk&&(q&&((d1==z)&&z8))))=true∨(y=false∨(y=true∧zk=false)∨(y=true∧zk=true∧q=false)∨(y=true∧zk=true∧q=true∧z= !d1)∨(y=true∧zk=true∧q=true∧d1=z∧z8=false)):=by decide
  rcases bad y zk q d1 z z8 with h|h
  ·simp only [Bool.and_eq_true,beq_iff_eq] at h
   obtain ⟨rfl,rfl,rfl,rfl,rfl⟩:=h
   rw [Bool.true_and,Bool.true_and,Bool.true_and,beq_self_eq_true,Bool.true_and,Bool.true_and]
   have f4:s.names.length≤8:=of_decide_eq_true hz8
   simp only [keyC,bD,bytesD] at *
   cases d1
   all_goals
    refine spec_of Tryz.func47 rfl rfl rfl (by kernel_rfl) rfl fun K=>?_
    (repeat' (first|with_reducible (first|refine zA fun Kn hK=>?_|refine zU ?_|refine Nx.go ?_|go_step)|refine ⟨_,hp,?_⟩|with_reducible (first|refine zI ?_|refine zV ?_)|simp (maxSteps:=9^9) (disch:=omega) only [wq]|with_reducible refine zM (fun hb=>?_) (fun hb=>?_)<;>try simp only [hb]|with_reducible refine And.intro (by first|omega|(simp;done)|(simp;omega)) ?_|simp (maxSteps:=9^9) -implicitDefEqProofs only [go_sem,e1,e2',n0,e0,n8,z0,decide_true,bne,Bool.not_true,Bool.not_false]))
    refine sound_loopR (fun x:{j:Nat // j≤s.names.length∧ ∀ y∈s.names.take j,(!emptyL y)=true}=>⟨[(2,vP 2 0),(48,vI s.names.length),(49,vI x.1)],[(2,some ⟨28,sbK s,true,false⟩)]⟩) (fun x=>s.names.length-x.1) ⟨0,by simp⟩ [] (by (iterate 2 ((try simp (maxSteps:=9^9) -implicitDefEqProofs only [go_sem,bD,bytesD]);(try simp (maxSteps:=9^9) (disch:=omega) only [wq])));try simp) (fun ⟨j,hj,hall⟩=>?_)
    by_cases hlt:j<s.names.length
    ·obtain ⟨x,hx⟩: ∃ x,s.names[j]?=some x:=⟨_,List.getElem?_eq_getElem hlt⟩
     have hb:decide ((j:Int)<(s.names.length:Int))=true:=by simpa using hlt
     have hr:=row_at hx
     have hlx:=len0_empty x
     simp only [bytesD] at hr
     cases hq:emptyL x with
     | true =>
      rw [hq] at hlx
      (repeat' (first|with_reducible (first|refine zA fun Kn hK=>?_|refine zU ?_|refine Nx.go ?_|go_step)|with_reducible (first|refine zI ?_|refine zV ?_)|simp (maxSteps:=9^9) (disch:=omega) only [wq]|with_reducible refine zM (fun hb=>?_) (fun hb=>?_)<;>try simp only [hb]|with_reducible refine And.intro (by first|omega|(simp;done)|(simp;omega)) ?_|simp (maxSteps:=9^9) -implicitDefEqProofs only [go_sem,hb,hr,hlx,List.length_map,bD,bytesD]))
      all_goals
       have:(s.names.all fun n=> !emptyL n)=false:=by
        rw [List.all_eq_false]
        exact ⟨x,List.mem_of_getElem? hx,by rw [hq];decide⟩
       rw [this]
     | false =>
      rw [hq] at hlx
      (repeat' (first|with_reducible (first|refine zA fun Kn hK=>?_|refine zU ?_|refine Nx.go ?_|go_step)|with_reducible (first|refine zI ?_|refine zV ?_)|simp (maxSteps:=9^9) (disch:=omega) only [wq]|with_reducible refine zM (fun hb=>?_) (fun hb=>?_)<;>try simp only [hb]|with_reducible refine And.intro (by first|omega|(simp;done)|(simp;omega)) ?_|simp (maxSteps:=9^9) -implicitDefEqProofs only [go_sem,hb,hr,hlx,List.length_map,bD,bytesD]))
      refine ⟨[],⟨j+1,hlt,tk_none hx (by rw [hq];rfl) hall⟩,?_⟩
      (iterate 2 ((try simp (maxSteps:=9^9) -implicitDefEqProofs only [go_sem,bD,bytesD]);(try simp (maxSteps:=9^9) (disch:=omega) only [wq])))
      (simp only [ijq,true_and,and_true];first|done|omega|(split<;>omega)|(simp;done)|(simp;omega))
    ·have hb:decide ((j:Int)<(s.names.length:Int))=false:=by simpa using hlt
     obtain rfl:j=s.names.length:=by omega
     rw [List.take_length] at hall
     (repeat' (first|with_reducible (first|refine zA fun Kn hK=>?_|refine zU ?_|refine Nx.go ?_|go_step)|with_reducible (first|refine zI ?_|refine zV ?_)|simp (maxSteps:=9^9) (disch:=omega) only [wq]|with_reducible refine zM (fun hb=>?_) (fun hb=>?_)<;>try simp only [hb]|with_reducible refine And.intro (by first|omega|(simp;done)|(simp;omega)) ?_|simp (maxSteps:=9^9) -implicitDefEqProofs only [go_sem,hb,bD,bytesD]))
     all_goals rw [List.all_eq_true.2 hall]
  ·simp only [keyC,bD,bytesD] at *
   rcases h with rfl|⟨rfl,rfl⟩|⟨rfl,rfl,rfl⟩|⟨rfl,rfl,rfl,rfl⟩|⟨rfl,rfl,rfl,rfl,rfl⟩
   all_goals
    cases d1
    all_goals
     refine spec_of Tryz.func47 rfl rfl rfl (by kernel_rfl) rfl fun K=>?_
     (repeat' (first|with_reducible (first|refine zA fun Kn hK=>?_|refine zU ?_|refine Nx.go ?_|go_step)|refine ⟨_,hp,?_⟩|with_reducible (first|refine zI ?_|refine zV ?_)|simp (maxSteps:=9^9) (disch:=omega) only [wq]|with_reducible refine zM (fun hb=>?_) (fun hb=>?_)<;>try simp only [hb]|with_reducible refine And.intro (by first|omega|(simp;done)|(simp;omega)) ?_|simp (maxSteps:=9^9) -implicitDefEqProofs only [go_sem,e1,e2',n0,e0,n8,z0,decide_true,bne,Bool.not_true,Bool.not_false]))
     all_goals rfl
 ·have c1 : ¬ s.kind=1:=fun h=>c12 (.inl h)
  have c2: ¬ s.kind=2:=fun h=>c12 (.inr h)
  rw [decide_eq_false c1] at e1
  rw [decide_eq_false c2] at e2
  rw [if_neg c1,if_neg c2] at hr
  have n1:decide ((s.names.length:Int)>0)= !emptyL s.names:=pos_len s.names
  have d3:decide ((k:Int)>3)= !decide (k≤3):=by
   rw [← decide_not,decide_eq_decide]
   omega
  have d6:decide (s.k<1)= !decide (1≤s.k):=by
   rw [← decide_not,decide_eq_decide]
   omega
  have d7:decide (s.k>(s.kids.length:Int))= !decide (s.k≤(s.kids.length:Int)):=by
   rw [← decide_not,decide_eq_decide]
   omega
  have d8:decide ((s.kids.length:Int)>8)= !decide (s.kids.length≤8):=by
   rw [← decide_not,decide_eq_decide]
   omega
  have hv:s.right k=(decide (s.kind=3)&&(decide (k≤3)&&((s.ks==false&&s.kd==[])&&(emptyL s.names&&(decide (1≤s.k)&&(decide (s.k≤(s.kids.length:Int))&&(decide (s.kids.length≤8)&&s.kids.all fun x=>x.right (k+1)))))))):=by
   rw [hr]
   by_cases c3:s.kind=3
   ·rw [if_pos c3,decide_eq_true c3,Bool.true_and]
    have hand:decide (1≤s.k∧s.k≤(s.kids.length:Int)∧s.kids.length≤8)=(decide (1≤s.k)&&(decide (s.k≤(s.kids.length:Int))&&decide (s.kids.length≤8))):=by
     rw [Bool.eq_iff_iff]
     simp
    have hkd:(s.kd==[])=emptyL s.kd:=by
     cases hs:s.kd<;>rfl
    unfold Sb.ok3
    rw [hand,hkd]
    cases s.ks<;>simp [Bool.and_assoc]
   ·rw [if_neg c3,decide_eq_false c3]
    rfl
  rw [hv]
  clear hv hr hp c12
  rw [sbC_eq]
  generalize (s.ks==false&&s.kd==[])=q at *
  generalize decide (s.kind=3)=d at *
  generalize emptyL s.names=z at *
  generalize decide (1≤s.k)=y1 at *
  generalize decide (s.k≤(s.kids.length:Int))=y2 at *
  generalize hy3:decide (s.kids.length≤8)=y3 at *
  generalize hk3:decide (k≤3)=y0 at *
  have bad: ∀ (d y0 q z y1 y2 y3:Bool),(d&&(y0&&(q&&(z&&(y1&&(y2&&y3))))))=true∨(d=false∨(d=true∧y0=false)∨(d=true∧y0=true∧q=false)∨(d=true∧y0=true∧q=true∧z=false)∨(d=true∧y0=true∧q=true∧z=true∧y1=false)∨(d=true∧y0=true∧q=true∧z=true∧y1=true∧y2=false)∨(d=true∧y0=true∧q=true∧z=true∧y1=true∧y2=true∧y3=false)):=by decide
  unfold keyC at *
  rcases bad d y0 q z y1 y2 y3 with h|h
  ·simp only [Bool.and_eq_true,beq_iff_eq] at h
   obtain ⟨rfl,rfl,rfl,rfl,rfl,rfl,rfl⟩:=h
   have hk3:=of_decide_eq_true hk3
   have h8:s.kids.length≤8:=of_decide_eq_true hy3
   clear hy3
   simp only [Bool.true_and]
   simp only [bD,bytesD] at *
   refine spec_of Tryz.func47 rfl rfl rfl (by kernel_rfl) rfl fun K=>?_
   (repeat' (first|with_reducible (first|refine zA fun Kn hK=>?_|refine zU ?_|refine Nx.go ?_|go_step)|refine ⟨_,hsame,?_⟩|with_reducible (first|refine zI ?_|refine zV ?_)|simp (maxSteps:=9^9) (disch:=omega) only [wq]|with_reducible refine zM (fun hb=>?_) (fun hb=>?_)<;>try simp only [hb]|with_reducible refine And.intro (by first|omega|(simp;done)|(simp;omega)) ?_|simp (maxSteps:=9^9) -implicitDefEqProofs only [go_sem,e1,e2,e3,d3,n1,d6,d7,d8,decide_true,bne,Bool.not_true,Bool.not_false]))
   refine sound_loopR (fun x:{j:Nat // j≤s.kids.length∧ ∀ y∈s.kids.take j,y.right (k+1)=true}=>⟨[(1,vI k),(2,vP 2 0),(101,vI s.kids.length),(102,vI x.1)],[(2,some ⟨28,sbK s,true,false⟩)]⟩) (fun x=>s.kids.length-x.1) ⟨0,by simp⟩ [] (by (iterate 2 ((try simp (maxSteps:=9^9) -implicitDefEqProofs only [go_sem,bD,bytesD]);(try simp (maxSteps:=9^9) (disch:=omega) only [wq])));try simp) (fun ⟨j,hj,hall⟩=>?_)
   by_cases hlt:j<s.kids.length
   ·obtain ⟨x,hx⟩: ∃ x,s.kids[j]?=some x:=⟨_,List.getElem?_eq_getElem hlt⟩
    have hb:decide ((j:Int)<(s.kids.length:Int))=true:=by simpa using hlt
    have hm:=List.mem_of_getElem? hx
    have hxv:=ih x hm _ (k+1) rfl (by omega)
    have hf:=flat_at sbC_len hx
    rw [sbC_eq x] at hxv hf
    simp only [bD,bytesD] at hxv hf
    cases hq:x.right (k+1) with
    | false =>
     rw [hq] at hxv
     (repeat' (first|with_reducible (first|refine zA fun Kn hK=>?_|refine zU ?_|refine Nx.go ?_|go_step)|refine ⟨_,hxv,?_⟩|with_reducible (first|refine zI ?_|refine zV ?_)|simp (maxSteps:=9^9) (disch:=omega) only [wq]|with_reducible refine zM (fun hb=>?_) (fun hb=>?_)<;>try simp only [hb]|with_reducible refine And.intro (by first|omega|(simp;done)|(simp;omega)) ?_|simp (maxSteps:=9^9) -implicitDefEqProofs only [go_sem,hb,hf,bD,bytesD]))
     all_goals
      have:(s.kids.all fun x=>x.right (k+1))=false:=by
       rw [List.all_eq_false]
       exact ⟨x,hm,by rw [hq];decide⟩
      rw [this]
    | true =>
     rw [hq] at hxv
     (repeat' (first|with_reducible (first|refine zA fun Kn hK=>?_|refine zU ?_|refine Nx.go ?_|go_step)|refine ⟨_,hxv,?_⟩|with_reducible (first|refine zI ?_|refine zV ?_)|simp (maxSteps:=9^9) (disch:=omega) only [wq]|with_reducible refine zM (fun hb=>?_) (fun hb=>?_)<;>try simp only [hb]|with_reducible refine And.intro (by first|omega|(simp;done)|(simp;omega)) ?_|simp (maxSteps:=9^9) -implicitDefEqProofs only [go_sem,hb,hf,bD,bytesD]))
     refine ⟨[],⟨j+1,hlt,tk_none (f:=fun x=>x.right (k+1)) hx hq hall⟩,?_⟩
     (iterate 2 ((try simp (maxSteps:=9^9) -implicitDefEqProofs only [go_sem,bD,bytesD]);(try simp (maxSteps:=9^9) (disch:=omega) only [wq])))
     (simp only [ijq,true_and,and_true];first|done|omega|(split<;>omega)|(simp;done)|(simp;omega))
   ·have hb:decide ((j:Int)<(s.kids.length:Int))=false:=by simpa using hlt
    obtain rfl:j=s.kids.length:=by omega
    rw [List.take_length] at hall
    (repeat' (first|with_reducible (first|refine zA fun Kn hK=>?_|refine zU ?_|refine Nx.go ?_|go_step)|with_reducible (first|refine zI ?_|refine zV ?_)|simp (maxSteps:=9^9) (disch:=omega) only [wq]|with_reducible refine zM (fun hb=>?_) (fun hb=>?_)<;>try simp only [hb]|with_reducible refine And.intro (by first|omega|(simp;done)|(simp;omega)) ?_|simp (maxSteps:=9^9) -implicitDefEqProofs only [go_sem,hb,bD,bytesD]))
    all_goals rw [List.all_eq_true.2 hall]
  ·clear ih
   simp only [bD,bytesD] at *
   rcases h with rfl|⟨rfl,rfl⟩|⟨rfl,rfl,rfl⟩|⟨rfl,rfl,rfl,rfl⟩|⟨rfl,rfl,rfl,rfl,rfl⟩|⟨rfl,rfl,rfl,rfl,rfl,rfl⟩|⟨rfl,rfl,rfl,rfl,rfl,rfl,rfl⟩
   all_goals
    refine spec_of Tryz.func47 rfl rfl rfl (by kernel_rfl) rfl fun K=>?_
    (repeat' (first|with_reducible (first|refine zA fun Kn hK=>?_|refine zU ?_|refine Nx.go ?_|go_step)|refine ⟨_,hsame,?_⟩|with_reducible (first|refine zI ?_|refine zV ?_)|simp (maxSteps:=9^9) (disch:=omega) only [wq]|with_reducible refine zM (fun hb=>?_) (fun hb=>?_)<;>try simp only [hb]|with_reducible refine And.intro (by first|omega|(simp;done)|(simp;omega)) ?_|simp (maxSteps:=9^9) -implicitDefEqProofs only [go_sem,e1,e2,e3,d3,n1,d6,d7,d8,decide_true,bne,Bool.not_true,Bool.not_false]))
    all_goals rfl
end
section
variable {G:Nat→Option (List D)}
theorem keyMay_len {s:Bool} {d:List UInt8} (h:keyMay s d=true):d.length≤64:=by
 unfold keyMay at h
 cases s<;>simp at h<;>omega
theorem rsvalue_m: ∀ s:Sb,∀ (cs:List D) (k:Nat),sbC s=cs→s.right k=true→Spec Tryz.prog G 48 [.g cs] (.one (.g (treeC s.val))):=Sb.ind fun s ih cs k hcs hr=>by
 subst hcs
 have hv:=s.val_eq
 by_cases c3:s.kind=3
 ·obtain ⟨ho,hrk⟩:=right_3 hr c3
  obtain ⟨_,_,_,_,hk1,hk2,hk8⟩:=ok3S ho
  rw [if_neg (by rw [c3];decide),if_neg (by rw [c3];decide)] at hv
  obtain ⟨M,hN0⟩: ∃ M:Nat,s.k=(M:Int):=⟨s.k.toNat,by omega⟩
  have hl1:=dec_m (G:=G) M (by omega)
  have hl2:=dec_m (G:=G) s.kids.length (by omega)
  have hd1:(dec M).length≤1000:=by have:=dec_len (n:=M) 0 (by omega);omega
  have hd2:(dec s.kids.length).length≤1000:=by have:=dec_len (n:=s.kids.length) 0 (by omega);omega
  have a0:=atomref_m (G:=G) tKofN (by decide)
  have a1:=atomref_m (G:=G) (dec M) (by omega)
  have a2:=atomref_m (G:=G) (dec s.kids.length) (by omega)
  rw [hN0,Int.toNat_natCast] at hv
  rw [hv,sbC_eq,hN0]
  have hL:=treeC_mk true false [] [] (atomT tKofN::atomT (dec M)::atomT (dec s.kids.length)::s.kids.map Sb.val)
  rw [show treeC (listT (atomT tKofN::atomT (dec M)::atomT (dec s.kids.length)::s.kids.map Sb.val))=treeC (.mk true false [] [] (atomT tKofN::atomT (dec M)::atomT (dec s.kids.length)::s.kids.map Sb.val)) from rfl]
  generalize treeC (.mk true false [] [] (atomT tKofN::atomT (dec M)::atomT (dec s.kids.length)::s.kids.map Sb.val))=O at *
  obtain ⟨T,hT⟩: ∃ T,T=treeC (atomT tKofN)++treeC (atomT (dec M))++treeC (atomT (dec s.kids.length)):=⟨_,rfl⟩
  have hTl:T.length=15:=by rw [hT,List.length_append,List.length_append,treeC_len,treeC_len,treeC_len]
  clear hr
  have e1:((s.kind.toNat:Int)==1)=false:=by rw [c3];rfl
  have e2:((s.kind.toNat:Int)==2)=false:=by rw [c3];rfl
  unfold tKofN at *
  simp only [bD,bytesD] at *
  refine spec_of Tryz.func48 rfl rfl rfl (by kernel_rfl) rfl fun K=>?_
  (repeat' (first|with_reducible (first|refine zA fun Kn hK=>?_|refine zU ?_|refine Nx.go ?_|go_step)|refine ⟨none,?_⟩|refine ⟨_,a0,?_⟩|refine ⟨_,hl1,?_⟩|refine ⟨_,a1,?_⟩|refine ⟨_,hl2,?_⟩|refine ⟨_,a2,?_⟩|with_reducible (first|refine zI ?_|refine zV ?_)|simp (maxSteps:=9^9) (disch:=omega) only [wq]|with_reducible refine zM (fun hb=>?_) (fun hb=>?_)<;>try simp only [hb]|with_reducible refine And.intro (by first|omega|(simp;done)|(simp;omega)) ?_|simp (maxSteps:=9^9) -implicitDefEqProofs only [go_sem,e1,e2,rep1,List.length_map,List.length_cons,List.length_nil,atomT,treeC_mk,bD,bytesD]))
  refine sound_loopR (fun x:{k:Nat // k≤s.kids.length}=>⟨[(1,vP 1 0),(2,vP 2 0),(3,vR 1000 5 (3+x.1)),(56,vI s.kids.length),(57,vI x.1)],[(1,some ⟨28,sbK s,true,false⟩),(2,some ⟨45,zeroOf Tryz.prog 45,true,false⟩),(1000,some ⟨45,(T++(s.kids.take x.1).flatMap fun x=>treeC x.val).map C.d,false,false⟩)]⟩) (fun x=>s.kids.length-x.1) ⟨0,by omega⟩ [(1000,53)] (by (iterate 2 ((try simp (maxSteps:=9^9) -implicitDefEqProofs only [go_sem,bD,hN0,AObj.trim,List.take_zero,List.flatMap_nil,List.map_nil,List.append_nil]);(try simp (maxSteps:=9^9) (disch:=omega) only [wq])));refine ⟨rfl,?_,by simp⟩;rw [hT,atomT,atomT,atomT,treeC_mk,treeC_mk,treeC_mk];rfl) (fun ⟨k,hk⟩=>?_)
  by_cases hlt:k<s.kids.length
  ·obtain ⟨x,hx⟩: ∃ x,s.kids[k]?=some x:=⟨_,List.getElem?_eq_getElem hlt⟩
   have hb:decide ((k:Int)<(s.kids.length:Int))=true:=by simpa using hlt
   have hm:=List.mem_of_getElem? hx
   have ht:T++(s.kids.take (k+1)).flatMap (fun x=>treeC x.val)=T++(s.kids.take k).flatMap (fun x=>treeC x.val)++treeC x.val:=by
    rw [List.take_add_one,hx,List.flatMap_append,List.append_assoc]
    simp
   have hlen:(T++(s.kids.take k).flatMap fun x=>treeC x.val).length=(3+k)*5:=by
    rw [List.length_append,hTl,show ((s.kids.take k).flatMap fun x=>treeC x.val)=((s.kids.take k).map Sb.val).flatMap treeC from by rw [List.flatMap_map],treeC_flen,List.length_map,List.length_take,Nat.min_eq_left hk]
    omega
   have hxv:=ih x hm _ _ rfl (hrk x hm)
   have hf:=flat_at sbC_len hx
   rw [sbC_eq x] at hxv hf
   simp only [bD,bytesD] at hxv hf
   generalize T++(s.kids.take k).flatMap (fun x=>treeC x.val)=W at *
   (repeat' (first|with_reducible (first|refine zA fun Kn hK=>?_|refine zU ?_|refine Nx.go ?_|go_step)|refine ⟨_,hxv,?_⟩|with_reducible (first|refine zI ?_|refine zV ?_)|simp (maxSteps:=9^9) (disch:=omega) only [wq]|with_reducible refine zM (fun hb=>?_) (fun hb=>?_)<;>try simp only [hb]|with_reducible refine And.intro (by first|omega|(simp;done)|(simp;omega)) ?_|simp (maxSteps:=9^9) -implicitDefEqProofs only [go_sem,hb,rep1,hlen,List.length_map,true_and,Nat.le_refl,List.append_nil,hf,bD,bytesD]))
   refine ⟨[(1000,68)],⟨k+1,hlt⟩,?_⟩
   rw [ht]
   (iterate 2 ((try simp (maxSteps:=9^9) -implicitDefEqProofs only [go_sem,bD,bytesD]);(try simp (maxSteps:=9^9) (disch:=omega) only [wq])))
   (simp only [ijq,true_and,and_true];first|done|omega|(split<;>omega)|(simp;done)|(simp;omega))
  ·have hb:decide ((k:Int)<(s.kids.length:Int))=false:=by simpa using hlt
   obtain rfl:k=s.kids.length:=by omega
   rw [List.take_length]
   have hlen:(T++s.kids.flatMap fun x=>treeC x.val).length=(3+s.kids.length)*5:=by
    rw [List.length_append,hTl,show (s.kids.flatMap fun x=>treeC x.val)=(s.kids.map Sb.val).flatMap treeC from by rw [List.flatMap_map],treeC_flen,List.length_map]
    omega
   rw [List.flatMap_cons,List.flatMap_cons,List.flatMap_cons,List.flatMap_map,← List.append_assoc,← List.append_assoc,List.length_cons,List.length_cons,List.length_cons,List.length_map,show s.kids.length+1+1+1=3+s.kids.length by omega,← hT] at hL
   generalize T++s.kids.flatMap (fun x=>treeC x.val)=W at *
   (repeat' (first|with_reducible (first|refine zA fun Kn hK=>?_|refine zU ?_|refine Nx.go ?_|go_step)|refine ⟨none,?_⟩|with_reducible (first|refine zI ?_|refine zV ?_)|simp (maxSteps:=9^9) (disch:=omega) only [wq]|with_reducible refine zM (fun hb=>?_) (fun hb=>?_)<;>try simp only [hb]|with_reducible refine And.intro (by first|omega|(simp;done)|(simp;omega)) ?_|simp (maxSteps:=9^9) -implicitDefEqProofs only [go_sem,hb,hlen,bD,bytesD,List.length_map]))
   all_goals (rw [hL];try rfl)
 ·have hkm:=right_key hr c3
  have hkl:=keyMay_len hkm
  have hval:=value_m (G:=G) s.ks s.kd (by omega)
  by_cases c1:s.kind=1
  ·have e1:((s.kind.toNat:Int)==1)=true:=by rw [c1];rfl
   rw [if_pos c1] at hv
   rw [hv,sbC_eq]
   rw [treeC_eq (keyV s.ks s.kd)] at hval ⊢
   generalize keyV s.ks s.kd=V at *
   simp only [keyC,bD,bytesD] at *
   refine spec_of Tryz.func48 rfl rfl rfl (by kernel_rfl) rfl fun K=>?_
   (repeat' (first|with_reducible (first|refine zA fun Kn hK=>?_|refine zU ?_|refine Nx.go ?_|go_step)|refine ⟨_,hval,?_⟩|with_reducible (first|refine zI ?_|refine zV ?_)|simp (maxSteps:=9^9) (disch:=omega) only [wq]|with_reducible refine zM (fun hb=>?_) (fun hb=>?_)<;>try simp only [hb]|with_reducible refine And.intro (by first|omega|(simp;done)|(simp;omega)) ?_|simp (maxSteps:=9^9) -implicitDefEqProofs only [go_sem,e1]))
   all_goals rfl
  have e1:((s.kind.toNat:Int)==1)=false:=by
   rw [beq_eq_false_iff_ne]
   intro h
   exact c1 (UInt8.toNat_inj.1 (show s.kind.toNat=1 by omega))
  have c2:s.kind=2:=by
   rcases right_kind hr with h|h|h
   ·exact (c1 h).elim
   ·exact h
   ·exact (c3 h).elim
  have e2:((s.kind.toNat:Int)==2)=true:=by rw [c2];rfl
  have h8:s.names.length≤8:=by
   rw [Sb.right_eq,if_neg c1,if_pos c2] at hr
   simp only [Sb.names2,Bool.and_eq_true,decide_eq_true_eq] at hr
   exact hr.2.2.1
  have a0:=atomref_m (G:=G) tName (by decide)
  rw [if_neg c1,if_pos c2] at hv
  rw [hv,sbC_eq]
  rw [show treeC (listT (atomT tName::keyV s.ks s.kd::s.names.map atomT))=treeC (.mk true false [] [] (atomT tName::keyV s.ks s.kd::s.names.map atomT)) from rfl]
  have hL:=treeC_mk true false [] [] (atomT tName::keyV s.ks s.kd::s.names.map atomT)
  generalize treeC (.mk true false [] [] (atomT tName::keyV s.ks s.kd::s.names.map atomT))=O at *
  generalize keyV s.ks s.kd=V at *
  obtain ⟨T,hT⟩: ∃ T,T=treeC (atomT tName)++treeC V:=⟨_,rfl⟩
  have hTl:T.length=10:=by rw [hT,List.length_append,treeC_len,treeC_len]
  rw [treeC_eq V] at hval
  clear hr hkm
  unfold tName at *
  simp only [keyC,bD,bytesD] at *
  refine spec_of Tryz.func48 rfl rfl rfl (by kernel_rfl) rfl fun K=>?_
  (repeat' (first|with_reducible (first|refine zA fun Kn hK=>?_|refine zU ?_|refine Nx.go ?_|go_step)|refine ⟨none,?_⟩|refine ⟨_,hval,?_⟩|refine ⟨_,a0,?_⟩|with_reducible (first|refine zI ?_|refine zV ?_)|simp (maxSteps:=9^9) (disch:=omega) only [wq]|with_reducible refine zM (fun hb=>?_) (fun hb=>?_)<;>try simp only [hb]|with_reducible refine And.intro (by first|omega|(simp;done)|(simp;omega)) ?_|simp (maxSteps:=9^9) -implicitDefEqProofs only [go_sem,e1,e2,rep1,List.length_map,List.length_cons,List.length_nil,atomT,treeC_mk,bD,bytesD]))
  refine sound_loopR (fun x:{k:Nat // k≤s.names.length}=>⟨[(1,vP 1 0),(2,vP 2 0),(3,vR 1000 5 (2+x.1)),(25,vI s.names.length),(26,vI x.1)],[(1,some ⟨28,sbK s,true,false⟩),(2,some ⟨45,zeroOf Tryz.prog 45,true,false⟩),(1000,some ⟨45,T.map C.d++(s.names.take x.1).flatMap atomC,false,false⟩)]⟩) (fun x=>s.names.length-x.1) ⟨0,by omega⟩ [(1000,22)] (by (iterate 2 ((try simp (maxSteps:=9^9) -implicitDefEqProofs only [go_sem,bD,bytesD,AObj.trim,List.take_zero,List.flatMap_nil,List.map_nil,List.append_nil]);(try simp (maxSteps:=9^9) (disch:=omega) only [wq])));refine ⟨rfl,?_,by simp⟩;rw [hT,treeC_eq V,atomT,treeC_mk];rfl) (fun ⟨k,hk⟩=>?_)
  by_cases hlt:k<s.names.length
  ·obtain ⟨x,hx⟩: ∃ x,s.names[k]?=some x:=⟨_,List.getElem?_eq_getElem hlt⟩
   have hb:decide ((k:Int)<(s.names.length:Int))=true:=by simpa using hlt
   have hm:=List.mem_of_getElem? hx
   have ht:T.map C.d++(s.names.take (k+1)).flatMap atomC=T.map C.d++(s.names.take k).flatMap atomC++atomC x:=by
    rw [List.take_add_one,hx,List.flatMap_append,List.append_assoc]
    simp
   have hlen:(T.map C.d++(s.names.take k).flatMap atomC).length=(2+k)*5:=by
    rw [List.length_append,List.length_map,hTl,atomC_len,List.length_take,Nat.min_eq_left hk]
    omega
   have hr:(s.names.map bytesD)[k]?=some (D.sl x.length (x.map bD)):=row_at hx
   generalize T.map C.d++(s.names.take k).flatMap atomC=W at *
   (repeat' (first|with_reducible (first|refine zA fun Kn hK=>?_|refine zU ?_|refine Nx.go ?_|go_step)|with_reducible (first|refine zI ?_|refine zV ?_)|simp (maxSteps:=9^9) (disch:=omega) only [wq]|with_reducible refine zM (fun hb=>?_) (fun hb=>?_)<;>try simp only [hb]|with_reducible refine And.intro (by first|omega|(simp;done)|(simp;omega)) ?_|simp (maxSteps:=9^9) -implicitDefEqProofs only [go_sem,hb,rep1,hlen,List.length_map,true_and,Nat.le_refl,List.append_nil,hr,bD]))
   refine ⟨[(1000,37)],⟨k+1,hlt⟩,?_⟩
   rw [ht]
   (iterate 2 ((try simp (maxSteps:=9^9) -implicitDefEqProofs only [go_sem,bD,bytesD]);(try simp (maxSteps:=9^9) (disch:=omega) only [wq])))
   simp only [atomC]
   (simp only [ijq,true_and,and_true];first|done|omega|(split<;>omega)|(simp;done)|(simp;omega))
  ·have hb:decide ((k:Int)<(s.names.length:Int))=false:=by simpa using hlt
   obtain rfl:k=s.names.length:=by omega
   rw [List.take_length]
   have hlen:(T.map C.d++s.names.flatMap atomC).length=(2+s.names.length)*5:=by
    rw [List.length_append,List.length_map,hTl,atomC_len]
    omega
   have hdo:=dOnly_cat (dOnly_mapd T) (atomC_only s.names)
   rw [List.flatMap_cons,List.flatMap_cons,List.flatMap_map,← List.append_assoc,List.length_cons,List.length_cons,List.length_map,show s.names.length+1+1=2+s.names.length by omega,← hT] at hL
   generalize T.map C.d++s.names.flatMap atomC=W at *
   (repeat' (first|with_reducible (first|refine zA fun Kn hK=>?_|refine zU ?_|refine Nx.go ?_|go_step)|refine ⟨none,?_⟩|with_reducible (first|refine zI ?_|refine zV ?_)|simp (maxSteps:=9^9) (disch:=omega) only [wq]|with_reducible refine zM (fun hb=>?_) (fun hb=>?_)<;>try simp only [hb]|with_reducible refine And.intro (by first|omega|(simp;done)|(simp;omega)) ?_|simp (maxSteps:=9^9) -implicitDefEqProofs only [go_sem,hb,hlen,hdo,bD,bytesD,List.length_map]))
   all_goals (rw [hL];try rfl)
theorem rsmay_m (s:Sb) {cs:List D} (hcs:sbC s=cs) (hf:s.fit):Spec Tryz.prog G 19 [.g cs] (.one (.c (.v (.bool s.may)))):=by
 subst hcs
 have h1:=rright16_m (G:=G) s _ 1 rfl (by omega)
 rw [show ((1:Nat):Int)=1 from rfl] at h1
 unfold Sb.may
 cases hr:s.right 1 with
 | false =>
  rw [hr] at h1
  rw [sbC_eq] at h1 ⊢
  simp only [bD,bytesD] at *
  refine spec_of Tryz.func19 rfl rfl rfl (by kernel_rfl) rfl fun K=>?_
  (repeat' (first|with_reducible (first|refine zA fun Kn hK=>?_|refine zU ?_|refine Nx.go ?_|go_step)|refine ⟨_,h1,?_⟩|with_reducible (first|refine zI ?_|refine zV ?_)|simp (maxSteps:=9^9) (disch:=omega) only [wq]|with_reducible refine zM (fun hb=>?_) (fun hb=>?_)<;>try simp only [hb]|with_reducible refine And.intro (by first|omega|(simp;done)|(simp;omega)) ?_|simp (maxSteps:=9^9) -implicitDefEqProofs only [go_sem,decide_true]))
  all_goals rfl
 | true =>
  rw [hr] at h1
  have h2:=rsvalue_m (G:=G) s _ 1 rfl hr
  have h3:=may_m (G:=G) s.val rfl (by have:=sval_wt hf hr;omega)
  generalize s.val.may=q at *
  rw [treeC_eq s.val] at h2 h3
  rw [sbC_eq] at h1 h2 ⊢
  simp only [bD,bytesD] at *
  refine spec_of Tryz.func19 rfl rfl rfl (by kernel_rfl) rfl fun K=>?_
  (repeat' (first|with_reducible (first|refine zA fun Kn hK=>?_|refine zU ?_|refine Nx.go ?_|go_step)|refine ⟨_,h1,?_⟩|refine ⟨_,h2,?_⟩|refine ⟨_,h3,?_⟩|with_reducible (first|refine zI ?_|refine zV ?_)|simp (maxSteps:=9^9) (disch:=omega) only [wq]|with_reducible refine zM (fun hb=>?_) (fun hb=>?_)<;>try simp only [hb]|with_reducible refine And.intro (by first|omega|(simp;done)|(simp;omega)) ?_|simp (maxSteps:=9^9) -implicitDefEqProofs only [go_sem,decide_true]))
  all_goals (cases q<;>rfl)
end
theorem rkget_m {G:Nat→Option (List D)} (v:Tree) {cs:List D} (hcs:treeC v=cs):Spec Tryz.prog G 67 [.g cs] (.many [.g (keyD (rgetK v)),.c (.v (.bool (rgetK v).isSome))]):=by
 subst hcs
 refine spec_of Tryz.func67 rfl rfl rfl (by kernel_rfl) rfl fun K=>?_
 rw [treeC_eq]
 have hg:rgetK v=if headB v tHash&&v.kids.length==3&&isB (v.kid 1) tSha&&plainB (v.kid 2) 64 then some (true,(v.kid 2).data)
  else if headB v tPub&&v.kids.length==2&&headB (v.kid 1) tEd&&(v.kid 1).kids.length==2&&plainB ((v.kid 1).kid 1) 32 then some (false,((v.kid 1).kid 1).data) else none:=rfl
 by_cases h3:v.kids.length=3
 ·have e1:=flat_at treeC_len (Tree.kid_get (t:=v) (i:=1) (by omega))
  have e2:=flat_at treeC_len (Tree.kid_get (t:=v) (i:=2) (by omega))
  obtain ⟨_,_,_,c3,_⟩:=ptr_cells e2
  simp only [Nat.reduceMul,Nat.reduceAdd] at e1 e2 c3
  (repeat' (first|with_reducible (first|refine zA fun Kn hK=>?_|refine zU ?_|refine Nx.go ?_|go_step)|(refine ⟨_,headref_m v (by first|rfl|(rw [treeC_eq];first|rfl|(simp only [go_sem, *];done))) tHash,?_⟩)|(refine ⟨_,headref_m v (by first|rfl|(rw [treeC_eq];first|rfl|(simp only [go_sem, *];done))) tPub,?_⟩)|(refine ⟨_,isref_m (v.kid 1) (by first|rfl|(rw [treeC_eq];first|rfl|(simp only [go_sem, *];done))) tSha,?_⟩)|(refine ⟨_,plain_m (v.kid 2) (by first|rfl|(rw [treeC_eq];first|rfl|(simp only [go_sem, *];done))) 64,?_⟩)|with_reducible (first|refine zI ?_|refine zV ?_)|simp (maxSteps:=9^9) (disch:=omega) only [wq]|with_reducible refine zM (fun hb=>?_) (fun hb=>?_)<;>try simp only [hb]|with_reducible refine And.intro (by first|omega|(simp;done)|(simp;omega)) ?_|simp (maxSteps:=9^9) -implicitDefEqProofs only [go_sem,h3,e1,e2,c3,int_beqL]))
  all_goals (rw [hg,h3];simp only [*];rfl)
 ·have n3:(v.kids.length==3)=false:=by simpa using h3
  by_cases h2:v.kids.length=2
  ·have e1:=flat_at treeC_len (Tree.kid_get (t:=v) (i:=1) (by omega))
   obtain ⟨_,_,_,_,c4⟩:=ptr_cells e1
   simp only [Nat.reduceMul,Nat.reduceAdd] at e1 c4
   by_cases h4:(v.kid 1).kids.length=2
   ·have e2:=flat_at treeC_len (Tree.kid_get (t:=v.kid 1) (i:=1) (by omega))
    obtain ⟨_,_,_,c3,_⟩:=ptr_cells e2
    simp only [Nat.reduceMul,Nat.reduceAdd] at e2 c3
    (repeat' (first|with_reducible (first|refine zA fun Kn hK=>?_|refine zU ?_|refine Nx.go ?_|go_step)|(refine ⟨_,headref_m v (by first|rfl|(rw [treeC_eq];first|rfl|(simp only [go_sem, *];done))) tHash,?_⟩)|(refine ⟨_,headref_m v (by first|rfl|(rw [treeC_eq];first|rfl|(simp only [go_sem, *];done))) tPub,?_⟩)|(refine ⟨_,headref_m (v.kid 1) (by first|rfl|(rw [treeC_eq];first|rfl|(simp only [go_sem, *];done))) tEd,?_⟩)|(refine ⟨_,plain_m ((v.kid 1).kid 1) (by first|rfl|(rw [treeC_eq];first|rfl|(simp only [go_sem, *];done))) 32,?_⟩)|with_reducible (first|refine zI ?_|refine zV ?_)|simp (maxSteps:=9^9) (disch:=omega) only [wq]|with_reducible refine zM (fun hb=>?_) (fun hb=>?_)<;>try simp only [hb]|with_reducible refine And.intro (by first|omega|(simp;done)|(simp;omega)) ?_|simp (maxSteps:=9^9) -implicitDefEqProofs only [go_sem,h2,h4,e1,e2,c3,c4,int_beqL]))
    all_goals (rw [hg,n3,h2,h4];simp only [*,Bool.and_false,Bool.false_and];rfl)
   ·have n4:((v.kid 1).kids.length==2)=false:=by simpa using h4
    (repeat' (first|with_reducible (first|refine zA fun Kn hK=>?_|refine zU ?_|refine Nx.go ?_|go_step)|(refine ⟨_,headref_m v (by first|rfl|(rw [treeC_eq];first|rfl|(simp only [go_sem, *];done))) tHash,?_⟩)|(refine ⟨_,headref_m v (by first|rfl|(rw [treeC_eq];first|rfl|(simp only [go_sem, *];done))) tPub,?_⟩)|(refine ⟨_,headref_m (v.kid 1) (by first|rfl|(rw [treeC_eq];first|rfl|(simp only [go_sem, *];done))) tEd,?_⟩)|with_reducible (first|refine zI ?_|refine zV ?_)|simp (maxSteps:=9^9) (disch:=omega) only [wq]|with_reducible refine zM (fun hb=>?_) (fun hb=>?_)<;>try simp only [hb]|with_reducible refine And.intro (by first|omega|(simp;done)|(simp;omega)) ?_|simp (maxSteps:=9^9) -implicitDefEqProofs only [go_sem,h2,e1,c4,int_beqL,n4]))
    all_goals (rw [hg,n3,h2,n4];simp only [*,Bool.and_false,Bool.false_and];rfl)
  ·have n2:(v.kids.length==2)=false:=by simpa using h2
   (repeat' (first|with_reducible (first|refine zA fun Kn hK=>?_|refine zU ?_|refine Nx.go ?_|go_step)|(refine ⟨_,headref_m v (by first|rfl|(rw [treeC_eq];first|rfl|(simp only [go_sem, *];done))) tHash,?_⟩)|(refine ⟨_,headref_m v (by first|rfl|(rw [treeC_eq];first|rfl|(simp only [go_sem, *];done))) tPub,?_⟩)|with_reducible (first|refine zI ?_|refine zV ?_)|simp (maxSteps:=9^9) (disch:=omega) only [wq]|with_reducible refine zM (fun hb=>?_) (fun hb=>?_)<;>try simp only [hb]|with_reducible refine And.intro (by first|omega|(simp;done)|(simp;omega)) ?_|simp (maxSteps:=9^9) -implicitDefEqProofs only [go_sem,n2,n3,int_beqL]))
   all_goals (rw [hg,n3,n2];simp only [Bool.and_false,Bool.false_and];rfl)
theorem small_at {v:Tree} {k:Nat} (h1:1≤k) (h8:k≤8) (hb:isB v (dec k)=true) (hall: ∀ j,1≤j→j<k→isB v (dec j)=false):smallT v=some k:=by
 unfold smallT
 match k,h1,h8 with
 | 1,_,_=>rw [hb];rfl
 | 2,_,_=>rw [hall 1 (by omega) (by omega),hb];rfl
 | 3,_,_=>rw [hall 1 (by omega) (by omega),hall 2 (by omega) (by omega),hb];rfl
 | 4,_,_=>rw [hall 1 (by omega) (by omega),hall 2 (by omega) (by omega),hall 3 (by omega) (by omega),hb];rfl
 | 5,_,_=>rw [hall 1 (by omega) (by omega),hall 2 (by omega) (by omega),hall 3 (by omega) (by omega),hall 4 (by omega) (by omega),hb];rfl
 | 6,_,_=>rw [hall 1 (by omega) (by omega),hall 2 (by omega) (by omega),hall 3 (by omega) (by omega),hall 4 (by omega) (by omega),hall 5 (by omega) (by omega),hb];rfl
 | 7,_,_=>rw [hall 1 (by omega) (by omega),hall 2 (by omega) (by omega),hall 3 (by omega) (by omega),hall 4 (by omega) (by omega),hall 5 (by omega) (by omega),hall 6 (by omega) (by omega),hb];rfl
 | 8,_,_=>rw [hall 1 (by omega) (by omega),hall 2 (by omega) (by omega),hall 3 (by omega) (by omega),hall 4 (by omega) (by omega),hall 5 (by omega) (by omega),hall 6 (by omega) (by omega),hall 7 (by omega) (by omega),hb];rfl
theorem small_no {v:Tree} (hall: ∀ j,1≤j→j<9→isB v (dec j)=false):smallT v=none:=by
 unfold smallT
 rw [hall 1 (by omega) (by omega),hall 2 (by omega) (by omega),hall 3 (by omega) (by omega),hall 4 (by omega) (by omega),hall 5 (by omega) (by omega),hall 6 (by omega) (by omega),hall 7 (by omega) (by omega),hall 8 (by omega) (by omega)]
 rfl
theorem small_le {v:Tree} {k:Nat} (h:smallT v=some k):k≤8:=by
 unfold smallT at h
 repeat' split at h
 all_goals first|(injection h with h;omega)|cases h
theorem allSome_snoc {α β:Type} {f:α→Option β} {l:List α} {x:α} {m:List β} {y:β} (h:allSome (l.map f)=some m) (hx:f x=some y):allSome ((l++[x]).map f)=some (m++[y]):=by
 induction l generalizing m with
 | nil =>
  injection h with h
  subst h
  rw [List.nil_append,List.map_cons,List.map_nil,hx]
  rfl
 | cons a l ih =>
  rw [List.map_cons] at h
  cases ha:f a with
  | none=>rw [ha] at h;cases h
  | some b =>
   rw [ha,allSome] at h
   obtain ⟨m',hm',rfl⟩:=Option.map_eq_some_iff.1 h
   rw [List.cons_append,List.map_cons,ha,allSome,ih hm']
   rfl
theorem allSome_no {α β:Type} {f:α→Option β} {l:List α} {x:α} {k:Nat} (hk:l[k]?=some x) (hx:f x=none):allSome (l.map f)=none:=by
 induction l generalizing k with
 | nil=>simp at hk
 | cons a l ih =>
  rw [List.map_cons]
  cases k with
  | zero =>
   have:a=x:=by simpa using hk
   rw [this,hx]
   rfl
  | succ k =>
   have hk:l[k]?=some x:=by simpa using hk
   cases ha:f a with
   | none=>rfl
   | some b =>
    rw [allSome,ih hk]
    rfl
theorem head_other {v:Tree} {s t:List UInt8} (h:headB v s=true) (hst:s≠t):headB v t=false:=by
 obtain ⟨l,hd,ht,d,ks⟩:=v
 cases ks with
 | nil =>
  have h1:(l&&false)=true:=h
  rw [Bool.and_false] at h1
  cases h1
 | cons x m =>
  have h1:(l&&isB x s)=true:=h
  show (l&&isB x t)=false
  unfold isB at *
  simp only [Bool.and_eq_true,beq_iff_eq] at h1
  rw [h1.2.2,beq_eq_false_iff_ne.2 hst]
  simp
theorem take_drop_snoc {α:Type} {l:List α} {i n:Nat} {x:α} (hx:l[i]?=some x) (hn:n≤i):(l.take (i+1)).drop n=(l.take i).drop n++[x]:=by
 rw [List.take_add_one,hx,List.drop_append_of_le_length (by
  have:i<l.length:=by
   rcases Nat.lt_or_ge i l.length with h|h
   ·exact h
   ·rw [List.getElem?_eq_none h] at hx
    cases hx
  rw [List.length_take]
  omega)]
 rfl
section
variable {G:Nat→Option (List D)}
theorem rsmall_m (v:Tree) {cs:List D} (hcs:treeC v=cs):Spec Tryz.prog G 125 [.g cs] (.many [.c (.v (.int .i64 ((smallT v).getD 0:Nat))),.c (.v (.bool (smallT v).isSome))]):=by
 subst hcs
 obtain ⟨R,hR⟩: ∃ R,smallT v=R:=⟨_,rfl⟩
 rw [hR]
 have hi:=fun s=>isref_m (G:=G) v rfl s
 rw [treeC_eq] at hi ⊢
 simp only [bytesD] at *
 refine spec_of Tryz.func125 rfl rfl rfl (by kernel_rfl) rfl fun K=>?_
 (repeat' (first|with_reducible (first|refine zA fun Kn hK=>?_|refine zU ?_|refine Nx.go ?_|go_step)|with_reducible (first|refine zI ?_|refine zV ?_)|simp (maxSteps:=9^9) (disch:=omega) only [wq]|with_reducible refine zM (fun hb=>?_) (fun hb=>?_)<;>try simp only [hb]|with_reducible refine And.intro (by first|omega|(simp;done)|(simp;omega)) ?_|simp (maxSteps:=9^9) -implicitDefEqProofs only [go_sem,true_and]))
 refine sound_loopR (fun x:{k:Nat // 1≤k∧k≤9∧ ∀ j,1≤j→j<k→isB v (dec j)=false}=>⟨[(1,vP 1 0),(4,vI x.1)],[(1,some ⟨45,treeK v,true,false⟩)]⟩) (fun x=>9-x.1) ⟨1,by omega,by omega,fun j h1 h2=>absurd h1 (by omega)⟩ [] (by (iterate 2 ((try simp (maxSteps:=9^9) -implicitDefEqProofs only [go_sem,bD,bytesD]);(try simp (maxSteps:=9^9) (disch:=omega) only [wq])));try simp) (fun ⟨k,hk1,hk9,hall⟩=>?_)
 by_cases hlt:k≤8
 ·have hb:decide ((k:Int)≤8)=true:=decide_eq_true (by omega)
  have hd:=dec_m (G:=G) k (by omega)
  cases hq:isB v (dec k) with
  | true =>
   have hi':=hi (dec k)
   rw [hq] at hi'
   (repeat' (first|with_reducible (first|refine zA fun Kn hK=>?_|refine zU ?_|refine Nx.go ?_|go_step)|refine ⟨_,hd,?_⟩|refine ⟨_,hi',?_⟩|with_reducible (first|refine zI ?_|refine zV ?_)|simp (maxSteps:=9^9) (disch:=omega) only [wq]|with_reducible refine zM (fun hb=>?_) (fun hb=>?_)<;>try simp only [hb]|with_reducible refine And.intro (by first|omega|(simp;done)|(simp;omega)) ?_|simp (maxSteps:=9^9) -implicitDefEqProofs only [go_sem,hb,bytesD]))
   all_goals (rw [← hR,small_at hk1 hlt hq hall];rfl)
  | false =>
   have hi':=hi (dec k)
   rw [hq] at hi'
   (repeat' (first|with_reducible (first|refine zA fun Kn hK=>?_|refine zU ?_|refine Nx.go ?_|go_step)|refine ⟨_,hd,?_⟩|refine ⟨_,hi',?_⟩|with_reducible (first|refine zI ?_|refine zV ?_)|simp (maxSteps:=9^9) (disch:=omega) only [wq]|with_reducible refine zM (fun hb=>?_) (fun hb=>?_)<;>try simp only [hb]|with_reducible refine And.intro (by first|omega|(simp;done)|(simp;omega)) ?_|simp (maxSteps:=9^9) -implicitDefEqProofs only [go_sem,hb,bytesD]))
   refine ⟨[],⟨k+1,by omega,by omega,fun j h1 h2=>?_⟩,?_⟩
   ·rcases Nat.lt_or_ge j k with h|h
    ·exact hall j h1 h
    ·obtain rfl:j=k:=by omega
     exact hq
   ·(iterate 2 ((try simp (maxSteps:=9^9) -implicitDefEqProofs only [go_sem,bD,bytesD]);(try simp (maxSteps:=9^9) (disch:=omega) only [wq])))
    (simp only [ijq,true_and,and_true];first|done|omega|(split<;>omega)|(simp;done)|(simp;omega))
 ·obtain rfl:k=9:=by omega
  have hb:decide (((9:Nat):Int)≤8)=false:=by decide
  (repeat' (first|with_reducible (first|refine zA fun Kn hK=>?_|refine zU ?_|refine Nx.go ?_|go_step)|with_reducible (first|refine zI ?_|refine zV ?_)|simp (maxSteps:=9^9) (disch:=omega) only [wq]|with_reducible refine zM (fun hb=>?_) (fun hb=>?_)<;>try simp only [hb]|with_reducible refine And.intro (by first|omega|(simp;done)|(simp;omega)) ?_|simp (maxSteps:=9^9) -implicitDefEqProofs only [go_sem,hb]))
  all_goals (rw [← hR,small_no hall];rfl)
theorem rsget_m : ∀ v:Tree,∀ (cs:List D) (k:Nat),treeC v=cs→v.kids.length≤30000000→(∀ x∈v.kids,x.wt≤30000000)→k≤4→Spec Tryz.prog G 105 [.g cs,.c (.v (.int .i64 (k:Int)))] (.many [.g (sbC ((refS v k).getD Sb.none)),.c (.v (.bool (refS v k).isSome))]):=Tree.ind fun v ih cs k hcs hl hkw hk4=>by
 subst hcs
 have hg:=rkget_m (G:=G) v rfl
 have hh1:=headref_m (G:=G) v rfl tName
 have hh2:=headref_m (G:=G) v rfl tKofN
 have hn:sbC Sb.none=[.v (.int .u8 0),.v (.bool false),.sl 0 [],.sl 0 [],.v (.int .i64 0),.sl 0 []]:=by
  rw [show Sb.none= .mk 0 false [] [] 0 [] from rfl,sbC_mk]
  rfl
 have hR:=refS_eq v k
 obtain ⟨R,hR0⟩: ∃ R,refS v k=R:=⟨_,rfl⟩
 rw [hR0] at hR
 rw [hR0]
 clear hR0
 cases hgv:rgetK v with
 | some p =>
  obtain ⟨s,d⟩:=p
  rw [hgv] at hg hR
  rw [show keyD (some (s,d))=[.v (.bool s),bytesD d] from rfl,Option.isSome_some] at hg
  dsimp only at hR
  rw [hR,Option.getD_some,Option.isSome_some,sbC_mk]
  clear ih hh1 hh2 hn
  rw [treeC_eq] at hg ⊢
  simp only [bD,bytesD] at *
  refine spec_of Tryz.func105 rfl rfl rfl (by kernel_rfl) rfl fun K=>?_
  (repeat' (first|with_reducible (first|refine zA fun Kn hK=>?_|refine zU ?_|refine Nx.go ?_|go_step)|refine ⟨_,hg,?_⟩|with_reducible (first|refine zI ?_|refine zV ?_)|simp (maxSteps:=9^9) (disch:=omega) only [wq]|with_reducible refine zM (fun hb=>?_) (fun hb=>?_)<;>try simp only [hb]|with_reducible refine And.intro (by first|omega|(simp;done)|(simp;omega)) ?_|simp (maxSteps:=9^9) -implicitDefEqProofs only [go_sem,decide_true]))
  all_goals rfl
 | none =>
  rw [hgv] at hg hR
  rw [show keyD none=[.v (.bool false),bytesD []] from rfl,Option.isSome_none] at hg
  dsimp only at hR
  have p3:decide ((v.kids.length:Int)≥3)=decide (3≤v.kids.length):=by rw [decide_eq_decide];omega
  have p10:decide ((v.kids.length:Int)≤10)=decide (v.kids.length≤10):=by rw [decide_eq_decide];omega
  have hand:decide (3≤v.kids.length∧v.kids.length≤10)=(decide (3≤v.kids.length)&&decide (v.kids.length≤10)):=by
   rw [Bool.eq_iff_iff]
   simp
  rw [hand] at hR
  clear hand
  by_cases hw:(headB v tName&&(decide (3≤v.kids.length)&&decide (v.kids.length≤10)))=true
  ·rw [if_pos hw] at hR
   simp only [Bool.and_eq_true] at hw
   obtain ⟨w1,w2,w3⟩:=hw
   rw [w1] at hh1
   rw [w2] at p3
   rw [w3] at p10
   have hlen:=of_decide_eq_true w2
   have hlen2:=of_decide_eq_true w3
   have e1:=flat_at treeC_len (Tree.kid_get (t:=v) (i:=1) (by omega))
   have hg1:=rkget_m (G:=G) (v.kid 1) rfl
   simp only [Nat.reduceMul,Nat.reduceAdd] at e1
   obtain ⟨s,d,is,hs1,hs2⟩: ∃ s d is,keyD (rgetK (v.kid 1))=[.v (.bool s),bytesD d]∧rgetK (v.kid 1)=if is=true then some (s,d) else none:=by
    cases hq:rgetK (v.kid 1) with
    | none=>exact ⟨false,[],false,rfl,rfl⟩
    | some p=>exact ⟨p.1,p.2,true,rfl,rfl⟩
   have hs3:(rgetK (v.kid 1)).isSome=is:=by
    rw [hs2]
    cases is<;>rfl
   rw [hs1,hs3] at hg1
   rw [hs2] at hR
   have hR2:R=if (is&&(v.kids.drop 2).all nameOk)=true then some (.mk 2 s d ((v.kids.drop 2).map Tree.data) 0 []) else none:=by
    rw [hR]
    cases is with
    | false=>rfl
    | true =>
     rw [if_pos rfl]
     rfl
   clear hR hs1 hs2 hs3 hh2 ih
   rw [treeC_eq (v.kid 1)] at hg1 e1
   rw [treeC_eq v] at hg hh1 ⊢
   unfold tName at hh1
   simp only [bD,bytesD] at *
   refine spec_of Tryz.func105 rfl rfl rfl (by kernel_rfl) rfl fun K=>?_
   (repeat' (first|with_reducible (first|refine zA fun Kn hK=>?_|refine zU ?_|refine Nx.go ?_|go_step)|refine ⟨_,hg,?_⟩|refine ⟨_,hh1,?_⟩|refine ⟨_,hg1,?_⟩|with_reducible (first|refine zI ?_|refine zV ?_)|simp (maxSteps:=9^9) (disch:=omega) only [wq]|with_reducible refine zM (fun hb=>?_) (fun hb=>?_)<;>try simp only [hb]|with_reducible refine And.intro (by first|omega|(simp;done)|(simp;omega)) ?_|simp (maxSteps:=9^9) -implicitDefEqProofs only [go_sem,p3,p10,e1,decide_true]))
   refine sound_voidC 11 3 1000 1 22 (by rfl) (by rfl) (by rfl) (by rfl) ?_
   refine sound_loopR (fun x:{i:Nat // 2≤i∧i≤v.kids.length}=>⟨[(2,vP 2 0),(4,vP 4 0),(6,vP 6 0),(10,vB (is&&((v.kids.take x.1).drop 2).all nameOk)),(11,vP 11 0),(12,vI x.1)],[(2,some ⟨45,treeK v,true,false⟩),(4,some ⟨28,zeroOf Tryz.prog 28,true,false⟩),(6,some ⟨28,zeroOf Tryz.prog 28,true,false⟩),(11,some ⟨28,[.d (.v (.int .u8 2)),.d (.v (.bool s)),.d (.sl d.length (d.map bD)),.row 1000 1 0 (x.1-2) .grow,.d (.v (.int .i64 0)),.nil],true,false⟩),(1000,some ⟨22,(((v.kids.take x.1).drop 2).map fun y=>D.sl y.data.length (y.data.map bD)).map C.d,false,false⟩)]⟩) (fun x=>v.kids.length-x.1) ⟨2,by omega⟩ [] (by (iterate 2 ((try simp (maxSteps:=9^9) -implicitDefEqProofs only [go_sem,bD,bytesD]);(try simp (maxSteps:=9^9) (disch:=omega) only [wq])));try simp) (fun ⟨i,hi2,hi⟩=>?_)
   by_cases hlt:i<v.kids.length
   ·obtain ⟨x,hx⟩: ∃ x,v.kids[i]?=some x:=⟨_,List.getElem?_eq_getElem hlt⟩
    have hb:decide ((i:Int)<(v.kids.length:Int))=true:=by simpa using hlt
    have ht:=take_drop_snoc (n:=2) hx (by omega)
    have hf:=flat_at treeC_len hx
    have hlenW:(((v.kids.take i).drop 2).map fun y=>D.sl y.data.length (y.data.map bD)).length=i-2:=by
     rw [List.length_map,List.length_drop,List.length_take,Nat.min_eq_left hi]
    rw [treeC_eq x] at hf
    simp only [bytesD] at hf
    have hz:decide ((x.data.length:Int)>0)= !emptyL x.data:=pos_len x.data
    have hok:(is&&((v.kids.take (i+1)).drop 2).all nameOk)=(is&&(((v.kids.take i).drop 2).all nameOk&&(!x.list&&(!x.hinted&& !emptyL x.data)))):=by
     rw [ht,List.all_append]
     simp [nameOk]
    generalize ((v.kids.take i).drop 2).all nameOk=a0 at *
    have hmap:((v.kids.take (i+1)).drop 2).map (fun y=>D.sl y.data.length (y.data.map bD))=(((v.kids.take i).drop 2).map fun y=>D.sl y.data.length (y.data.map bD))++[D.sl x.data.length (x.data.map bD)]:=by
     rw [ht,List.map_append]
     rfl
    generalize (((v.kids.take i).drop 2).map fun y=>D.sl y.data.length (y.data.map bD))=W at *
    generalize emptyL x.data=a3 at *
    obtain ⟨a1,ha1⟩: ∃ a,x.list=a:=⟨_,rfl⟩
    obtain ⟨a2,ha2⟩: ∃ a,x.hinted=a:=⟨_,rfl⟩
    rw [ha1,ha2] at hok
    rw [ha1,ha2] at hf
    obtain ⟨b0,hb0⟩: ∃ b,(is&&a0)=b:=⟨_,rfl⟩
    rw [← Bool.and_assoc,hb0] at hok
    rw [hb0]
    have four:(b0=false)∨(b0=true∧a1=true)∨(b0=true∧a1=false∧a2=true)∨(b0=true∧a1=false∧a2=false):=by cases b0<;>cases a1<;>cases a2<;>simp
    rcases four with rfl|⟨rfl,rfl⟩|⟨rfl,rfl,rfl⟩|⟨rfl,rfl,rfl⟩
    all_goals
     (repeat' (first|with_reducible (first|refine zA fun Kn hK=>?_|refine zU ?_|refine Nx.go ?_|go_step)|(refine ⟨[(1000,89)],⟨i+1,by omega,hlt⟩,?_⟩;rw [hmap,hok])|with_reducible (first|refine zI ?_|refine zV ?_)|simp (maxSteps:=9^9) (disch:=omega) only [wq]|with_reducible refine zM (fun hb=>?_) (fun hb=>?_)<;>try simp only [hb]|with_reducible refine And.intro (by first|omega|(simp;done)|(simp;omega)) ?_|simp (maxSteps:=9^9) -implicitDefEqProofs only [go_sem,hb,hf,hz,rep1,hlenW,List.length_map,true_and,Nat.le_refl,List.append_nil,Nat.mul_one,bD,bytesD,Bool.and_true,Bool.and_false,Bool.true_and,Bool.false_and,Bool.not_true,Bool.not_false]))
    all_goals omega
   ·have hb:decide ((i:Int)<(v.kids.length:Int))=false:=by simpa using hlt
    obtain rfl:i=v.kids.length:=by omega
    rw [List.take_length]
    have hlenW:((v.kids.drop 2).map fun y=>D.sl y.data.length (y.data.map bD)).length=v.kids.length-2:=by
     rw [List.length_map,List.length_drop]
    have hsb:sbC (.mk 2 s d ((v.kids.drop 2).map Tree.data) 0 [])=[.v (.int .u8 2),.v (.bool s),.sl d.length (d.map bD),.sl (v.kids.length-2) ((v.kids.drop 2).map fun y=>D.sl y.data.length (y.data.map bD)),.v (.int .i64 0),.sl 0 []]:=by
     rw [sbC_mk,List.map_map,List.length_map,List.length_drop]
     rfl
    generalize ((v.kids.drop 2).map fun y=>D.sl y.data.length (y.data.map bD))=W at *
    generalize (v.kids.drop 2).all nameOk=a0 at *
    cases is<;>cases a0
    all_goals
     (repeat' (first|with_reducible (first|refine zA fun Kn hK=>?_|refine zU ?_|refine Nx.go ?_|go_step)|with_reducible (first|refine zI ?_|refine zV ?_)|simp (maxSteps:=9^9) (disch:=omega) only [wq]|with_reducible refine zM (fun hb=>?_) (fun hb=>?_)<;>try simp only [hb]|with_reducible refine And.intro (by first|omega|(simp;done)|(simp;omega)) ?_|simp (maxSteps:=9^9) -implicitDefEqProofs only [go_sem,hb,hlenW,List.length_map,Nat.mul_one,bD,bytesD,Bool.and_true,Bool.and_false,Bool.true_and,Bool.false_and]))
     all_goals (rw [hR2];first|(rw [if_pos (by decide),Option.getD_some,hsb];rfl)|(rw [if_neg (by decide),Option.getD_none,hn];rfl))
  ·rw [if_neg hw] at hR
   have p4:decide ((v.kids.length:Int)<4)= !decide (4≤v.kids.length):=by
    rw [← decide_not,decide_eq_decide]
    omega
   have pd:decide ((k:Int)>3)= !decide (k≤3):=by
    rw [← decide_not,decide_eq_decide]
    omega
   have hand:decide (4≤v.kids.length∧k≤3)=(decide (4≤v.kids.length)&&decide (k≤3)):=by
    rw [Bool.eq_iff_iff]
    simp
   rw [hand] at hR
   clear hand
   have hoth:=head_other (v:=v) (s:=tName) (t:=tKofN)
   by_cases hz:(headB v tKofN&&(decide (4≤v.kids.length)&&decide (k≤3)))=true
   ·rw [if_pos hz] at hR
    simp only [Bool.and_eq_true,decide_eq_true_eq] at hz
    obtain ⟨z1,z2,z3⟩:=hz
    have z0:headB v tName=false:=by
     cases hq:headB v tName with
     | false=>rfl
     | true =>
      rw [hoth hq (by decide)] at z1
      cases z1
    rw [z0] at hh1
    rw [z1] at hh2
    rw [decide_eq_true z2] at p4
    rw [decide_eq_true z3] at pd
    clear p3 p10 hw hoth z0 z1
    have e1:=flat_at treeC_len (Tree.kid_get (t:=v) (i:=1) (by omega))
    have e2:=flat_at treeC_len (Tree.kid_get (t:=v) (i:=2) (by omega))
    simp only [Nat.reduceMul,Nat.reduceAdd] at e1 e2
    have s1:=rsmall_m (G:=G) (v.kid 1) rfl
    have s2:=rsmall_m (G:=G) (v.kid 2) rfl
    have l1: ∀ k,smallT (v.kid 1)=some k→k≤8:=fun _ h=>small_le h
    have l2: ∀ k,smallT (v.kid 2)=some k→k≤8:=fun _ h=>small_le h
    rw [treeC_eq (v.kid 1)] at s1 e1
    rw [treeC_eq (v.kid 2)] at s2 e2
    rw [treeC_eq v] at hg hh1 hh2 ⊢
    unfold tName at hh1
    unfold tKofN at hh2
    generalize smallT (v.kid 1)=o1 at *
    generalize smallT (v.kid 2)=o2 at *
    cases o1 with
    | none =>
     have hR:R=none:=hR
     rw [Option.getD_none,Option.isSome_none] at s1
     clear ih hkw l1 l2
     rw [hR,Option.getD_none,Option.isSome_none,hn]
     simp only [bD,bytesD] at *
     refine spec_of Tryz.func105 rfl rfl rfl (by kernel_rfl) rfl fun K=>?_
     (repeat' (first|with_reducible (first|refine zA fun Kn hK=>?_|refine zU ?_|refine Nx.go ?_|go_step)|refine ⟨_,hg,?_⟩|refine ⟨_,hh1,?_⟩|refine ⟨_,hh2,?_⟩|refine ⟨_,s1,?_⟩|refine ⟨_,s2,?_⟩|with_reducible (first|refine zI ?_|refine zV ?_)|simp (maxSteps:=9^9) (disch:=omega) only [wq]|with_reducible refine zM (fun hb=>?_) (fun hb=>?_)<;>try simp only [hb]|with_reducible refine And.intro (by first|omega|(simp;done)|(simp;omega)) ?_|simp (maxSteps:=9^9) -implicitDefEqProofs only [go_sem,p4,pd,e1,e2,decide_true,Bool.not_true,Bool.not_false]))
     all_goals rfl
    | some a =>
     cases o2 with
     | none =>
      have hR:R=none:=hR
      rw [Option.getD_some,Option.isSome_some] at s1
      rw [Option.getD_none,Option.isSome_none] at s2
      clear ih hkw l1 l2
      rw [hR,Option.getD_none,Option.isSome_none,hn]
      simp only [bD,bytesD] at *
      refine spec_of Tryz.func105 rfl rfl rfl (by kernel_rfl) rfl fun K=>?_
      (repeat' (first|with_reducible (first|refine zA fun Kn hK=>?_|refine zU ?_|refine Nx.go ?_|go_step)|refine ⟨_,hg,?_⟩|refine ⟨_,hh1,?_⟩|refine ⟨_,hh2,?_⟩|refine ⟨_,s1,?_⟩|refine ⟨_,s2,?_⟩|with_reducible (first|refine zI ?_|refine zV ?_)|simp (maxSteps:=9^9) (disch:=omega) only [wq]|with_reducible refine zM (fun hb=>?_) (fun hb=>?_)<;>try simp only [hb]|with_reducible refine And.intro (by first|omega|(simp;done)|(simp;omega)) ?_|simp (maxSteps:=9^9) -implicitDefEqProofs only [go_sem,p4,pd,e1,e2,decide_true,Bool.not_true,Bool.not_false]))
      all_goals rfl
     | some b =>
      have l1:=l1 a rfl
      have l2:=l2 b rfl
      rw [Option.getD_some,Option.isSome_some] at s1 s2
      dsimp only at hR
      have q1:(((b:Nat):Int)==(v.kids.length:Int)-3)=decide (b=v.kids.length-3):=by
       rw [Bool.eq_iff_iff,beq_iff_eq,decide_eq_true_iff]
       omega
      have q2:decide (((a:Nat):Int)>((b:Nat):Int))= !decide (a≤b):=by
       rw [← decide_not,decide_eq_decide]
       omega
      by_cases c1:b=v.kids.length-3
      ·rw [decide_eq_true c1] at q1
       by_cases c2:a≤b
       ·rw [if_pos ⟨c1,c2⟩] at hR
        rw [decide_eq_true c2] at q2
        have q3:decide (a≤b)=true:=decide_eq_true c2
        clear c1 c2
        simp only [bD,bytesD] at *
        refine spec_of Tryz.func105 rfl rfl rfl (by kernel_rfl) rfl fun K=>?_
        (repeat' (first|with_reducible (first|refine zA fun Kn hK=>?_|refine zU ?_|refine Nx.go ?_|go_step)|refine ⟨_,hg,?_⟩|refine ⟨_,hh1,?_⟩|refine ⟨_,hh2,?_⟩|refine ⟨_,s1,?_⟩|refine ⟨_,s2,?_⟩|with_reducible (first|refine zI ?_|refine zV ?_)|simp (maxSteps:=9^9) (disch:=omega) only [wq]|with_reducible refine zM (fun hb=>?_) (fun hb=>?_)<;>try simp only [hb]|with_reducible refine And.intro (by first|omega|(simp;done)|(simp;omega)) ?_|simp (maxSteps:=9^9) -implicitDefEqProofs only [go_sem,p4,pd,e1,e2,q1,q2,q3,bne,decide_true,Bool.not_true,Bool.not_false]))
        rotate_left 1
        ·exact absurd (hb.symm.trans q1) (by decide)
        refine sound_voidC 18 5 1000 6 28 (by rfl) (by rfl) (by rfl) (by rfl) ?_
        refine sound_loopR (fun x:{p:Nat × List Sb // (3≤p.1∧p.1≤v.kids.length)∧p.2.length=p.1-3∧allSome (((v.kids.take p.1).drop 3).map fun x=>refS x (k+1))=some p.2}=>⟨[(1,vI k),(2,vP 2 0),(4,vP 4 0),(6,vP 6 0),(18,vP 18 0),(19,vI x.1.1)],[(2,some ⟨45,treeK v,true,false⟩),(4,some ⟨28,zeroOf Tryz.prog 28,true,false⟩),(6,some ⟨28,zeroOf Tryz.prog 28,true,false⟩),(18,some ⟨28,[.d (.v (.int .u8 3)),.d (.v (.bool false)),.nil,.nil,.d (.v (.int .i64 a)),.row 1000 6 0 (x.1.1-3) .grow],true,false⟩),(1000,some ⟨28,(x.1.2.flatMap sbC).map C.d,false,false⟩)]⟩) (fun x=>v.kids.length-x.1.1) ⟨(3,[]),⟨by omega,by omega⟩,rfl,by rw [List.drop_eq_nil_of_le (by rw [List.length_take];omega)];rfl⟩ [] (by (iterate 2 ((try simp (maxSteps:=9^9) -implicitDefEqProofs only [go_sem,bD,bytesD]);(try simp (maxSteps:=9^9) (disch:=omega) only [wq])));try simp) (fun ⟨⟨i,l⟩,⟨hi3,hi⟩,hll,hall⟩=>?_)
        by_cases hlt:i<v.kids.length
        ·obtain ⟨x,hx⟩: ∃ x,v.kids[i]?=some x:=⟨_,List.getElem?_eq_getElem hlt⟩
         have hb:decide ((i:Int)<(v.kids.length:Int))=true:=by simpa using hlt
         have ht:=take_drop_snoc (n:=3) hx (by omega)
         have hf:=flat_at treeC_len hx
         have hm:=List.mem_of_getElem? hx
         have hxw:=hkw x hm
         have hxv:=ih x hm _ (k+1) rfl (by have:=x.wt_kids;omega) (fun y hy=>by have:=Tree.wt_kid hy;omega) (by omega)
         have hlenW:(l.flatMap sbC).length=(i-3)*6:=by rw [sbC_flen,hll]
         rw [treeC_eq x] at hf hxv
         simp only [bytesD] at hf hxv
         rw [show ((k+1:Nat):Int)=(k:Int)+1 from by omega] at hxv
         cases hq:refS x (k+1) with
         | none =>
          have hno:allSome ((v.kids.drop 3).map fun x=>refS x (k+1))=none:=allSome_no (k:=i-3) (x:=x) (by rw [List.getElem?_drop,show 3+(i-3)=i by omega];exact hx) hq
          rw [hno] at hR
          have hR:R=none:=hR
          rw [hq,Option.getD_none,Option.isSome_none,hn] at hxv
          clear ih hkw hg hh1 hh2 s1 s2 hno ht
          (repeat' (first|with_reducible (first|refine zA fun Kn hK=>?_|refine zU ?_|refine Nx.go ?_|go_step)|refine ⟨_,hxv,?_⟩|with_reducible (first|refine zI ?_|refine zV ?_)|simp (maxSteps:=9^9) (disch:=omega) only [wq]|with_reducible refine zM (fun hb=>?_) (fun hb=>?_)<;>try simp only [hb]|with_reducible refine And.intro (by first|omega|(simp;done)|(simp;omega)) ?_|simp (maxSteps:=9^9) -implicitDefEqProofs only [go_sem,hb,hf,bD,bytesD,Bool.not_true,Bool.not_false]))
          all_goals (rw [hR,Option.getD_none,Option.isSome_none,hn];try rfl)
         | some s' =>
          have hs:=allSome_snoc hall hq
          rw [← ht] at hs
          have hW:((l++[s']).flatMap sbC)=l.flatMap sbC++sbC s':=by rw [List.flatMap_append];simp
          rw [hq,Option.getD_some,Option.isSome_some] at hxv
          have hnew:(l++[s']).length=i+1-3:=by rw [List.length_append,hll,List.length_singleton];omega
          clear ih hkw hg hh1 hh2 s1 s2 ht hn hq
          rw [sbC_eq s'] at hxv hW
          simp only [bD,bytesD] at hxv hW
          generalize l.flatMap sbC=W at *
          (repeat' (first|with_reducible (first|refine zA fun Kn hK=>?_|refine zU ?_|refine Nx.go ?_|go_step)|refine ⟨_,hxv,?_⟩|(refine ⟨[(1000,172)],⟨(i+1,l++[s']),⟨by omega,hlt⟩,hnew,hs⟩,?_⟩;rw [hW])|with_reducible (first|refine zI ?_|refine zV ?_)|simp (maxSteps:=9^9) (disch:=omega) only [wq]|with_reducible refine zM (fun hb=>?_) (fun hb=>?_)<;>try simp only [hb]|with_reducible refine And.intro (by first|omega|(simp;done)|(simp;omega)) ?_|simp (maxSteps:=9^9) -implicitDefEqProofs only [go_sem,hb,hf,rep1,hlenW,List.length_map,true_and,Nat.le_refl,List.append_nil,bD,bytesD,Bool.not_true,Bool.not_false]))
          all_goals omega
        ·have hb:decide ((i:Int)<(v.kids.length:Int))=false:=by simpa using hlt
         obtain rfl:i=v.kids.length:=by omega
         rw [List.take_length] at hall
         rw [hall,Option.map_some] at hR
         have hlenW:(l.flatMap sbC).length=(v.kids.length-3)*6:=by rw [sbC_flen,hll]
         have hsb:sbC (.mk 3 false [] [] (a:Int) l)=[.v (.int .u8 3),.v (.bool false),.sl 0 [],.sl 0 [],.v (.int .i64 a),.sl (v.kids.length-3) (l.flatMap sbC)]:=by
          rw [sbC_mk,hll]
          rfl
         generalize l.flatMap sbC=W at *
         (repeat' (first|with_reducible (first|refine zA fun Kn hK=>?_|refine zU ?_|refine Nx.go ?_|go_step)|with_reducible (first|refine zI ?_|refine zV ?_)|simp (maxSteps:=9^9) (disch:=omega) only [wq]|with_reducible refine zM (fun hb=>?_) (fun hb=>?_)<;>try simp only [hb]|with_reducible refine And.intro (by first|omega|(simp;done)|(simp;omega)) ?_|simp (maxSteps:=9^9) -implicitDefEqProofs only [go_sem,hb,hlenW,List.length_map,bD,bytesD]))
         all_goals (rw [hR,Option.getD_some,Option.isSome_some,hsb];try rfl)
       ·rw [if_neg (fun h=>c2 h.2)] at hR
        rw [decide_eq_false c2] at q2
        have q3:decide (a≤b)=false:=decide_eq_false c2
        clear ih hkw
        rw [hR,Option.getD_none,Option.isSome_none,hn]
        simp only [bD,bytesD] at *
        refine spec_of Tryz.func105 rfl rfl rfl (by kernel_rfl) rfl fun K=>?_
        (repeat' (first|with_reducible (first|refine zA fun Kn hK=>?_|refine zU ?_|refine Nx.go ?_|go_step)|refine ⟨_,hg,?_⟩|refine ⟨_,hh1,?_⟩|refine ⟨_,hh2,?_⟩|refine ⟨_,s1,?_⟩|refine ⟨_,s2,?_⟩|with_reducible (first|refine zI ?_|refine zV ?_)|simp (maxSteps:=9^9) (disch:=omega) only [wq]|with_reducible refine zM (fun hb=>?_) (fun hb=>?_)<;>try simp only [hb]|with_reducible refine And.intro (by first|omega|(simp;done)|(simp;omega)) ?_|simp (maxSteps:=9^9) -implicitDefEqProofs only [go_sem,p4,pd,e1,e2,q1,q2,q3,bne,decide_true,Bool.not_true,Bool.not_false]))
        all_goals first|rfl|exact absurd (of_decide_eq_true hb) c2|exact absurd (hb.symm.trans q3) (by decide)|exact absurd (hb.symm.trans q1) (by decide)
      ·rw [if_neg (fun h=>c1 h.1)] at hR
       rw [decide_eq_false c1] at q1
       clear ih hkw
       rw [hR,Option.getD_none,Option.isSome_none,hn]
       simp only [bD,bytesD] at *
       refine spec_of Tryz.func105 rfl rfl rfl (by kernel_rfl) rfl fun K=>?_
       (repeat' (first|with_reducible (first|refine zA fun Kn hK=>?_|refine zU ?_|refine Nx.go ?_|go_step)|refine ⟨_,hg,?_⟩|refine ⟨_,hh1,?_⟩|refine ⟨_,hh2,?_⟩|refine ⟨_,s1,?_⟩|refine ⟨_,s2,?_⟩|with_reducible (first|refine zI ?_|refine zV ?_)|simp (maxSteps:=9^9) (disch:=omega) only [wq]|with_reducible refine zM (fun hb=>?_) (fun hb=>?_)<;>try simp only [hb]|with_reducible refine And.intro (by first|omega|(simp;done)|(simp;omega)) ?_|simp (maxSteps:=9^9) -implicitDefEqProofs only [go_sem,p4,pd,e1,e2,q1,q2,bne,decide_true,Bool.not_true,Bool.not_false]))
       all_goals first|rfl|exact absurd ((show (((b:Nat):Int)==(v.kids.length:Int)-3)=true by assumption).symm.trans q1) (by decide)
   ·rw [if_neg hz] at hR
    clear ih hkw
    rw [hR,Option.getD_none,Option.isSome_none,hn]
    generalize headB v tName=q1 at *
    generalize headB v tKofN=q2 at *
    generalize decide (3≤v.kids.length)=y3 at *
    generalize decide (v.kids.length≤10)=y10 at *
    generalize decide (4≤v.kids.length)=y4 at *
    generalize decide (k≤3)=yd at *
    have many:(q1=false∧q2=false)∨(q1=false∧q2=true∧y4=false)∨(q1=false∧q2=true∧y4=true∧yd=false)∨(q1=true∧q2=false∧y3=false)∨(q1=true∧q2=false∧y3=true∧y10=false):=by
     clear hg hh1 hh2 hn hR p3 p10 p4 pd
     revert hw hoth hz
     cases q1<;>cases q2<;>cases y3<;>cases y10<;>cases y4<;>cases yd<;>simp [tName,tKofN]
    clear hw hoth hz
    rw [treeC_eq v] at hg hh1 hh2 ⊢
    unfold tName at hh1
    unfold tKofN at hh2
    simp only [bD,bytesD] at *
    rcases many with ⟨rfl,rfl⟩|⟨rfl,rfl,rfl⟩|⟨rfl,rfl,rfl,rfl⟩|⟨rfl,rfl,rfl⟩|⟨rfl,rfl,rfl,rfl⟩
    all_goals
     refine spec_of Tryz.func105 rfl rfl rfl (by kernel_rfl) rfl fun K=>?_
     (repeat' (first|with_reducible (first|refine zA fun Kn hK=>?_|refine zU ?_|refine Nx.go ?_|go_step)|refine ⟨_,hg,?_⟩|refine ⟨_,hh1,?_⟩|refine ⟨_,hh2,?_⟩|with_reducible (first|refine zI ?_|refine zV ?_)|simp (maxSteps:=9^9) (disch:=omega) only [wq]|with_reducible refine zM (fun hb=>?_) (fun hb=>?_)<;>try simp only [hb]|with_reducible refine And.intro (by first|omega|(simp;done)|(simp;omega)) ?_|simp (maxSteps:=9^9) -implicitDefEqProofs only [go_sem,p3,p10,p4,pd,decide_true,Bool.not_true,Bool.not_false]))
     all_goals rfl
end
section
variable {G:Nat→Option (List D)}
noncomputable def rsGetD (o:Option Sb):DR:= .many [.g (sbC (o.getD Sb.none)),.c (.v (.bool o.isSome))]
theorem rsGet_m (v:Tree) {cs:List D} (hcs:treeC v=cs) (hw:v.wt≤30000000):Spec Tryz.prog G 64 [.g cs] (rsGetD (getSb v)):=by
 subst hcs
 have h1:=may_m (G:=G) v rfl (by omega)
 have h2:=rsget_m (G:=G) v _ 1 rfl (by have:=v.wt_kids;omega) (fun x hx=>by have:=Tree.wt_kid hx;omega) (by omega)
 rw [show ((1:Nat):Int)=1 from rfl] at h2
 unfold getSb rsGetD
 cases hm:v.may with
 | false =>
  rw [hm] at h1
  rw [if_neg (by decide),Option.getD_none,Option.isSome_none,show Sb.none= .mk 0 false [] [] 0 [] from rfl,sbC_mk]
  clear h2
  rw [treeC_eq] at h1 ⊢
  simp only [bD,bytesD] at *
  refine spec_of Tryz.func64 rfl rfl rfl (by kernel_rfl) rfl fun K=>?_
  (repeat' (first|with_reducible (first|refine zA fun Kn hK=>?_|refine zU ?_|refine Nx.go ?_|go_step)|refine ⟨_,h1,?_⟩|with_reducible (first|refine zI ?_|refine zV ?_)|simp (maxSteps:=9^9) (disch:=omega) only [wq]|with_reducible refine zM (fun hb=>?_) (fun hb=>?_)<;>try simp only [hb]|with_reducible refine And.intro (by first|omega|(simp;done)|(simp;omega)) ?_|simp (maxSteps:=9^9) -implicitDefEqProofs only [go_sem,decide_true,Bool.not_true,Bool.not_false]))
  all_goals rfl
 | true =>
  rw [hm] at h1
  rw [if_pos rfl]
  generalize (refS v 1).isSome=ok at *
  generalize (refS v 1).getD Sb.none=r at *
  rw [sbC_eq r] at h2 ⊢
  rw [treeC_eq] at h1 h2 ⊢
  simp only [bD,bytesD] at *
  refine spec_of Tryz.func64 rfl rfl rfl (by kernel_rfl) rfl fun K=>?_
  (repeat' (first|with_reducible (first|refine zA fun Kn hK=>?_|refine zU ?_|refine Nx.go ?_|go_step)|refine ⟨_,h1,?_⟩|refine ⟨_,h2,?_⟩|with_reducible (first|refine zI ?_|refine zV ?_)|simp (maxSteps:=9^9) (disch:=omega) only [wq]|with_reducible refine zM (fun hb=>?_) (fun hb=>?_)<;>try simp only [hb]|with_reducible refine And.intro (by first|omega|(simp;done)|(simp;omega)) ?_|simp (maxSteps:=9^9) -implicitDefEqProofs only [go_sem,decide_true,Bool.not_true,Bool.not_false]))
  all_goals rfl
end
noncomputable def endsD (l:List Tree):Wd × Bool:=match l with
 | []=>(Wd.none,true)
 | x::m=>((getR x).getD Wd.none,(getR x).isSome&&(emptyL m&&(((getR x).getD Wd.none).aft||((getR x).getD Wd.none).unt)))
theorem endsD_ok (l:List Tree):(endsD l).2=(endsR l).isSome∧ ∀ w,endsR l=some w→(endsD l).1=w:=by
 cases l with
 | nil =>
  refine ⟨rfl,fun w h=>?_⟩
  injection h
 | cons x m =>
  unfold endsD endsR
  dsimp only
  cases hg:getR x with
  | none=>exact ⟨rfl,fun w h=>by cases h⟩
  | some w =>
   dsimp only
   rw [Option.getD_some]
   cases hq:(emptyL m&&(w.aft||w.unt)) with
   | true=>exact ⟨rfl,fun w h=>by injection h⟩
   | false=>exact ⟨rfl,fun w h=>by cases h⟩
noncomputable def rightsD (l:List Tree):Bool × Tg × Wd × Bool:=match (cutP l).2 with
 | []=>(false,zeroTg,Wd.none,false)
 | x::m=>((cutP l).1,(getTg ((ofR x wTagW).getD zeroT)).getD zeroTg,(endsD m).1,(ofR x wTagW).isSome&&((getTg ((ofR x wTagW).getD zeroT)).isSome&&(endsD m).2))
theorem rightsD_ok (l:List Tree):(rightsD l).2.2.2=(rightsR l).isSome∧ ∀ r,rightsR l=some r→((rightsD l).1,(rightsD l).2.1,(rightsD l).2.2.1)=r:=by
 unfold rightsD rightsR
 generalize (cutP l).1=d
 generalize (cutP l).2=k
 cases k with
 | nil=>exact ⟨rfl,fun w h=>by cases h⟩
 | cons x m =>
  obtain ⟨e1,e2⟩:=endsD_ok m
  dsimp only
  cases ho:ofR x wTagW with
  | none=>exact ⟨rfl,fun w h=>by cases h⟩
  | some y =>
   dsimp only
   rw [Option.getD_some]
   cases hg:getTg y with
   | none=>exact ⟨rfl,fun w h=>by cases h⟩
   | some t =>
    dsimp only
    rw [Option.getD_some,e1]
    cases he:endsR m with
    | none=>exact ⟨rfl,fun w h=>by cases h⟩
    | some w =>
     rw [e2 w he]
     exact ⟨rfl,fun w h=>by injection h⟩
noncomputable def namedD (v:Tree):(Bool × List UInt8) × List UInt8 × Bool:=
 if headB v tName&&(v.kids.length==3) then ((rgetK (v.kid 1)).getD (false,[]),(v.kid 2).data,(rgetK (v.kid 1)).isSome&&nameOk (v.kid 2)) else ((false,[]),[],false)
theorem namedD_ok (v:Tree):(namedD v).2.2=(namedR v).isSome∧ ∀ n,namedR v=some n→((namedD v).1.1,(namedD v).1.2,(namedD v).2.1)=n:=by
 unfold namedD namedR
 cases hq:(headB v tName&&(v.kids.length==3)) with
 | false=>exact ⟨rfl,fun w h=>by cases h⟩
 | true =>
  rw [if_pos rfl,if_pos rfl]
  cases hg:rgetK (v.kid 1) with
  | none=>exact ⟨rfl,fun w h=>by cases h⟩
  | some k =>
   dsimp only
   rw [Option.getD_some]
   cases hn:nameOk (v.kid 2) with
   | false=>exact ⟨rfl,fun w h=>by cases h⟩
   | true=>exact ⟨rfl,fun w h=>by injection h⟩
section
variable {G:Nat→Option (List D)}
theorem rof_m (v:Tree) {cs:List D} (hcs:treeC v=cs) (w:List UInt8):Spec Tryz.prog G 63 [.g cs,.c (.v (.string ⟨w.toArray⟩))] (.many [.g (treeC ((ofR v w).getD zeroT)),.c (.v (.bool (ofR v w).isSome))]):=by
 subst hcs
 have hh:=headref_m (G:=G) v rfl w
 obtain ⟨R,hR⟩: ∃ R,ofR v w=R:=⟨_,rfl⟩
 have hv:R=if (headB v w&&(v.kids.length==2))=true then some (v.kid 1) else none:=hR.symm
 rw [hR]
 clear hR
 have l2:((v.kids.length:Int)==2)=(v.kids.length==2):=by
  rw [Bool.eq_iff_iff,beq_iff_eq,beq_iff_eq]
  omega
 generalize headB v w=q at *
 cases q with
 | false =>
  rw [Bool.false_and,if_neg (by decide)] at hv
  rw [hv,Option.getD_none,Option.isSome_none,zeroT_C]
  clear hv l2
  rw [treeC_eq] at hh ⊢
  simp only [bD,bytesD] at *
  refine spec_of Tryz.func63 rfl rfl rfl (by kernel_rfl) rfl fun K=>?_
  (repeat' (first|with_reducible (first|refine zA fun Kn hK=>?_|refine zU ?_|refine Nx.go ?_|go_step)|refine ⟨_,hh,?_⟩|with_reducible (first|refine zI ?_|refine zV ?_)|simp (maxSteps:=9^9) (disch:=omega) only [wq]|with_reducible refine zM (fun hb=>?_) (fun hb=>?_)<;>try simp only [hb]|with_reducible refine And.intro (by first|omega|(simp;done)|(simp;omega)) ?_|simp (maxSteps:=9^9) -implicitDefEqProofs only [go_sem,decide_true,bne,Bool.not_true,Bool.not_false]))
  all_goals rfl
 | true =>
  rw [Bool.true_and] at hv
  by_cases h2:v.kids.length=2
  ·have hb2:(v.kids.length==2)=true:=by rw [h2];rfl
   rw [hb2] at l2 hv
   rw [if_pos rfl] at hv
   rw [hv,Option.getD_some,Option.isSome_some]
   have e1:=flat_at treeC_len (Tree.kid_get (t:=v) (i:=1) (by omega))
   simp only [Nat.reduceMul,Nat.reduceAdd] at e1
   clear hv hb2
   rw [treeC_eq (v.kid 1)] at e1 ⊢
   rw [treeC_eq v] at hh ⊢
   simp only [bD,bytesD] at *
   refine spec_of Tryz.func63 rfl rfl rfl (by kernel_rfl) rfl fun K=>?_
   (repeat' (first|with_reducible (first|refine zA fun Kn hK=>?_|refine zU ?_|refine Nx.go ?_|go_step)|refine ⟨_,hh,?_⟩|with_reducible (first|refine zI ?_|refine zV ?_)|simp (maxSteps:=9^9) (disch:=omega) only [wq]|with_reducible refine zM (fun hb=>?_) (fun hb=>?_)<;>try simp only [hb]|with_reducible refine And.intro (by first|omega|(simp;done)|(simp;omega)) ?_|simp (maxSteps:=9^9) -implicitDefEqProofs only [go_sem,l2,e1,decide_true,bne,Bool.not_true,Bool.not_false]))
   all_goals rfl
  ·have hb2:(v.kids.length==2)=false:=by rw [beq_eq_false_iff_ne];exact h2
   rw [hb2] at l2 hv
   rw [if_neg (by decide)] at hv
   rw [hv,Option.getD_none,Option.isSome_none,zeroT_C]
   clear hv hb2 h2
   rw [treeC_eq] at hh ⊢
   simp only [bD,bytesD] at *
   refine spec_of Tryz.func63 rfl rfl rfl (by kernel_rfl) rfl fun K=>?_
   (repeat' (first|with_reducible (first|refine zA fun Kn hK=>?_|refine zU ?_|refine Nx.go ?_|go_step)|refine ⟨_,hh,?_⟩|with_reducible (first|refine zI ?_|refine zV ?_)|simp (maxSteps:=9^9) (disch:=omega) only [wq]|with_reducible refine zM (fun hb=>?_) (fun hb=>?_)<;>try simp only [hb]|with_reducible refine And.intro (by first|omega|(simp;done)|(simp;omega)) ?_|simp (maxSteps:=9^9) -implicitDefEqProofs only [go_sem,l2,decide_true,bne,Bool.not_true,Bool.not_false]))
   all_goals rfl
theorem rends_m (l:List Tree) (hl: ∀ x∈l,x.wt≤30000000):Spec Tryz.prog G 66 [.c (.sl l.length (l.flatMap treeC))] (.many [.g (wdC (endsD l).1),.c (.v (.bool (endsD l).2))]):=by
 cases l with
 | nil =>
  have k0:(((0:Nat):Int)==0)=true:=rfl
  rw [List.length_nil,List.flatMap_nil]
  refine spec_of Tryz.func66 rfl rfl rfl (by kernel_rfl) rfl fun K=>?_
  (repeat' (first|with_reducible (first|refine zA fun Kn hK=>?_|refine zU ?_|refine Nx.go ?_|go_step)|with_reducible (first|refine zI ?_|refine zV ?_)|simp (maxSteps:=9^9) (disch:=omega) only [wq]|with_reducible refine zM (fun hb=>?_) (fun hb=>?_)<;>try simp only [hb]|with_reducible refine And.intro (by first|omega|(simp;done)|(simp;omega)) ?_|simp (maxSteps:=9^9) -implicitDefEqProofs only [go_sem,k0,decide_true,bne,Bool.not_true,Bool.not_false]))
  all_goals rfl
 | cons x m =>
  have k0:(((m.length+1:Nat):Int)==0)=false:=by rw [beq_eq_false_iff_ne];omega
  have k1:(((m.length+1:Nat):Int)==1)=emptyL m:=by
   cases m with
   | nil=>rfl
   | cons y m =>
    rw [show emptyL (y::m)=false from rfl,beq_eq_false_iff_ne,List.length_cons]
    omega
  have hg:=rwget_m (G:=G) x rfl (hl x (by simp))
  unfold rwgetD at hg
  have hv:endsD (x::m)=((getR x).getD Wd.none,(getR x).isSome&&(emptyL m&&(((getR x).getD Wd.none).aft||((getR x).getD Wd.none).unt))):=rfl
  rw [hv]
  clear hv
  generalize (getR x).getD Wd.none=w at *
  generalize (getR x).isSome=ok at *
  generalize emptyL m=em at *
  rw [List.flatMap_cons,List.length_cons]
  rw [treeC_eq x] at hg ⊢
  dsimp only
  unfold wdC at *
  obtain ⟨a,n,u,k⟩:=w
  dsimp only at *
  simp only [bD,bytesD,List.cons_append,List.nil_append] at *
  cases ok<;>cases em<;>cases a
  all_goals
   refine spec_of Tryz.func66 rfl rfl rfl (by kernel_rfl) rfl fun K=>?_
   (repeat' (first|with_reducible (first|refine zA fun Kn hK=>?_|refine zU ?_|refine Nx.go ?_|go_step)|refine ⟨_,hg,?_⟩|with_reducible (first|refine zI ?_|refine zV ?_)|simp (maxSteps:=9^9) (disch:=omega) only [wq]|with_reducible refine zM (fun hb=>?_) (fun hb=>?_)<;>try simp only [hb]|with_reducible refine And.intro (by first|omega|(simp;done)|(simp;omega)) ?_|simp (maxSteps:=9^9) -implicitDefEqProofs only [go_sem,k0,k1,decide_true,bne,Bool.not_true,Bool.not_false]))
   all_goals rfl
theorem rnamed_m (v:Tree) {cs:List D} (hcs:treeC v=cs):Spec Tryz.prog G 65 [.g cs] (.many [.g (keyC (namedD v).1.1 (namedD v).1.2),.c (bytesD (namedD v).2.1),.c (.v (.bool (namedD v).2.2))]):=by
 subst hcs
 have hh:=headref_m (G:=G) v rfl tName
 obtain ⟨R,hR⟩: ∃ R,namedD v=R:=⟨_,rfl⟩
 have hv:R=if (headB v tName&&(v.kids.length==3))=true then ((rgetK (v.kid 1)).getD (false,[]),(v.kid 2).data,(rgetK (v.kid 1)).isSome&&nameOk (v.kid 2)) else ((false,[]),[],false):=hR.symm
 rw [hR]
 clear hR
 have l2:((v.kids.length:Int)==3)=(v.kids.length==3):=by
  rw [Bool.eq_iff_iff,beq_iff_eq,beq_iff_eq]
  omega
 generalize headB v tName=q at *
 cases q with
 | false =>
  rw [Bool.false_and,if_neg (by decide)] at hv
  rw [hv]
  clear hv l2
  rw [treeC_eq] at hh ⊢
  unfold tName at *
  simp only [keyC,bD,bytesD] at *
  refine spec_of Tryz.func65 rfl rfl rfl (by kernel_rfl) rfl fun K=>?_
  (repeat' (first|with_reducible (first|refine zA fun Kn hK=>?_|refine zU ?_|refine Nx.go ?_|go_step)|refine ⟨_,hh,?_⟩|with_reducible (first|refine zI ?_|refine zV ?_)|simp (maxSteps:=9^9) (disch:=omega) only [wq]|with_reducible refine zM (fun hb=>?_) (fun hb=>?_)<;>try simp only [hb]|with_reducible refine And.intro (by first|omega|(simp;done)|(simp;omega)) ?_|simp (maxSteps:=9^9) -implicitDefEqProofs only [go_sem,decide_true,bne,Bool.not_true,Bool.not_false]))
  all_goals rfl
 | true =>
  rw [Bool.true_and] at hv
  by_cases h3:v.kids.length=3
  ·have hb2:(v.kids.length==3)=true:=by rw [h3];rfl
   rw [hb2] at l2 hv
   rw [if_pos rfl] at hv
   rw [hv]
   have e1:=flat_at treeC_len (Tree.kid_get (t:=v) (i:=1) (by omega))
   have e2:=flat_at treeC_len (Tree.kid_get (t:=v) (i:=2) (by omega))
   simp only [Nat.reduceMul,Nat.reduceAdd] at e1 e2
   have hg:=rkget_m (G:=G) (v.kid 1) rfl
   have hkd:keyD (rgetK (v.kid 1))=keyC ((rgetK (v.kid 1)).getD (false,[])).1 ((rgetK (v.kid 1)).getD (false,[])).2:=by
    cases rgetK (v.kid 1)<;>rfl
   rw [hkd] at hg
   have hz:decide (((v.kid 2).data.length:Int)>0)= !emptyL (v.kid 2).data:=pos_len _
   have hn:nameOk (v.kid 2)=(!(v.kid 2).list&&(!(v.kid 2).hinted&& !emptyL (v.kid 2).data)):=rfl
   rw [hn]
   clear hv hb2 hkd hn
   generalize (rgetK (v.kid 1)).getD (false,[])=kk at *
   generalize (rgetK (v.kid 1)).isSome=ok at *
   rw [treeC_eq (v.kid 1)] at e1 hg
   rw [treeC_eq (v.kid 2)] at e2
   rw [treeC_eq v] at hh ⊢
   unfold tName at *
   generalize v.kid 2=y at *
   generalize emptyL y.data=z at *
   obtain ⟨y1,hy1⟩: ∃ b,y.list=b:=⟨_,rfl⟩
   obtain ⟨y2,hy2⟩: ∃ b,y.hinted=b:=⟨_,rfl⟩
   rw [hy1,hy2] at e2
   rw [hy1,hy2]
   dsimp only
   simp only [keyC,bD,bytesD] at *
   cases ok<;>cases y1<;>cases y2
   all_goals
    refine spec_of Tryz.func65 rfl rfl rfl (by kernel_rfl) rfl fun K=>?_
    (repeat' (first|with_reducible (first|refine zA fun Kn hK=>?_|refine zU ?_|refine Nx.go ?_|go_step)|refine ⟨_,hh,?_⟩|refine ⟨_,hg,?_⟩|with_reducible (first|refine zI ?_|refine zV ?_)|simp (maxSteps:=9^9) (disch:=omega) only [wq]|with_reducible refine zM (fun hb=>?_) (fun hb=>?_)<;>try simp only [hb]|with_reducible refine And.intro (by first|omega|(simp;done)|(simp;omega)) ?_|simp (maxSteps:=9^9) -implicitDefEqProofs only [go_sem,l2,e1,e2,hz,decide_true,bne,Bool.not_true,Bool.not_false]))
    all_goals rfl
  ·have hb2:(v.kids.length==3)=false:=by rw [beq_eq_false_iff_ne];exact h3
   rw [hb2] at l2 hv
   rw [if_neg (by decide)] at hv
   rw [hv]
   clear hv hb2 h3
   rw [treeC_eq] at hh ⊢
   unfold tName at *
   simp only [keyC,bD,bytesD] at *
   refine spec_of Tryz.func65 rfl rfl rfl (by kernel_rfl) rfl fun K=>?_
   (repeat' (first|with_reducible (first|refine zA fun Kn hK=>?_|refine zU ?_|refine Nx.go ?_|go_step)|refine ⟨_,hh,?_⟩|with_reducible (first|refine zI ?_|refine zV ?_)|simp (maxSteps:=9^9) (disch:=omega) only [wq]|with_reducible refine zM (fun hb=>?_) (fun hb=>?_)<;>try simp only [hb]|with_reducible refine And.intro (by first|omega|(simp;done)|(simp;omega)) ?_|simp (maxSteps:=9^9) -implicitDefEqProofs only [go_sem,l2,decide_true,bne,Bool.not_true,Bool.not_false]))
   all_goals rfl
end
theorem take_eq {α:Type} {l m:List α} {k:Nat} {x:α} (hl:l[k]?=some x) (hm:m[k]?=some x) (h:l.take k=m.take k):l.take (k+1)=m.take (k+1):=by
 rw [List.take_add_one,List.take_add_one,hl,hm,h]
def Sb.great (s:Sb) (k:Nat):Bool:=decide (6<k)||(decide (12<s.kids.length)||(decide (12<s.names.length)||(decide (200<s.kd.length)||((s.names.any fun n=>decide (5000<n.length))||s.kids.attach.any fun x=>Sb.great x.1 (k+1)))))
termination_by SizeOf.sizeOf s
decreasing_by exact Sb.kid_lt x.2
theorem Sb.great_eq (s:Sb) (k:Nat):s.great k=(decide (6<k)||(decide (12<s.kids.length)||(decide (12<s.names.length)||(decide (200<s.kd.length)||((s.names.any fun n=>decide (5000<n.length))||s.kids.any fun x=>Sb.great x (k+1)))))):=by
 rw [Sb.great]
 simp
theorem Sb.fit_of: ∀ (s:Sb) (k:Nat),s.great k=false→s.fit:=by
 refine Sb.ind fun s ih k h=>?_
 rw [Sb.great_eq] at h
 simp only [Bool.or_eq_false_iff,decide_eq_false_iff_not,List.any_eq_false,decide_eq_true_eq,Bool.not_eq_true] at h
 obtain ⟨_,h2,h3,h4,h5,h6⟩:=h
 rw [Sb.fit_eq]
 exact ⟨⟨by omega,by omega,by omega,fun n hn=>by have:=h5 n hn;omega⟩,fun x hx=>ih x hx (k+1) (h6 x hx)⟩
section
variable {G:Nat→Option (List D)}
theorem rsgreat_m: ∀ s:Sb,∀ (cs:List D) (k:Nat),sbC s=cs→k≤7→Spec Tryz.prog G 35 [.g cs,.c (.v (.int .i64 (k:Int)))] (.one (.c (.v (.bool (s.great k))))):=Sb.ind fun s ih cs k hcs hk=>by
 subst hcs
 have hv:=s.great_eq k
 have d0:decide ((k:Int)>6)=decide (6<k):=by rw [decide_eq_decide];omega
 have d1:decide ((s.kids.length:Int)>12)=decide (12<s.kids.length):=by rw [decide_eq_decide];omega
 have d2:decide ((s.names.length:Int)>12)=decide (12<s.names.length):=by rw [decide_eq_decide];omega
 have d3:decide ((s.kd.length:Int)>200)=decide (200<s.kd.length):=by rw [decide_eq_decide];omega
 rw [sbC_eq]
 obtain ⟨R,hR⟩: ∃ R,s.great k=R:=⟨_,rfl⟩
 rw [hR] at hv ⊢
 clear hR
 generalize hy0:decide (6<k)=y0 at *
 generalize hy1:decide (12<s.kids.length)=y1 at *
 generalize hy2:decide (12<s.names.length)=y2 at *
 generalize decide (200<s.kd.length)=y3 at *
 have five:y0=true∨(y0=false∧y1=true)∨(y0=false∧y1=false∧y2=true)∨(y0=false∧y1=false∧y2=false∧y3=true)∨(y0=false∧y1=false∧y2=false∧y3=false):=by cases y0<;>cases y1<;>cases y2<;>cases y3<;>simp
 have four:(y0||(y1||(y2||y3)))=true∨(y0=false∧y1=false∧y2=false∧y3=false):=by cases y0<;>cases y1<;>cases y2<;>cases y3<;>simp
 rcases four with hbad|⟨rfl,rfl,rfl,rfl⟩
 ·have hR:R=true:=by
   rw [hv]
   clear five hv d0 d1 d2 d3 hy0 hy1 hy2
   revert hbad
   cases y0<;>cases y1<;>cases y2<;>cases y3<;>simp
  subst hR
  clear hv ih hy0 hy1 hy2
  simp only [bD,bytesD] at *
  rcases five with rfl|⟨rfl,rfl⟩|⟨rfl,rfl,rfl⟩|⟨rfl,rfl,rfl,rfl⟩|⟨rfl,rfl,rfl,rfl⟩
  case inr.inr.inr.inr=>exact absurd hbad (by decide)
  all_goals
   refine spec_of Tryz.func35 rfl rfl rfl (by kernel_rfl) rfl fun K=>?_
   (repeat' (first|with_reducible (first|refine zA fun Kn hK=>?_|refine zU ?_|refine Nx.go ?_|go_step)|with_reducible (first|refine zI ?_|refine zV ?_)|simp (maxSteps:=9^9) (disch:=omega) only [wq]|with_reducible refine zM (fun hb=>?_) (fun hb=>?_)<;>try simp only [hb]|with_reducible refine And.intro (by first|omega|(simp;done)|(simp;omega)) ?_|simp (maxSteps:=9^9) -implicitDefEqProofs only [go_sem,d0,d1,d2,d3,decide_true]))
 ·clear five
  simp only [Bool.false_or] at hv
  have k6: ¬ 6<k:=of_decide_eq_false hy0
  have k12: ¬ 12<s.kids.length:=of_decide_eq_false hy1
  have n12: ¬ 12<s.names.length:=of_decide_eq_false hy2
  clear hy0 hy1 hy2
  simp only [bD,bytesD] at *
  refine spec_of Tryz.func35 rfl rfl rfl (by kernel_rfl) rfl fun K=>?_
  (repeat' (first|with_reducible (first|refine zA fun Kn hK=>?_|refine zU ?_|refine Nx.go ?_|go_step)|with_reducible (first|refine zI ?_|refine zV ?_)|simp (maxSteps:=9^9) (disch:=omega) only [wq]|with_reducible refine zM (fun hb=>?_) (fun hb=>?_)<;>try simp only [hb]|with_reducible refine And.intro (by first|omega|(simp;done)|(simp;omega)) ?_|simp (maxSteps:=9^9) -implicitDefEqProofs only [go_sem,d0,d1,d2,d3,decide_true]))
  refine sound_loopR (fun x:{j:Nat // j≤s.names.length∧ ∀ y∈s.names.take j,(!decide (5000<y.length))=true}=>⟨[(1,vI k),(2,vP 2 0),(30,vI s.names.length),(31,vI x.1)],[(2,some ⟨28,sbK s,true,false⟩)]⟩) (fun x=>s.names.length-x.1) ⟨0,by simp⟩ [] (by (iterate 2 ((try simp (maxSteps:=9^9) -implicitDefEqProofs only [go_sem,bD,bytesD]);(try simp (maxSteps:=9^9) (disch:=omega) only [wq])));try simp) (fun ⟨j,hj,hall⟩=>?_)
  by_cases hlt:j<s.names.length
  ·obtain ⟨x,hx⟩: ∃ x,s.names[j]?=some x:=⟨_,List.getElem?_eq_getElem hlt⟩
   have hb:decide ((j:Int)<(s.names.length:Int))=true:=by simpa using hlt
   have hr:=row_at hx
   have hlx:decide ((x.length:Int)>5000)=decide (5000<x.length):=by rw [decide_eq_decide];omega
   simp only [bytesD] at hr
   cases hq:decide (5000<x.length) with
   | true =>
    have hyes:(s.names.any fun n=>decide (5000<n.length))=true:=List.any_eq_true.2 ⟨x,List.mem_of_getElem? hx,hq⟩
    rw [hq] at hlx
    rw [hyes,Bool.true_or] at hv
    (repeat' (first|with_reducible (first|refine zA fun Kn hK=>?_|refine zU ?_|refine Nx.go ?_|go_step)|with_reducible (first|refine zI ?_|refine zV ?_)|simp (maxSteps:=9^9) (disch:=omega) only [wq]|with_reducible refine zM (fun hb=>?_) (fun hb=>?_)<;>try simp only [hb]|with_reducible refine And.intro (by first|omega|(simp;done)|(simp;omega)) ?_|simp (maxSteps:=9^9) -implicitDefEqProofs only [go_sem,hb,hr,hlx,List.length_map,bD,bytesD]))
    all_goals rw [hv]
   | false =>
    rw [hq] at hlx
    (repeat' (first|with_reducible (first|refine zA fun Kn hK=>?_|refine zU ?_|refine Nx.go ?_|go_step)|(refine ⟨[],⟨j+1,hlt,tk_none hx (by rw [hq];rfl) hall⟩,?_⟩)|with_reducible (first|refine zI ?_|refine zV ?_)|simp (maxSteps:=9^9) (disch:=omega) only [wq]|with_reducible refine zM (fun hb=>?_) (fun hb=>?_)<;>try simp only [hb]|with_reducible refine And.intro (by first|omega|(simp;done)|(simp;omega)) ?_|simp (maxSteps:=9^9) -implicitDefEqProofs only [go_sem,hb,hr,hlx,List.length_map,bD,bytesD]))
    all_goals omega
  ·have hb:decide ((j:Int)<(s.names.length:Int))=false:=by simpa using hlt
   obtain rfl:j=s.names.length:=by omega
   rw [List.take_length] at hall
   have hno:(s.names.any fun n=>decide (5000<n.length))=false:=by
    rw [List.any_eq_false]
    intro n hn
    have:=hall n hn
    simpa using this
   rw [hno,Bool.false_or] at hv
   (repeat' (first|with_reducible (first|refine zA fun Kn hK=>?_|refine zU ?_|refine Nx.go ?_|go_step)|with_reducible (first|refine zI ?_|refine zV ?_)|simp (maxSteps:=9^9) (disch:=omega) only [wq]|with_reducible refine zM (fun hb=>?_) (fun hb=>?_)<;>try simp only [hb]|with_reducible refine And.intro (by first|omega|(simp;done)|(simp;omega)) ?_|simp (maxSteps:=9^9) -implicitDefEqProofs only [go_sem,hb,bD,bytesD]))
   refine sound_loopR (fun x:{j:Nat // j≤s.kids.length∧ ∀ y∈s.kids.take j,(!y.great (k+1))=true}=>⟨[(1,vI k),(2,vP 2 0),(44,vI s.kids.length),(45,vI x.1)],[(2,some ⟨28,sbK s,true,false⟩)]⟩) (fun x=>s.kids.length-x.1) ⟨0,by simp⟩ [] (by (iterate 2 ((try simp (maxSteps:=9^9) -implicitDefEqProofs only [go_sem,bD,bytesD]);(try simp (maxSteps:=9^9) (disch:=omega) only [wq])));try simp) (fun ⟨j,hj,hall⟩=>?_)
   by_cases hlt:j<s.kids.length
   ·obtain ⟨x,hx⟩: ∃ x,s.kids[j]?=some x:=⟨_,List.getElem?_eq_getElem hlt⟩
    have hb:decide ((j:Int)<(s.kids.length:Int))=true:=by simpa using hlt
    have hm:=List.mem_of_getElem? hx
    have hxv:=ih x hm _ (k+1) rfl (by omega)
    have hf:=flat_at sbC_len hx
    rw [sbC_eq x] at hxv hf
    rw [show ((k+1:Nat):Int)=(k:Int)+1 from by omega] at hxv
    simp only [bD,bytesD] at hxv hf
    cases hq:x.great (k+1) with
    | true =>
     have hyes:(s.kids.any fun x=>x.great (k+1))=true:=List.any_eq_true.2 ⟨x,hm,hq⟩
     rw [hq] at hxv
     rw [hyes] at hv
     clear ih
     (repeat' (first|with_reducible (first|refine zA fun Kn hK=>?_|refine zU ?_|refine Nx.go ?_|go_step)|refine ⟨_,hxv,?_⟩|with_reducible (first|refine zI ?_|refine zV ?_)|simp (maxSteps:=9^9) (disch:=omega) only [wq]|with_reducible refine zM (fun hb=>?_) (fun hb=>?_)<;>try simp only [hb]|with_reducible refine And.intro (by first|omega|(simp;done)|(simp;omega)) ?_|simp (maxSteps:=9^9) -implicitDefEqProofs only [go_sem,hb,hf,bD,bytesD]))
     all_goals rw [hv]
    | false =>
     rw [hq] at hxv
     clear ih
     (repeat' (first|with_reducible (first|refine zA fun Kn hK=>?_|refine zU ?_|refine Nx.go ?_|go_step)|refine ⟨_,hxv,?_⟩|(refine ⟨[],⟨j+1,hlt,tk_none (f:=fun x=> !x.great (k+1)) hx (by rw [hq];rfl) hall⟩,?_⟩)|with_reducible (first|refine zI ?_|refine zV ?_)|simp (maxSteps:=9^9) (disch:=omega) only [wq]|with_reducible refine zM (fun hb=>?_) (fun hb=>?_)<;>try simp only [hb]|with_reducible refine And.intro (by first|omega|(simp;done)|(simp;omega)) ?_|simp (maxSteps:=9^9) -implicitDefEqProofs only [go_sem,hb,hf,bD,bytesD]))
     all_goals omega
   ·have hb:decide ((j:Int)<(s.kids.length:Int))=false:=by simpa using hlt
    obtain rfl:j=s.kids.length:=by omega
    rw [List.take_length] at hall
    have hno:(s.kids.any fun x=>x.great (k+1))=false:=by
     rw [List.any_eq_false]
     intro n hn
     have:=hall n hn
     simpa using this
    rw [hno] at hv
    (repeat' (first|with_reducible (first|refine zA fun Kn hK=>?_|refine zU ?_|refine Nx.go ?_|go_step)|with_reducible (first|refine zI ?_|refine zV ?_)|simp (maxSteps:=9^9) (disch:=omega) only [wq]|with_reducible refine zM (fun hb=>?_) (fun hb=>?_)<;>try simp only [hb]|with_reducible refine And.intro (by first|omega|(simp;done)|(simp;omega)) ?_|simp (maxSteps:=9^9) -implicitDefEqProofs only [go_sem,hb,bD,bytesD]))
    all_goals rw [hv]
theorem rssame_m: ∀ (t u:Sb) (cs ds:List D),sbC t=cs→sbC u=ds→t.fit→Spec Tryz.prog G 43 [.g cs,.g ds] (.one (.c (.v (.bool (t.same u))))):=Sb.ind fun t ih u cs ds hcs hds hf=>by
 subst hcs hds
 obtain ⟨f1,f2,f3,f4⟩:=hf.here
 have he:=u8_beq t.kind u.kind
 have hq:=rksame_m (G:=G) t.ks u.ks t.kd u.kd
 have hln:((t.names.length:Int)==(u.names.length:Int))=decide (t.names.length=u.names.length):=by
  rw [Bool.eq_iff_iff,beq_iff_eq,decide_eq_true_iff]
  omega
 have hlk:((t.kids.length:Int)==(u.kids.length:Int))=decide (t.kids.length=u.kids.length):=by
  rw [Bool.eq_iff_iff,beq_iff_eq,decide_eq_true_iff]
  omega
 have hv:t.same u=(t.kind==u.kind&&(t.k==u.k&&((t.ks==u.ks&&t.kd==u.kd)&&(decide (t.names.length=u.names.length)&&(decide (t.kids.length=u.kids.length)&&(decide (t.names=u.names)&&sameLS t.kids u.kids)))))):=by
  rw [Bool.eq_iff_iff]
  simp only [Bool.and_eq_true,beq_iff_eq,decide_eq_true_eq]
  refine ⟨fun h=>?_,fun ⟨h1,h2,⟨h3,h4⟩,_,_,h5,h6⟩=>?_⟩
  ·cases ssame_iff.1 h
   exact ⟨rfl,rfl,⟨rfl,rfl⟩,rfl,rfl,rfl,sameLS_t rfl⟩
  ·rw [ssame_iff,t.eta,u.eta,h1,h2,h3,h4,h5,sameLS_of h6]
 obtain ⟨R,hR⟩: ∃ R,t.same u=R:=⟨_,rfl⟩
 rw [hR] at hv ⊢
 clear hR
 rw [sbC_eq,sbC_eq]
 generalize (t.ks==u.ks&&t.kd==u.kd)=z3 at *
 generalize hz4:decide (t.names.length=u.names.length)=z4 at *
 generalize hz5:decide (t.kids.length=u.kids.length)=z5 at *
 generalize (t.kind==u.kind)=z1 at *
 obtain ⟨z2,hz2⟩: ∃ z,(t.k==u.k)=z:=⟨_,rfl⟩
 rw [hz2] at hv
 have six:z1=false∨(z1=true∧z2=false)∨(z1=true∧z2=true∧z3=false)∨(z1=true∧z2=true∧z3=true∧z4=false)∨(z1=true∧z2=true∧z3=true∧z4=true∧z5=false)∨(z1=true∧z2=true∧z3=true∧z4=true∧z5=true):=by cases z1<;>cases z2<;>cases z3<;>cases z4<;>cases z5<;>simp
 simp only [keyC,bD,bytesD] at *
 rcases six with rfl|⟨rfl,rfl⟩|⟨rfl,rfl,rfl⟩|⟨rfl,rfl,rfl,rfl⟩|⟨rfl,rfl,rfl,rfl,rfl⟩|⟨rfl,rfl,rfl,rfl,rfl⟩
 case inr.inr.inr.inr.inr =>
  have hn:t.names.length=u.names.length:=of_decide_eq_true hz4
  have hk:t.kids.length=u.kids.length:=of_decide_eq_true hz5
  simp only [Bool.true_and] at hv
  clear hz4 hz5
  refine spec_of Tryz.func43 rfl rfl rfl (by kernel_rfl) rfl fun K=>?_
  (repeat' (first|with_reducible (first|refine zA fun Kn hK=>?_|refine zU ?_|refine Nx.go ?_|go_step)|refine ⟨_,hq,?_⟩|with_reducible (first|refine zI ?_|refine zV ?_)|simp (maxSteps:=9^9) (disch:=omega) only [wq]|with_reducible refine zM (fun hb=>?_) (fun hb=>?_)<;>try simp only [hb]|with_reducible refine And.intro (by first|omega|(simp;done)|(simp;omega)) ?_|simp (maxSteps:=9^9) -implicitDefEqProofs only [go_sem,he,hz2,hln,hlk,bne,decide_true,Bool.not_true,Bool.not_false]))
  refine sound_loopR (fun x:{j:Nat // j≤t.names.length∧t.names.take j=u.names.take j}=>⟨[(2,vP 2 0),(3,vP 3 0),(47,vI t.names.length),(48,vI x.1)],[(2,some ⟨28,sbK t,true,false⟩),(3,some ⟨28,sbK u,true,false⟩)]⟩) (fun x=>t.names.length-x.1) ⟨0,by simp⟩ [] (by (iterate 2 ((try simp (maxSteps:=9^9) -implicitDefEqProofs only [go_sem,bD,bytesD]);(try simp (maxSteps:=9^9) (disch:=omega) only [wq])));try simp) (fun ⟨j,hj,hall⟩=>?_)
  by_cases hlt:j<t.names.length
  ·obtain ⟨x,hx⟩: ∃ x,t.names[j]?=some x:=⟨_,List.getElem?_eq_getElem hlt⟩
   obtain ⟨y,hy⟩: ∃ y,u.names[j]?=some y:=⟨_,List.getElem?_eq_getElem (by omega)⟩
   have hb:decide ((j:Int)<(t.names.length:Int))=true:=by simpa using hlt
   have hjm:j<u.names.length:=by omega
   have hrx:=row_at hx
   have hry:=row_at hy
   simp only [bytesD] at hrx hry
   clear ih
   by_cases hxy:x=y
   ·subst hxy
    (repeat' (first|with_reducible (first|refine zA fun Kn hK=>?_|refine zU ?_|refine Nx.go ?_|go_step)|(refine ⟨[],⟨j+1,hlt,take_eq hx hy hall⟩,?_⟩)|with_reducible (first|refine zI ?_|refine zV ?_)|simp (maxSteps:=9^9) (disch:=omega) only [wq]|with_reducible refine zM (fun hb=>?_) (fun hb=>?_)<;>try simp only [hb]|with_reducible refine And.intro (by first|omega|(simp;done)|(simp;omega)) ?_|simp (maxSteps:=9^9) -implicitDefEqProofs only [go_sem,hb,hrx,hry,List.length_map,bD,bytesD,bne,beq_self_eq_true,Bool.not_true,Bool.not_false]))
    all_goals omega
   ·have hd:(x==y)=false:=beq_eq_false_iff_ne.2 hxy
    have hno:decide (t.names=u.names)=false:=by
     rw [decide_eq_false_iff_not]
     intro h
     rw [h,hy] at hx
     injection hx with hx
     exact hxy hx.symm
    rw [hno,Bool.false_and] at hv
    (repeat' (first|with_reducible (first|refine zA fun Kn hK=>?_|refine zU ?_|refine Nx.go ?_|go_step)|with_reducible (first|refine zI ?_|refine zV ?_)|simp (maxSteps:=9^9) (disch:=omega) only [wq]|with_reducible refine zM (fun hb=>?_) (fun hb=>?_)<;>try simp only [hb]|with_reducible refine And.intro (by first|omega|(simp;done)|(simp;omega)) ?_|simp (maxSteps:=9^9) -implicitDefEqProofs only [go_sem,hb,hrx,hry,hd,List.length_map,bD,bytesD,bne,Bool.not_true,Bool.not_false]))
    all_goals rw [hv]
  ·have hb:decide ((j:Int)<(t.names.length:Int))=false:=by simpa using hlt
   obtain rfl:j=t.names.length:=by omega
   rw [List.take_length,hn,List.take_length] at hall
   rw [decide_eq_true hall,Bool.true_and] at hv
   (repeat' (first|with_reducible (first|refine zA fun Kn hK=>?_|refine zU ?_|refine Nx.go ?_|go_step)|with_reducible (first|refine zI ?_|refine zV ?_)|simp (maxSteps:=9^9) (disch:=omega) only [wq]|with_reducible refine zM (fun hb=>?_) (fun hb=>?_)<;>try simp only [hb]|with_reducible refine And.intro (by first|omega|(simp;done)|(simp;omega)) ?_|simp (maxSteps:=9^9) -implicitDefEqProofs only [go_sem,hb,bD,bytesD]))
   refine sound_loopR (fun x:{j:Nat // j≤t.kids.length∧t.kids.take j=u.kids.take j}=>⟨[(2,vP 2 0),(3,vP 3 0),(67,vI t.kids.length),(68,vI x.1)],[(2,some ⟨28,sbK t,true,false⟩),(3,some ⟨28,sbK u,true,false⟩)]⟩) (fun x=>t.kids.length-x.1) ⟨0,by simp⟩ [] (by (iterate 2 ((try simp (maxSteps:=9^9) -implicitDefEqProofs only [go_sem,bD,bytesD]);(try simp (maxSteps:=9^9) (disch:=omega) only [wq])));try simp) (fun ⟨j,hj,hall⟩=>?_)
   by_cases hlt:j<t.kids.length
   ·obtain ⟨x,hx⟩: ∃ x,t.kids[j]?=some x:=⟨_,List.getElem?_eq_getElem hlt⟩
    obtain ⟨y,hy⟩: ∃ y,u.kids[j]?=some y:=⟨_,List.getElem?_eq_getElem (by omega)⟩
    have hb:decide ((j:Int)<(t.kids.length:Int))=true:=by simpa using hlt
    have hjm:j<u.kids.length:=by omega
    have hm:=List.mem_of_getElem? hx
    have hxv:=ih x hm y _ _ rfl rfl (hf.kid hm)
    have hfx:=flat_at sbC_len hx
    have hfy:=flat_at sbC_len hy
    rw [sbC_eq x] at hxv hfx
    rw [sbC_eq y] at hxv hfy
    simp only [bD,bytesD] at hxv hfx hfy
    clear ih
    cases hxy:x.same y with
    | true =>
     rw [hxy] at hxv
     obtain rfl:=ssame_iff.1 hxy
     (repeat' (first|with_reducible (first|refine zA fun Kn hK=>?_|refine zU ?_|refine Nx.go ?_|go_step)|refine ⟨_,hxv,?_⟩|(refine ⟨[],⟨j+1,hlt,take_eq hx hy hall⟩,?_⟩)|with_reducible (first|refine zI ?_|refine zV ?_)|simp (maxSteps:=9^9) (disch:=omega) only [wq]|with_reducible refine zM (fun hb=>?_) (fun hb=>?_)<;>try simp only [hb]|with_reducible refine And.intro (by first|omega|(simp;done)|(simp;omega)) ?_|simp (maxSteps:=9^9) -implicitDefEqProofs only [go_sem,hb,hfx,hfy,bD,bytesD,Bool.not_true,Bool.not_false]))
     all_goals omega
    | false =>
     rw [hxy] at hxv
     have hno:sameLS t.kids u.kids=false:=sameLS_f fun h=>by
      rw [h,hy] at hx
      injection hx with hx
      rw [ssame_iff.2 hx.symm] at hxy
      cases hxy
     rw [hno] at hv
     (repeat' (first|with_reducible (first|refine zA fun Kn hK=>?_|refine zU ?_|refine Nx.go ?_|go_step)|refine ⟨_,hxv,?_⟩|with_reducible (first|refine zI ?_|refine zV ?_)|simp (maxSteps:=9^9) (disch:=omega) only [wq]|with_reducible refine zM (fun hb=>?_) (fun hb=>?_)<;>try simp only [hb]|with_reducible refine And.intro (by first|omega|(simp;done)|(simp;omega)) ?_|simp (maxSteps:=9^9) -implicitDefEqProofs only [go_sem,hb,hfx,hfy,bD,bytesD,Bool.not_true,Bool.not_false]))
     all_goals rw [hv]
   ·have hb:decide ((j:Int)<(t.kids.length:Int))=false:=by simpa using hlt
    obtain rfl:j=t.kids.length:=by omega
    rw [List.take_length,hk,List.take_length] at hall
    rw [sameLS_t hall] at hv
    (repeat' (first|with_reducible (first|refine zA fun Kn hK=>?_|refine zU ?_|refine Nx.go ?_|go_step)|with_reducible (first|refine zI ?_|refine zV ?_)|simp (maxSteps:=9^9) (disch:=omega) only [wq]|with_reducible refine zM (fun hb=>?_) (fun hb=>?_)<;>try simp only [hb]|with_reducible refine And.intro (by first|omega|(simp;done)|(simp;omega)) ?_|simp (maxSteps:=9^9) -implicitDefEqProofs only [go_sem,hb,bD,bytesD]))
    all_goals rw [hv]
 all_goals
  have hR:R=false:=hv
  subst hR
  clear hv ih
  refine spec_of Tryz.func43 rfl rfl rfl (by kernel_rfl) rfl fun K=>?_
  (repeat' (first|with_reducible (first|refine zA fun Kn hK=>?_|refine zU ?_|refine Nx.go ?_|go_step)|refine ⟨_,hq,?_⟩|with_reducible (first|refine zI ?_|refine zV ?_)|simp (maxSteps:=9^9) (disch:=omega) only [wq]|with_reducible refine zM (fun hb=>?_) (fun hb=>?_)<;>try simp only [hb]|with_reducible refine And.intro (by first|omega|(simp;done)|(simp;omega)) ?_|simp (maxSteps:=9^9) -implicitDefEqProofs only [go_sem,he,hz2,hln,hlk,bne,decide_true,Bool.not_true,Bool.not_false]))
  all_goals rfl
end
section
variable {G:Nat→Option (List D)}
theorem rGet12_at (v:Tree) {cs:List D} (hcs:treeC v=cs) (hw:v.wt≤30000000):Spec Tryz.prog G 108 [.g cs] (.many [.g (tagC ((getTg v).getD zeroTg)),.c (.v (.bool (getTg v).isSome))]):=by
 have h:=rGet12_m (G:=G) v hcs hw
 unfold getTg
 generalize (if v.may=true then getT isV v else none)=o at *
 cases o<;>exact h
theorem rrights_m (l:List Tree) (hl: ∀ x∈l,x.wt≤30000000):Spec Tryz.prog G 68 [.c (.sl l.length (l.flatMap treeC))] (.many [.c (.v (.bool (rightsD l).1)),.g (tagC (rightsD l).2.1),.g (wdC (rightsD l).2.2.1),.c (.v (.bool (rightsD l).2.2.2))]):=by
 have p0:decide (((0:Nat):Int)>0)=false:=rfl
 have k0:(((0:Nat):Int)==0)=true:=rfl
 have hzt:=zeroTg_C
 have hof: ∀ x∈l,Spec Tryz.prog G 63 [.g (treeC x),.c (.v (.string ⟨wTagW.toArray⟩))] (.many [.g (treeC ((ofR x wTagW).getD zeroT)),.c (.v (.bool (ofR x wTagW).isSome))]):=fun x _=>rof_m x rfl wTagW
 have hgt: ∀ x∈l,Spec Tryz.prog G 108 [.g (treeC ((ofR x wTagW).getD zeroT))] (.many [.g (tagC ((getTg ((ofR x wTagW).getD zeroT)).getD zeroTg)),.c (.v (.bool (getTg ((ofR x wTagW).getD zeroT)).isSome))]):=fun x hx=>by
  refine rGet12_at _ rfl ?_
  have hxw:=hl x hx
  unfold ofR
  split
  ·rename_i hh
   rw [Bool.and_eq_true,beq_iff_eq] at hh
   have:x.kid 1∈x.kids:=by
    match hk:x.kids,hh.2 with
    | [a,b],_ =>
     rw [Tree.kid_at (i:=1) (x:=b) (by rw [hk];rfl)]
     simp
   have:=Tree.wt_kid this
   show (x.kid 1).wt≤_
   omega
  ·show zeroT.wt≤_
   rw [zeroT_wt]
   omega
 cases l with
 | nil =>
  have hv:rightsD []=(false,zeroTg,Wd.none,false):=rfl
  rw [hv]
  dsimp only
  rw [hzt]
  clear hof hgt hv hzt
  rw [List.length_nil,List.flatMap_nil]
  refine spec_of Tryz.func68 rfl rfl rfl (by kernel_rfl) rfl fun K=>?_
  (repeat' (first|with_reducible (first|refine zA fun Kn hK=>?_|refine zU ?_|refine Nx.go ?_|go_step)|with_reducible (first|refine zI ?_|refine zV ?_)|simp (maxSteps:=9^9) (disch:=omega) only [wq]|with_reducible refine zM (fun hb=>?_) (fun hb=>?_)<;>try simp only [hb]|with_reducible refine And.intro (by first|omega|(simp;done)|(simp;omega)) ?_|simp (maxSteps:=9^9) -implicitDefEqProofs only [go_sem,p0,k0,decide_true,bne,Bool.not_true,Bool.not_false]))
  all_goals rfl
 | cons x m =>
  have hh:=headref_m (G:=G) x rfl wProp
  have px:decide (((m.length+1:Nat):Int)>0)=true:=decide_eq_true (by omega)
  have kx:(((m.length+1:Nat):Int)==0)=false:=by rw [beq_eq_false_iff_ne];omega
  have l1:((x.kids.length:Int)==1)=(x.kids.length==1):=by
   rw [Bool.eq_iff_iff,beq_iff_eq,beq_iff_eq]
   omega
  by_cases hp:(headB x wProp&&(x.kids.length==1))=true
  ·have hc:cutP (x::m)=(true,m):=if_pos hp
   rw [Bool.and_eq_true] at hp
   rw [hp.1] at hh
   rw [hp.2] at l1
   cases m with
   | nil =>
    have hv:rightsD [x]=(false,zeroTg,Wd.none,false):=by
     unfold rightsD
     rw [hc]
    rw [hv]
    dsimp only
    rw [hzt]
    clear hof hgt hv hzt hc hp
    rw [List.flatMap_cons,List.flatMap_nil,List.append_nil,List.length_cons,List.length_nil]
    rw [treeC_eq x] at hh ⊢
    unfold wProp at *
    simp only [bD,bytesD] at *
    refine spec_of Tryz.func68 rfl rfl rfl (by kernel_rfl) rfl fun K=>?_
    have r0:0+1-1=0:=rfl
    have q1:decide (((1:Nat):Int)>0)=true:=rfl
    have q2:(((1:Nat):Int)==0)=false:=rfl
    (repeat' (first|with_reducible (first|refine zA fun Kn hK=>?_|refine zU ?_|refine Nx.go ?_|go_step)|refine ⟨_,hh,?_⟩|with_reducible (first|refine zI ?_|refine zV ?_)|simp (maxSteps:=9^9) (disch:=omega) only [wq]|with_reducible refine zM (fun hb=>?_) (fun hb=>?_)<;>try simp only [hb]|with_reducible refine And.intro (by first|omega|(simp;done)|(simp;omega)) ?_|simp (maxSteps:=9^9) -implicitDefEqProofs only [go_sem,px,kx,p0,k0,r0,q1,q2,l1,decide_true,bne,Bool.not_true,Bool.not_false]))
    all_goals rfl
   | cons y m =>
    have hv:rightsD (x::y::m)=(true,(getTg ((ofR y wTagW).getD zeroT)).getD zeroTg,(endsD m).1,(ofR y wTagW).isSome&&((getTg ((ofR y wTagW).getD zeroT)).isSome&&(endsD m).2)):=by
     unfold rightsD
     rw [hc]
    have ho:=hof y (by simp)
    have hg:=hgt y (by simp)
    have he:=rends_m (G:=G) m (fun z hz=>hl z (by simp [hz]))
    have hwe:=endsD m
    rw [hv]
    dsimp only
    clear hof hgt hv hzt hc hp hwe
    generalize (endsD m).1=EW at *
    generalize (endsD m).2=eb at *
    generalize (getTg ((ofR y wTagW).getD zeroT)).getD zeroTg=TG at *
    generalize (getTg ((ofR y wTagW).getD zeroT)).isSome=tb at *
    generalize (ofR y wTagW).isSome=ob at *
    generalize (ofR y wTagW).getD zeroT=OY at *
    obtain ⟨t0,t1,t2,t3,t4,t5,t6,t7,t8,t9,ht⟩:=tag_cells TG
    rw [ht] at hg ⊢
    clear ht
    rw [List.flatMap_cons,List.flatMap_cons,List.length_cons,List.length_cons]
    have k3:(m.flatMap treeC).length=m.length*5:=treeC_flen _
    have kx2:(((m.length+1+1:Nat):Int)==0)=false:=by rw [beq_eq_false_iff_ne];omega
    have ky:(((m.length+1:Nat):Int)==0)=false:=by rw [beq_eq_false_iff_ne];omega
    have px2:decide (((m.length+1+1:Nat):Int)>0)=true:=decide_eq_true (by omega)
    generalize m.flatMap treeC=Z at *
    have r1:m.length+1+1-1=m.length+1:=rfl
    have r2:m.length+1-1=m.length:=rfl
    have q1: ∀ (g0 g1 g2 g3 g4:D),(g0::g1::g2::g3::g4::Z).take ((m.length+1)*5)=g0::g1::g2::g3::g4::Z:=fun _ _ _ _ _=>List.take_of_length_le (by simp only [List.length_cons];omega)
    have q2:Z.take (m.length*5)=Z:=List.take_of_length_le (by omega)
    rw [treeC_eq x] at hh ⊢
    rw [treeC_eq y] at ho ⊢
    rw [treeC_eq OY] at ho hg
    unfold wProp wTagW at *
    unfold wdC at *
    simp only [bD,bytesD,List.cons_append,List.nil_append] at *
    cases ob<;>cases tb
    all_goals
     refine spec_of Tryz.func68 rfl rfl rfl (by kernel_rfl) rfl fun K=>?_
     (repeat' (first|with_reducible (first|refine zA fun Kn hK=>?_|refine zU ?_|refine Nx.go ?_|go_step)|refine ⟨_,hh,?_⟩|refine ⟨_,ho,?_⟩|refine ⟨_,hg,?_⟩|refine ⟨_,he,?_⟩|with_reducible (first|refine zI ?_|refine zV ?_)|simp (maxSteps:=9^9) (disch:=omega) only [wq]|with_reducible refine zM (fun hb=>?_) (fun hb=>?_)<;>try simp only [hb]|with_reducible refine And.intro (by first|omega|(simp;done)|(simp;omega)) ?_|simp (maxSteps:=9^9) -implicitDefEqProofs only [go_sem,px2,kx2,ky,l1,r1,r2,q1,q2,decide_true,bne,Bool.not_true,Bool.not_false]))
     all_goals rfl
  ·have hc:cutP (x::m)=(false,x::m):=if_neg hp
   have hv:rightsD (x::m)=(false,(getTg ((ofR x wTagW).getD zeroT)).getD zeroTg,(endsD m).1,(ofR x wTagW).isSome&&((getTg ((ofR x wTagW).getD zeroT)).isSome&&(endsD m).2)):=by
    unfold rightsD
    rw [hc]
   have ho:=hof x (by simp)
   have hg:=hgt x (by simp)
   have he:=rends_m (G:=G) m (fun z hz=>hl z (by simp [hz]))
   rw [hv]
   dsimp only
   clear hof hgt hv hzt hc
   generalize (endsD m).1=EW at *
   generalize (endsD m).2=eb at *
   generalize (getTg ((ofR x wTagW).getD zeroT)).getD zeroTg=TG at *
   generalize (getTg ((ofR x wTagW).getD zeroT)).isSome=tb at *
   generalize (ofR x wTagW).isSome=ob at *
   generalize (ofR x wTagW).getD zeroT=OY at *
   obtain ⟨t0,t1,t2,t3,t4,t5,t6,t7,t8,t9,ht⟩:=tag_cells TG
   rw [ht] at hg ⊢
   clear ht
   rw [List.flatMap_cons,List.length_cons]
   have k3:(m.flatMap treeC).length=m.length*5:=treeC_flen _
   generalize m.flatMap treeC=Z at *
   have r2:m.length+1-1=m.length:=rfl
   have q2:Z.take (m.length*5)=Z:=List.take_of_length_le (by omega)
   generalize headB x wProp=q at *
   generalize (x.kids.length==1)=qk at *
   have two:q=false∨(q=true∧qk=false):=by
    revert hp
    clear hh l1
    cases q<;>cases qk<;>simp
   clear hp
   rw [treeC_eq x] at hh ho ⊢
   rw [treeC_eq OY] at ho hg
   unfold wProp wTagW at *
   unfold wdC at *
   simp only [bD,bytesD,List.cons_append,List.nil_append] at *
   rcases two with rfl|⟨rfl,rfl⟩
   all_goals
    cases ob<;>cases tb
    all_goals
     refine spec_of Tryz.func68 rfl rfl rfl (by kernel_rfl) rfl fun K=>?_
     (repeat' (first|with_reducible (first|refine zA fun Kn hK=>?_|refine zU ?_|refine Nx.go ?_|go_step)|refine ⟨_,hh,?_⟩|refine ⟨_,ho,?_⟩|refine ⟨_,hg,?_⟩|refine ⟨_,he,?_⟩|with_reducible (first|refine zI ?_|refine zV ?_)|simp (maxSteps:=9^9) (disch:=omega) only [wq]|with_reducible refine zM (fun hb=>?_) (fun hb=>?_)<;>try simp only [hb]|with_reducible refine And.intro (by first|omega|(simp;done)|(simp;omega)) ?_|simp (maxSteps:=9^9) -implicitDefEqProofs only [go_sem,px,kx,l1,r2,q2,decide_true,bne,Bool.not_true,Bool.not_false]))
     all_goals rfl
noncomputable def ctSame (a b:Ct):Bool:=a.ks==b.ks&&a.kd==b.kd&&(a.label==b.label&&(a.sub.same b.sub&&(a.dlg==b.dlg&&(a.tag.same b.tag&&decide (a.win=b.win)))))
theorem ctSame_refl (a:Ct):ctSame a a=true:=by
 unfold ctSame
 rw [ssame_iff.2 rfl,tsame_t rfl]
 simp
theorem rcsame_m (a b:Ct) (ha:a.fit) (hb:b.fit) {cs ds:List D} (hcs:ctC a=cs) (hds:ctC b=ds):Spec Tryz.prog G 14 [.g cs,.g ds] (.one (.c (.v (.bool (ctSame a b))))):=by
 subst hcs hds
 unfold ctSame
 have k1:=rksame_m (G:=G) a.ks b.ks a.kd b.kd
 have k3:=rssame_m (G:=G) a.sub b.sub _ _ rfl rfl ha.sub
 have k4:=same12_m (G:=G) a.tag b.tag _ _ rfl rfl (by have:=ha.wt;omega)
 have w1:=win_key ha.win
 have w2:=win_key hb.win
 obtain ⟨s1,s2,s3,s4,s5,hs⟩:=sb_cells a.sub
 obtain ⟨t0,t1,t2,t3,t4,t5,t6,t7,t8,t9,ht⟩:=tag_cells a.tag
 obtain ⟨u1,u2,u3,u4,u5,hu⟩:=sb_cells b.sub
 obtain ⟨v0,v1,v2,v3,v4,v5,v6,v7,v8,v9,hv⟩:=tag_cells b.tag
 have hca:ctC a=[.v (.bool a.ks),bytesD a.kd,bytesD a.label,.v (.int .u8 (a.sub.kind.toNat:Int)),s1,s2,s3,s4,s5,.v (.bool a.dlg),t0,t1,t2,t3,t4,t5,t6,t7,t8,t9,.v (.bool a.win.aft),.v (.int .i64 a.win.frm),.v (.bool a.win.unt),.v (.int .i64 a.win.to)]:=by
  unfold ctC wdC
  rw [hs,ht]
  rfl
 have hcb:ctC b=[.v (.bool b.ks),bytesD b.kd,bytesD b.label,.v (.int .u8 (b.sub.kind.toNat:Int)),u1,u2,u3,u4,u5,.v (.bool b.dlg),v0,v1,v2,v3,v4,v5,v6,v7,v8,v9,.v (.bool b.win.aft),.v (.int .i64 b.win.frm),.v (.bool b.win.unt),.v (.int .i64 b.win.to)]:=by
  unfold ctC wdC
  rw [hu,hv]
  rfl
 rw [hs,hu] at k3
 rw [ht,hv] at k4
 rw [hca,hcb]
 clear hs ht hu hv hca hcb
 obtain ⟨q,hq⟩: ∃ q,decide (a.win=b.win)=q:=⟨_,rfl⟩
 have hh:(q=true)↔wdLit a.win=wdLit b.win:=win_key_eq hq.symm
 rw [hq]
 have hla:=ha.label
 have hlb:=hb.label
 clear hq ha hb
 generalize (a.ks==b.ks&&a.kd==b.kd)=z1 at *
 obtain ⟨z2,hz2⟩: ∃ z,(a.label==b.label)=z:=⟨_,rfl⟩
 rw [hz2]
 generalize a.sub.same b.sub=z3 at *
 generalize a.tag.same b.tag=z5 at *
 obtain ⟨z4,hz4⟩: ∃ z,(a.dlg==b.dlg)=z:=⟨_,rfl⟩
 rw [hz4]
 have six:z1=false∨(z1=true∧z2=false)∨(z1=true∧z2=true∧z3=false)∨(z1=true∧z2=true∧z3=true∧z4=false)∨(z1=true∧z2=true∧z3=true∧z4=true∧z5=false)∨(z1=true∧z2=true∧z3=true∧z4=true∧z5=true):=by cases z1<;>cases z2<;>cases z3<;>cases z4<;>cases z5<;>simp
 simp only [keyC,bD,bytesD] at *
 rcases six with rfl|⟨rfl,rfl⟩|⟨rfl,rfl,rfl⟩|⟨rfl,rfl,rfl,rfl⟩|⟨rfl,rfl,rfl,rfl,rfl⟩|⟨rfl,rfl,rfl,rfl,rfl⟩
 all_goals
  refine spec_of Tryz.func14 rfl rfl rfl (by kernel_rfl) rfl fun K=>?_
  (repeat' (first|with_reducible (first|refine zA fun Kn hK=>?_|refine zU ?_|refine Nx.go ?_|go_step)|refine ⟨_,k1,?_⟩|refine ⟨_,k3,?_⟩|refine ⟨_,k4,?_⟩|(refine run_agg_eql (by kernel_rfl) w1 w2 hh ?_)|with_reducible (first|refine zI ?_|refine zV ?_)|simp (maxSteps:=9^9) (disch:=omega) only [wq]|with_reducible refine zM (fun hb=>?_) (fun hb=>?_)<;>try simp only [hb]|with_reducible refine And.intro (by first|omega|(simp;done)|(simp;omega)) ?_|simp (maxSteps:=9^9) -implicitDefEqProofs only [go_sem,hz2,hz4,decide_true,bne,Bool.not_true,Bool.not_false]))
  all_goals first|rfl|exact absurd ((show (a.label==b.label)=true by assumption).symm.trans (show (a.label==b.label)=false by assumption)) (by decide)
def Ct.great (c:Ct):Bool:=decide (200<c.kd.length)||(decide (5000<c.label.length)||(c.sub.great 0||c.tag.great 0))
theorem rcgreat_m (c:Ct) (hw:c.tag.wt≤1000000000) {cs:List D} (hcs:ctC c=cs):Spec Tryz.prog G 11 [.g cs] (.one (.c (.v (.bool c.great)))):=by
 subst hcs
 have g1:=rsgreat_m (G:=G) c.sub _ 0 rfl (by omega)
 have g2:=great12_m (G:=G) c.tag _ 0 rfl hw (by omega)
 rw [show ((0:Nat):Int)=0 from rfl] at g1 g2
 have d1:decide ((c.kd.length:Int)>200)=decide (200<c.kd.length):=by rw [decide_eq_decide];omega
 have d2:decide ((c.label.length:Int)>5000)=decide (5000<c.label.length):=by rw [decide_eq_decide];omega
 obtain ⟨s1,s2,s3,s4,s5,hs⟩:=sb_cells c.sub
 obtain ⟨t0,t1,t2,t3,t4,t5,t6,t7,t8,t9,ht⟩:=tag_cells c.tag
 have hct:ctC c=[.v (.bool c.ks),bytesD c.kd,bytesD c.label,.v (.int .u8 (c.sub.kind.toNat:Int)),s1,s2,s3,s4,s5,.v (.bool c.dlg),t0,t1,t2,t3,t4,t5,t6,t7,t8,t9,.v (.bool c.win.aft),.v (.int .i64 c.win.frm),.v (.bool c.win.unt),.v (.int .i64 c.win.to)]:=by
  unfold ctC wdC
  rw [hs,ht]
  rfl
 rw [hs] at g1
 rw [ht] at g2
 rw [hct]
 clear hs ht hct
 unfold Ct.great
 generalize decide (200<c.kd.length)=z1 at *
 generalize decide (5000<c.label.length)=z2 at *
 generalize c.sub.great 0=z3 at *
 generalize c.tag.great 0=z4 at *
 have four:z1=true∨(z1=false∧z2=true)∨(z1=false∧z2=false∧z3=true)∨(z1=false∧z2=false∧z3=false):=by cases z1<;>cases z2<;>cases z3<;>simp
 simp only [bD,bytesD] at *
 rcases four with rfl|⟨rfl,rfl⟩|⟨rfl,rfl,rfl⟩|⟨rfl,rfl,rfl⟩
 all_goals
  refine spec_of Tryz.func11 rfl rfl rfl (by kernel_rfl) rfl fun K=>?_
  (repeat' (first|with_reducible (first|refine zA fun Kn hK=>?_|refine zU ?_|refine Nx.go ?_|go_step)|refine ⟨_,g1,?_⟩|refine ⟨_,g2,?_⟩|with_reducible (first|refine zI ?_|refine zV ?_)|simp (maxSteps:=9^9) (disch:=omega) only [wq]|with_reducible refine zM (fun hb=>?_) (fun hb=>?_)<;>try simp only [hb]|with_reducible refine And.intro (by first|omega|(simp;done)|(simp;omega)) ?_|simp (maxSteps:=9^9) -implicitDefEqProofs only [go_sem,d1,d2,decide_true,bne,Bool.not_true,Bool.not_false]))
  all_goals rfl
end
section
variable {G:Nat→Option (List D)}
theorem rcGet_m (v:Tree) {cs:List D} (hcs:treeC v=cs) (hw:v.wt≤30000000):Spec Tryz.prog G 30 [.g cs] (.many [.g (ctC ((refC v).getD Ct.none)),.c (.v (.bool (refC v).isSome))]):=by
 subst hcs
 have hm:=may_m (G:=G) v rfl (by omega)
 have hh:=headref_m (G:=G) v rfl wCert
 have hkw: ∀ x∈v.kids,x.wt<v.wt:=fun x hx=>Tree.wt_kid hx
 have hl5:=v.wt_kids
 have p3:decide ((v.kids.length:Int)<3)= !decide (3≤v.kids.length):=by
  rw [← decide_not,decide_eq_decide]
  omega
 obtain ⟨R,hR0⟩: ∃ R,refC v=R:=⟨_,rfl⟩
 have hR : R=if (v.may&&(headB v wCert&&decide (3≤v.kids.length)))=true then
  (match ofR (v.kid 1) wIssuer,ofR (v.kid 2) wSubject with
  | some x,some y=>(match getSb y with
   | some s=>(match namedR x with
    | some n=>(match endsR (v.kids.drop 3) with
     | some w=>if s.kind=3 then none else some ⟨n.1,n.2.1,n.2.2,s,false,zeroTg,w⟩
     | none=>none)
    | none=>(match rgetK x,rightsR (v.kids.drop 3) with
     | some k,some r=>some ⟨k.1,k.2,[],s,r.1,r.2.1,r.2.2⟩
     | _,_=>none))
   | none=>none)
  | _,_=>none)
  else none:=hR0.symm
 rw [hR0]
 clear hR0
 have hzero:=ct_zero
 by_cases hc:(v.may&&(headB v wCert&&decide (3≤v.kids.length)))=true
 ·rw [if_pos hc] at hR
  simp only [Bool.and_eq_true,decide_eq_true_eq] at hc
  obtain ⟨c1,c2,c3⟩:=hc
  rw [c1] at hm
  rw [c2] at hh
  have hcl:=may_clean c1
  have hkc: ∀ x∈v.kids,x.clean=true:=fun x hx=>kid_clean' hcl hx
  clear p3
  have ev:=treeC_eq v
  rw [ev] at hm hh ⊢
  clear ev
  have kd1:v.kid 1=v.kids.getD 1 zeroT:=rfl
  have kd2:v.kid 2=v.kids.getD 2 zeroT:=rfl
  rw [kd1,kd2] at hR
  clear kd1 kd2
  generalize v.kids=L at *
  obtain ⟨a,b,e,l,rfl⟩: ∃ a b e l,L=a::b::e::l:=by
   match L,c3 with
   | a::b::e::l,_=>exact ⟨a,b,e,l,rfl⟩
   | [],h=>exact absurd h (by decide)
   | [_],h=>exact absurd h (by simp)
   | [_,_],h=>exact absurd h (by simp)
  rw [show (a::b::e::l).getD 1 zeroT=b from rfl,show (a::b::e::l).getD 2 zeroT=e from rfl,show (a::b::e::l).drop 3=l from rfl] at hR
  have wb:=hkw b (by simp)
  have we:=hkw e (by simp)
  have o1:=rof_m (G:=G) b rfl wIssuer
  have o2:=rof_m (G:=G) e rfl wSubject
  have hend:=rends_m (G:=G) l (fun x hx=>by have:=hkw x (by simp [hx]);omega)
  have hrig:=rrights_m (G:=G) l (fun x hx=>by have:=hkw x (by simp [hx]);omega)
  have hee:=endsD_ok l
  have hre:=rightsD_ok l
  have hXw: ∀ (y:Tree) w,y.wt≤30000000→((ofR y w).getD zeroT).wt≤30000000:=fun y w hy=>by
   unfold ofR
   split
   ·rename_i hh
    rw [Bool.and_eq_true,beq_iff_eq] at hh
    have:y.kid 1∈y.kids:=by
     match hk:y.kids,hh.2 with
     | [a,b],_ =>
      rw [Tree.kid_at (i:=1) (x:=b) (by rw [hk];rfl)]
      simp
    have:=Tree.wt_kid this
    show (y.kid 1).wt≤_
    omega
   ·show zeroT.wt≤_
    rw [zeroT_wt]
    omega
  have hsg:=rsGet_m (G:=G) ((ofR e wSubject).getD zeroT) rfl (hXw e wSubject (by omega))
  have hnm:=rnamed_m (G:=G) ((ofR b wIssuer).getD zeroT) rfl
  have hrk:=rkget_m (G:=G) ((ofR b wIssuer).getD zeroT) rfl
  have hno:=namedD_ok ((ofR b wIssuer).getD zeroT)
  have hkd:keyD (rgetK ((ofR b wIssuer).getD zeroT))=keyC ((rgetK ((ofR b wIssuer).getD zeroT)).getD (false,[])).1 ((rgetK ((ofR b wIssuer).getD zeroT)).getD (false,[])).2:=by
   cases rgetK ((ofR b wIssuer).getD zeroT)<;>rfl
  rw [hkd] at hrk
  unfold rsGetD at hsg
  clear hkd hXw hkw wb we hkc hcl
  have hl0:l.length≤30000000:=by
   simp only [List.length_cons] at hl5
   omega
  have kx:decide (((l.length+1+1+1:Nat):Int)<3)=false:=by
   rw [decide_eq_false_iff_not]
   omega
  have r1:l.length+1+1+1-3=l.length:=rfl
  have k3:(l.flatMap treeC).length=l.length*5:=treeC_flen _
  rw [List.flatMap_cons,List.flatMap_cons,List.flatMap_cons,List.length_cons,List.length_cons,List.length_cons] at hm hh ⊢
  generalize l.flatMap treeC=Z at *
  have q1:Z.take (l.length*5)=Z:=List.take_of_length_le (by omega)
  generalize ofR b wIssuer=OI at *
  generalize ofR e wSubject=OS at *
  rw [treeC_eq a] at hm hh ⊢
  rw [treeC_eq b] at hm hh o1 ⊢
  rw [treeC_eq e] at hm hh o2 ⊢
  simp only [List.cons_append,List.nil_append] at hm hh ⊢
  unfold wIssuer at o1
  unfold wSubject at o2
  unfold wCert at hh
  obtain ⟨s1,s2,s3,s4,s5,hs⟩:=sb_cells ((getSb (OS.getD zeroT)).getD Sb.none)
  have three:(OI=none∨OS=none∨getSb (OS.getD zeroT)=none)∨ ∃ X Y s,OI=some X∧OS=some Y∧getSb Y=some s:=by
   cases OI with
   | none=>exact .inl (.inl rfl)
   | some X =>
    cases OS with
    | none=>exact .inl (.inr (.inl rfl))
    | some Y =>
     cases hg:getSb Y with
     | none=>exact .inl (.inr (.inr hg))
     | some s=>exact .inr ⟨X,Y,s,rfl,rfl,hg⟩
  rcases three with hbad|⟨X,Y,s,rfl,rfl,hgs⟩
  ·have hR:R=none:=by
    rw [hR]
    rcases hbad with rfl|rfl|hg
    ·rfl
    ·cases OI<;>rfl
    ·cases OI<;>cases OS<;>first|rfl|(rw [Option.getD_some] at hg;simp only [hg])
   rw [hR,Option.getD_none,Option.isSome_none,hzero]
   have hbb:OI.isSome=false∨(OI.isSome=true∧OS.isSome=false)∨(OI.isSome=true∧OS.isSome=true∧(getSb (OS.getD zeroT)).isSome=false):=by
    cases OI with
    | none=>exact .inl rfl
    | some X =>
     cases OS with
     | none=>exact .inr (.inl ⟨rfl,rfl⟩)
     | some Y =>
      refine .inr (.inr ⟨rfl,rfl,?_⟩)
      rcases hbad with h|h|h
      ·cases h
      ·cases h
      ·rw [h];rfl
   rw [hs] at hsg
   clear hR hbad hend hrig hee hre hnm hrk hno hs hzero hl5
   generalize OI.isSome=b1 at *
   generalize OS.isSome=b2 at *
   generalize (getSb (OS.getD zeroT)).isSome=b3 at *
   generalize ((getSb (OS.getD zeroT)).getD Sb.none).kind=kk at *
   generalize OI.getD zeroT=X at *
   generalize OS.getD zeroT=Y at *
   rw [treeC_eq X] at o1
   rw [treeC_eq Y] at o2 hsg
   simp only [bD,bytesD] at *
   rcases hbb with rfl|⟨rfl,rfl⟩|⟨rfl,rfl,rfl⟩
   all_goals
    refine spec_of Tryz.func30 rfl rfl rfl (by kernel_rfl) rfl fun K=>?_
    (repeat' (first|with_reducible (first|refine zA fun Kn hK=>?_|refine zU ?_|refine Nx.go ?_|go_step)|refine ⟨_,hm,?_⟩|refine ⟨_,hh,?_⟩|refine ⟨_,o1,?_⟩|refine ⟨_,o2,?_⟩|refine ⟨_,hsg,?_⟩|with_reducible (first|refine zI ?_|refine zV ?_)|simp (maxSteps:=9^9) (disch:=omega) only [wq]|with_reducible refine zM (fun hb=>?_) (fun hb=>?_)<;>try simp only [hb]|with_reducible refine And.intro (by first|omega|(simp;done)|(simp;omega)) ?_|simp (maxSteps:=9^9) -implicitDefEqProofs only [go_sem,kx,decide_true,bne,Bool.not_true,Bool.not_false]))
    all_goals rfl
  ·rw [Option.getD_some] at hs hsg hnm hrk hno o1 o2
   rw [Option.isSome_some] at o1 o2
   rw [hgs] at hs hsg
   rw [Option.getD_some] at hs hsg
   rw [Option.isSome_some] at hsg
   rw [hs] at hsg
   dsimp only at hR
   rw [hgs] at hR
   dsimp only at hR
   obtain ⟨n1,n2⟩:=hno
   obtain ⟨e1,e2⟩:=hee
   obtain ⟨g1,g2⟩:=hre
   have hke:((s.kind.toNat:Int)==3)=decide (s.kind=3):=by
    have:=u8_beq s.kind 3
    rw [show ((3:UInt8).toNat:Int)=3 from rfl] at this
    rw [this]
    exact Bool.beq_eq_decide_eq _ _
   have hct: ∀ (ks:Bool) (kd label:List UInt8) (dlg:Bool) (win:Wd) (tag:Tg) (t0 t1 t2 t3 t4 t5 t6 t7 t8 t9:D),tagC tag=[t0,t1,t2,t3,t4,t5,t6,t7,t8,t9]→ctC ⟨ks,kd,label,s,dlg,tag,win⟩=[.v (.bool ks),bytesD kd,bytesD label,.v (.int .u8 (s.kind.toNat:Int)),s1,s2,s3,s4,s5,.v (.bool dlg),t0,t1,t2,t3,t4,t5,t6,t7,t8,t9,.v (.bool win.aft),.v (.int .i64 win.frm),.v (.bool win.unt),.v (.int .i64 win.to)]:=fun ks kd label dlg win tag t0 t1 t2 t3 t4 t5 t6 t7 t8 t9 ht=>by
    unfold ctC wdC
    dsimp only
    rw [hs,ht]
    rfl
   clear hgs hs hl5 c3
   cases hn:namedR X with
   | some n =>
    rw [hn,Option.isSome_some] at n1
    have n4:=n2 n hn
    clear n2
    rw [hn] at hR
    dsimp only at hR
    generalize namedD X=ND at *
    obtain ⟨⟨nd0,nd1⟩,nd2,nd3⟩:=ND
    dsimp only at n1 n4 hnm
    subst n1 n4
    dsimp only at hR
    clear hrk hrig g1 g2 hn
    cases he:endsR l with
    | none =>
     rw [he,Option.isSome_none] at e1
     rw [he] at hR
     have hR:R=none:=hR
     rw [hR,Option.getD_none,Option.isSome_none,hzero]
     clear hR hct e2 he hzero
     generalize (endsD l).1=W at *
     rw [e1] at hend
     rw [treeC_eq X] at o1 hnm
     rw [treeC_eq Y] at o2 hsg
     unfold wdC at hend
     simp only [keyC,bD,bytesD] at *
     refine spec_of Tryz.func30 rfl rfl rfl (by kernel_rfl) rfl fun K=>?_
     (repeat' (first|with_reducible (first|refine zA fun Kn hK=>?_|refine zU ?_|refine Nx.go ?_|go_step)|refine ⟨_,hm,?_⟩|refine ⟨_,hh,?_⟩|refine ⟨_,o1,?_⟩|refine ⟨_,o2,?_⟩|refine ⟨_,hsg,?_⟩|refine ⟨_,hnm,?_⟩|refine ⟨_,hend,?_⟩|with_reducible (first|refine zI ?_|refine zV ?_)|simp (maxSteps:=9^9) (disch:=omega) only [wq]|with_reducible refine zM (fun hb=>?_) (fun hb=>?_)<;>try simp only [hb]|with_reducible refine And.intro (by first|omega|(simp;done)|(simp;omega)) ?_|simp (maxSteps:=9^9) -implicitDefEqProofs only [go_sem,kx,r1,q1,hke,decide_true,bne,Bool.not_true,Bool.not_false]))
     all_goals rfl
    | some w =>
     rw [he,Option.isSome_some] at e1
     have e4:=e2 w he
     clear e2
     rw [he] at hR
     dsimp only at hR
     rw [e1,e4] at hend
     clear e1 e4 he
     by_cases hk3:s.kind=3
     ·rw [decide_eq_true hk3] at hke
      rw [if_pos hk3] at hR
      rw [hR,Option.getD_none,Option.isSome_none,hzero]
      clear hR hct hzero hk3
      rw [treeC_eq X] at o1 hnm
      rw [treeC_eq Y] at o2 hsg
      unfold wdC at hend
      simp only [keyC,bD,bytesD] at *
      refine spec_of Tryz.func30 rfl rfl rfl (by kernel_rfl) rfl fun K=>?_
      (repeat' (first|with_reducible (first|refine zA fun Kn hK=>?_|refine zU ?_|refine Nx.go ?_|go_step)|refine ⟨_,hm,?_⟩|refine ⟨_,hh,?_⟩|refine ⟨_,o1,?_⟩|refine ⟨_,o2,?_⟩|refine ⟨_,hsg,?_⟩|refine ⟨_,hnm,?_⟩|refine ⟨_,hend,?_⟩|with_reducible (first|refine zI ?_|refine zV ?_)|simp (maxSteps:=9^9) (disch:=omega) only [wq]|with_reducible refine zM (fun hb=>?_) (fun hb=>?_)<;>try simp only [hb]|with_reducible refine And.intro (by first|omega|(simp;done)|(simp;omega)) ?_|simp (maxSteps:=9^9) -implicitDefEqProofs only [go_sem,kx,r1,q1,hke,decide_true,bne,Bool.not_true,Bool.not_false]))
      all_goals rfl
     ·rw [decide_eq_false hk3] at hke
      rw [if_neg hk3] at hR
      rw [hR,Option.getD_some,Option.isSome_some,hct _ _ _ _ _ _ _ _ _ _ _ _ _ _ _ _ zeroTg_C]
      clear hR hct hzero hk3
      rw [treeC_eq X] at o1 hnm
      rw [treeC_eq Y] at o2 hsg
      unfold wdC at hend
      simp only [keyC,bD,bytesD] at *
      refine spec_of Tryz.func30 rfl rfl rfl (by kernel_rfl) rfl fun K=>?_
      (repeat' (first|with_reducible (first|refine zA fun Kn hK=>?_|refine zU ?_|refine Nx.go ?_|go_step)|refine ⟨_,hm,?_⟩|refine ⟨_,hh,?_⟩|refine ⟨_,o1,?_⟩|refine ⟨_,o2,?_⟩|refine ⟨_,hsg,?_⟩|refine ⟨_,hnm,?_⟩|refine ⟨_,hend,?_⟩|with_reducible (first|refine zI ?_|refine zV ?_)|simp (maxSteps:=9^9) (disch:=omega) only [wq]|with_reducible refine zM (fun hb=>?_) (fun hb=>?_)<;>try simp only [hb]|with_reducible refine And.intro (by first|omega|(simp;done)|(simp;omega)) ?_|simp (maxSteps:=9^9) -implicitDefEqProofs only [go_sem,kx,r1,q1,hke,decide_true,bne,Bool.not_true,Bool.not_false]))
      all_goals rfl
   | none =>
    rw [hn,Option.isSome_none] at n1
    rw [hn] at hR
    dsimp only at hR
    generalize namedD X=ND at *
    obtain ⟨nd1,nd2,nd3⟩:=ND
    dsimp only at n1 hnm
    subst n1
    clear hend e1 e2 hn n2 hke
    cases hg:rgetK X with
    | none =>
     rw [hg] at hR hrk
     rw [Option.isSome_none] at hrk
     have hR:R=none:=hR
     rw [hR,Option.getD_none,Option.isSome_none,hzero]
     obtain ⟨t0,t1,t2,t3,t4,t5,t6,t7,t8,t9,ht⟩:=tag_cells (rightsD l).2.1
     rw [ht] at hrig
     clear hR hct hzero hg g1 g2 ht
     generalize (rightsD l).1=D1 at *
     generalize (rightsD l).2.2.1=D3 at *
     generalize (rightsD l).2.2.2=D4 at *
     rw [treeC_eq X] at o1 hnm hrk
     rw [treeC_eq Y] at o2 hsg
     unfold wdC at hrig
     simp only [keyC,bD,bytesD] at *
     refine spec_of Tryz.func30 rfl rfl rfl (by kernel_rfl) rfl fun K=>?_
     (repeat' (first|with_reducible (first|refine zA fun Kn hK=>?_|refine zU ?_|refine Nx.go ?_|go_step)|refine ⟨_,hm,?_⟩|refine ⟨_,hh,?_⟩|refine ⟨_,o1,?_⟩|refine ⟨_,o2,?_⟩|refine ⟨_,hsg,?_⟩|refine ⟨_,hnm,?_⟩|refine ⟨_,hrk,?_⟩|refine ⟨_,hrig,?_⟩|with_reducible (first|refine zI ?_|refine zV ?_)|simp (maxSteps:=9^9) (disch:=omega) only [wq]|with_reducible refine zM (fun hb=>?_) (fun hb=>?_)<;>try simp only [hb]|with_reducible refine And.intro (by first|omega|(simp;done)|(simp;omega)) ?_|simp (maxSteps:=9^9) -implicitDefEqProofs only [go_sem,kx,r1,q1,decide_true,bne,Bool.not_true,Bool.not_false]))
     all_goals rfl
    | some k =>
     rw [hg] at hR hrk
     rw [Option.isSome_some,Option.getD_some] at hrk
     cases hr:rightsR l with
     | none =>
      rw [hr,Option.isSome_none] at g1
      rw [hr] at hR
      have hR:R=none:=hR
      rw [hR,Option.getD_none,Option.isSome_none,hzero]
      obtain ⟨t0,t1,t2,t3,t4,t5,t6,t7,t8,t9,ht⟩:=tag_cells (rightsD l).2.1
      rw [ht,g1] at hrig
      clear hR hct hzero hg g1 g2 ht hr
      generalize (rightsD l).1=D1 at *
      generalize (rightsD l).2.2.1=D3 at *
      rw [treeC_eq X] at o1 hnm hrk
      rw [treeC_eq Y] at o2 hsg
      unfold wdC at hrig
      simp only [keyC,bD,bytesD] at *
      refine spec_of Tryz.func30 rfl rfl rfl (by kernel_rfl) rfl fun K=>?_
      (repeat' (first|with_reducible (first|refine zA fun Kn hK=>?_|refine zU ?_|refine Nx.go ?_|go_step)|refine ⟨_,hm,?_⟩|refine ⟨_,hh,?_⟩|refine ⟨_,o1,?_⟩|refine ⟨_,o2,?_⟩|refine ⟨_,hsg,?_⟩|refine ⟨_,hnm,?_⟩|refine ⟨_,hrk,?_⟩|refine ⟨_,hrig,?_⟩|with_reducible (first|refine zI ?_|refine zV ?_)|simp (maxSteps:=9^9) (disch:=omega) only [wq]|with_reducible refine zM (fun hb=>?_) (fun hb=>?_)<;>try simp only [hb]|with_reducible refine And.intro (by first|omega|(simp;done)|(simp;omega)) ?_|simp (maxSteps:=9^9) -implicitDefEqProofs only [go_sem,kx,r1,q1,decide_true,bne,Bool.not_true,Bool.not_false]))
      all_goals rfl
     | some r =>
      rw [hr,Option.isSome_some] at g1
      have g4:=g2 r hr
      clear g2
      rw [hr] at hR
      have hR:R=some ⟨k.1,k.2,[],s,r.1,r.2.1,r.2.2⟩:=hR
      subst g4
      dsimp only at hR
      obtain ⟨t0,t1,t2,t3,t4,t5,t6,t7,t8,t9,ht⟩:=tag_cells (rightsD l).2.1
      rw [hR,Option.getD_some,Option.isSome_some,hct _ _ _ _ _ _ _ _ _ _ _ _ _ _ _ _ ht]
      rw [ht,g1] at hrig
      clear hR hct hzero hg g1 ht hr
      generalize (rightsD l).1=D1 at *
      generalize (rightsD l).2.2.1=D3 at *
      rw [treeC_eq X] at o1 hnm hrk
      rw [treeC_eq Y] at o2 hsg
      unfold wdC at hrig
      simp only [keyC,bD,bytesD] at *
      refine spec_of Tryz.func30 rfl rfl rfl (by kernel_rfl) rfl fun K=>?_
      (repeat' (first|with_reducible (first|refine zA fun Kn hK=>?_|refine zU ?_|refine Nx.go ?_|go_step)|refine ⟨_,hm,?_⟩|refine ⟨_,hh,?_⟩|refine ⟨_,o1,?_⟩|refine ⟨_,o2,?_⟩|refine ⟨_,hsg,?_⟩|refine ⟨_,hnm,?_⟩|refine ⟨_,hrk,?_⟩|refine ⟨_,hrig,?_⟩|with_reducible (first|refine zI ?_|refine zV ?_)|simp (maxSteps:=9^9) (disch:=omega) only [wq]|with_reducible refine zM (fun hb=>?_) (fun hb=>?_)<;>try simp only [hb]|with_reducible refine And.intro (by first|omega|(simp;done)|(simp;omega)) ?_|simp (maxSteps:=9^9) -implicitDefEqProofs only [go_sem,kx,r1,q1,decide_true,bne,Bool.not_true,Bool.not_false]))
      all_goals rfl
 ·rw [if_neg hc] at hR
  rw [hR,Option.getD_none,Option.isSome_none,hzero]
  clear hR hzero hkw
  generalize v.may=z1 at *
  generalize headB v wCert=z2 at *
  generalize decide (3≤v.kids.length)=z3 at *
  have many:z1=false∨(z1=true∧z2=false)∨(z1=true∧z2=true∧z3=false):=by
   revert hc
   clear hm hh p3
   cases z1<;>cases z2<;>cases z3<;>simp
  clear hc
  rw [treeC_eq v] at hm hh ⊢
  unfold wCert at hh
  simp only [bD,bytesD] at *
  rcases many with rfl|⟨rfl,rfl⟩|⟨rfl,rfl,rfl⟩
  all_goals
   refine spec_of Tryz.func30 rfl rfl rfl (by kernel_rfl) rfl fun K=>?_
   (repeat' (first|with_reducible (first|refine zA fun Kn hK=>?_|refine zU ?_|refine Nx.go ?_|go_step)|refine ⟨_,hm,?_⟩|refine ⟨_,hh,?_⟩|with_reducible (first|refine zI ?_|refine zV ?_)|simp (maxSteps:=9^9) (disch:=omega) only [wq]|with_reducible refine zM (fun hb=>?_) (fun hb=>?_)<;>try simp only [hb]|with_reducible refine And.intro (by first|omega|(simp;done)|(simp;omega)) ?_|simp (maxSteps:=9^9) -implicitDefEqProofs only [go_sem,p3,decide_true,bne,Bool.not_true,Bool.not_false]))
   all_goals rfl
end
section
variable {G:Nat→Option (List D)}
theorem deep17_m: ∀ t:Tree,∀ cs:List D,treeC t=cs→t.wt≤1000000000→t.clean=true→Spec Tryz.prog G 71 [.g cs] (.one (.c (.v (.int .i64 t.deep)))):=Tree.ind fun t ih cs hcs hw hc=>by
 subst hcs
 refine spec_of Tryz.func71 rfl rfl rfl (by kernel_rfl) rfl fun K=>?_
 rw [treeC_eq]
 (repeat' (first|with_reducible (first|refine zA fun Kn hK=>?_|refine zU ?_|refine Nx.go ?_|go_step)|with_reducible (first|refine zI ?_|refine zV ?_)|simp (maxSteps:=9^9) (disch:=omega) only [wq]|with_reducible refine zM (fun hb=>?_) (fun hb=>?_)<;>try simp only [hb]|with_reducible refine And.intro (by first|omega|(simp;done)|(simp;omega)) ?_|simp (maxSteps:=9^9) -implicitDefEqProofs only [go_sem,true_and]))
 refine sound_loopR (fun x:{k:Nat // k≤t.kids.length}=>⟨[(1,vP 1 0),(3,vI (most ((t.kids.take x.1).map Tree.deep):Nat)),(4,vI x.1)],[(1,some ⟨45,treeK t,true,false⟩)]⟩) (fun x=>t.kids.length-x.1) ⟨0,by omega⟩ [] (by (iterate 2 ((try simp (maxSteps:=9^9) -implicitDefEqProofs only [go_sem,true_and]);(try simp (maxSteps:=9^9) (disch:=omega) only [wq])));simp [most]) (fun ⟨k,hk⟩=>?_)
 have h5:=t.wt_kids
 have h6:most ((t.kids.take k).map Tree.deep)≤1000000000:=most_take fun x hx=>by have:=x.deep_wt;have:=Tree.wt_kid hx;omega
 by_cases hlt:k<t.kids.length
 ·obtain ⟨x,hx⟩: ∃ x,t.kids[k]?=some x:=⟨_,List.getElem?_eq_getElem hlt⟩
  have hb:decide ((k:Int)<(t.kids.length:Int))=true:=by simpa using hlt
  have hm:=List.mem_of_getElem? hx
  (repeat' (first|with_reducible (first|refine zA fun Kn hK=>?_|refine zU ?_|refine Nx.go ?_|go_step)|(refine ⟨_,ih x hm _ rfl (by have:=Tree.wt_kid hm;omega) (kid_clean' hc hm),?_⟩)|with_reducible (first|refine zI ?_|refine zV ?_)|simp (maxSteps:=9^9) (disch:=omega) only [wq]|with_reducible refine zM (fun hb=>?_) (fun hb=>?_)<;>try simp only [hb]|with_reducible refine And.intro (by first|omega|(simp;done)|(simp;omega)) ?_|simp (maxSteps:=9^9) -implicitDefEqProofs only [go_sem,hb,flat_at treeC_len hx]))
  refine ⟨[],⟨k+1,hlt⟩,?_⟩
  have h7:=most_at hx
  (iterate 2 ((try simp (maxSteps:=9^9) -implicitDefEqProofs only [go_sem,true_and]);(try simp (maxSteps:=9^9) (disch:=omega) only [wq])))
  (simp only [ijq,true_and,and_true];first|done|omega|(split<;>omega)|(simp;done)|(simp;omega))
 ·have hb:decide ((k:Int)<(t.kids.length:Int))=false:=by simpa using hlt
  obtain rfl:k=t.kids.length:=by omega
  rw [List.take_length] at h6
  cases hl:t.list with
  | false =>
   have hk0:=fair_atom (clean_fair' hc) hl
   (repeat' (first|with_reducible (first|refine zA fun Kn hK=>?_|refine zU ?_|refine Nx.go ?_|go_step)|with_reducible (first|refine zI ?_|refine zV ?_)|simp (maxSteps:=9^9) (disch:=omega) only [wq]|with_reducible refine zM (fun hb=>?_) (fun hb=>?_)<;>try simp only [hb]|with_reducible refine And.intro (by first|omega|(simp;done)|(simp;omega)) ?_|simp (maxSteps:=9^9) -implicitDefEqProofs only [go_sem,hb,hl,List.take_length]))
   all_goals (rw [t.deep_eq,hl,hk0];rfl)
  | true =>
   (repeat' (first|with_reducible (first|refine zA fun Kn hK=>?_|refine zU ?_|refine Nx.go ?_|go_step)|with_reducible (first|refine zI ?_|refine zV ?_)|simp (maxSteps:=9^9) (disch:=omega) only [wq]|with_reducible refine zM (fun hb=>?_) (fun hb=>?_)<;>try simp only [hb]|with_reducible refine And.intro (by first|omega|(simp;done)|(simp;omega)) ?_|simp (maxSteps:=9^9) -implicitDefEqProofs only [go_sem,hb,hl,List.take_length]))
   all_goals (rw [t.deep_eq,hl];rfl)
theorem nodes17_m: ∀ t:Tree,∀ cs:List D,treeC t=cs→t.wt≤1000000000→Spec Tryz.prog G 72 [.g cs] (.one (.c (.v (.int .i64 t.nodes)))):=Tree.ind fun t ih cs hcs hw=>by
 subst hcs
 refine spec_of Tryz.func72 rfl rfl rfl (by kernel_rfl) rfl fun K=>?_
 rw [treeC_eq]
 (repeat' (first|with_reducible (first|refine zA fun Kn hK=>?_|refine zU ?_|refine Nx.go ?_|go_step)|with_reducible (first|refine zI ?_|refine zV ?_)|simp (maxSteps:=9^9) (disch:=omega) only [wq]|with_reducible refine zM (fun hb=>?_) (fun hb=>?_)<;>try simp only [hb]|with_reducible refine And.intro (by first|omega|(simp;done)|(simp;omega)) ?_|simp (maxSteps:=9^9) -implicitDefEqProofs only [go_sem,true_and]))
 refine sound_loopR (fun x:{k:Nat // k≤t.kids.length}=>⟨[(1,vP 1 0),(3,vI (1+((t.kids.take x.1).map Tree.nodes).sum:Nat)),(4,vI x.1)],[(1,some ⟨45,treeK t,true,false⟩)]⟩) (fun x=>t.kids.length-x.1) ⟨0,by omega⟩ [] (by (iterate 2 ((try simp (maxSteps:=9^9) -implicitDefEqProofs only [go_sem,true_and]);(try simp (maxSteps:=9^9) (disch:=omega) only [wq])));simp) (fun ⟨k,hk⟩=>?_)
 by_cases hlt:k<t.kids.length
 ·obtain ⟨x,hx⟩: ∃ x,t.kids[k]?=some x:=⟨_,List.getElem?_eq_getElem hlt⟩
  have hb:decide ((k:Int)<(t.kids.length:Int))=true:=by simpa using hlt
  have h1:=sum_at Tree.nodes hx
  have h2:=sum_upto (l:=t.kids) (k:=k+1) Tree.nodes
  have h3:=t.nodes_wt
  have h4:=t.nodes_eq
  have h5:=t.wt_kids
  (repeat' (first|with_reducible (first|refine zA fun Kn hK=>?_|refine zU ?_|refine Nx.go ?_|go_step)|(refine ⟨_,ih x (List.mem_of_getElem? hx) _ rfl (by have:=Tree.wt_kid (List.mem_of_getElem? hx);omega),?_⟩)|with_reducible (first|refine zI ?_|refine zV ?_)|simp (maxSteps:=9^9) (disch:=omega) only [wq]|with_reducible refine zM (fun hb=>?_) (fun hb=>?_)<;>try simp only [hb]|with_reducible refine And.intro (by first|omega|(simp;done)|(simp;omega)) ?_|simp (maxSteps:=9^9) -implicitDefEqProofs only [go_sem,hb,flat_at treeC_len hx]))
  refine ⟨[],⟨k+1,hlt⟩,?_⟩
  (iterate 2 ((try simp (maxSteps:=9^9) -implicitDefEqProofs only [go_sem,hb]);(try simp (maxSteps:=9^9) (disch:=omega) only [wq])))
  (simp only [ijq,true_and,and_true];first|done|omega|(split<;>omega)|(simp;done)|(simp;omega))
 ·have hb:decide ((k:Int)<(t.kids.length:Int))=false:=by simpa using hlt
  obtain rfl:k=t.kids.length:=by omega
  (repeat' (first|with_reducible (first|refine zA fun Kn hK=>?_|refine zU ?_|refine Nx.go ?_|go_step)|with_reducible (first|refine zI ?_|refine zV ?_)|simp (maxSteps:=9^9) (disch:=omega) only [wq]|with_reducible refine zM (fun hb=>?_) (fun hb=>?_)<;>try simp only [hb]|with_reducible refine And.intro (by first|omega|(simp;done)|(simp;omega)) ?_|simp (maxSteps:=9^9) -implicitDefEqProofs only [go_sem,hb,List.take_length]))
  all_goals rw [t.nodes_eq]
theorem zeroTg_val:zeroTg.val=listT []:=by
 unfold zeroTg
 rw [val_of]
 rfl
theorem rvalue0_m:Spec Tryz.prog G 50 [.g (tagC zeroTg)] (.one (.g (treeC zeroTg.val))):=by
 have hstar:=atomref_m (G:=G) wStar (by decide)
 rw [treeC_mk] at hstar
 rw [zeroTg_val,show listT []= .mk true false [] [] [] from rfl,treeC_mk,zeroTg_C]
 unfold wStar at hstar
 simp only [bD,bytesD] at *
 refine spec_of Tryz.func50 rfl rfl rfl (by kernel_rfl) rfl fun K=>?_
 (repeat' (first|with_reducible (first|refine zA fun Kn hK=>?_|refine zU ?_|refine Nx.go ?_|go_step)|refine ⟨_,hstar,?_⟩|with_reducible (first|refine zI ?_|refine zV ?_)|simp (maxSteps:=9^9) (disch:=omega) only [wq]|with_reducible refine zM (fun hb=>?_) (fun hb=>?_)<;>try simp only [hb]|with_reducible refine And.intro (by first|omega|(simp;done)|(simp;omega)) ?_|simp (maxSteps:=9^9) -implicitDefEqProofs only [go_sem,true_and]))
 refine sound_grow 4 7 5 0 0 (by rfl) (by rfl) (by rfl) (by rfl) ?_
 refine sound_trim 7 0 (by rfl) ?_
 refine sound_loopR (fun x:{k:Nat // k=0}=>⟨[(2,vP 2 0),(4,vR 1000 5 0),(64,vI (0:Nat)),(65,vI x.1)],[(2,some ⟨45,zeroOf Tryz.prog 45,true,false⟩),(1000,some ⟨45,[],false,false⟩)]⟩) (fun x=>0) ⟨0,rfl⟩ [(1000,7)] (by (iterate 2 ((try simp (maxSteps:=9^9) -implicitDefEqProofs only [go_sem,bD,AObj.trim,List.take_zero,List.flatMap_nil,List.map_nil]);(try simp (maxSteps:=9^9) (disch:=omega) only [wq])));try simp) (fun ⟨k,hk⟩=>?_)
 subst hk
 have hb:decide (((0:Nat):Int)<((0:Nat):Int))=false:=by decide
 (repeat' (first|with_reducible (first|refine zA fun Kn hK=>?_|refine zU ?_|refine Nx.go ?_|go_step)|with_reducible (first|refine zI ?_|refine zV ?_)|simp (maxSteps:=9^9) (disch:=omega) only [wq]|with_reducible refine zM (fun hb=>?_) (fun hb=>?_)<;>try simp only [hb]|with_reducible refine And.intro (by first|omega|(simp;done)|(simp;omega)) ?_|simp (maxSteps:=9^9) -implicitDefEqProofs only [go_sem,hb]))
 all_goals rfl
theorem parts17_m (c:Ct) (hf:c.fit) {cs:List D} (hcs:ctC c=cs):Spec Tryz.prog G 32 [.g cs] (.one (.c (.v (.bool c.ok)))):=by
 subst hcs
 have k1:=rkmay_m (G:=G) c.ks c.kd
 have k2:=rsmay_m (G:=G) c.sub rfl hf.sub
 have k3:=rwmay_m (G:=G) c.win
 have k4:=same12_m (G:=G) c.tag zeroTg _ _ rfl rfl (by have:=hf.wt;omega)
 have k5:=rmay12_m (G:=G) c.tag rfl (by have:=hf.wt;omega) (by have:=hf.nodes;omega)
 rw [← tMay] at k5
 rw [isZ_same,zeroTg_C] at k4
 have n0:decide ((c.label.length:Int)>0)= !emptyL c.label:=pos_len c.label
 have e3:((c.sub.kind.toNat:Int)==3)=decide (c.sub.kind=3):=by
  have:=u8_beq c.sub.kind 3
  rw [show ((3:UInt8).toNat:Int)=3 from rfl] at this
  rw [this]
  exact Bool.beq_eq_decide_eq _ _
 have hv:c.ok=(keyMay c.ks c.kd&&(c.sub.may&&(c.win.may&&(if emptyL c.label=true then tMay c.tag else !c.dlg&&(isZ c.tag&& !decide (c.sub.kind=3)))))):=by
  unfold Ct.ok
  rw [show rOk c=(if emptyL c.label=true then tMay c.tag else !c.dlg&&(isZ c.tag&& !decide (c.sub.kind=3))) from rfl,Bool.and_comm (if emptyL c.label=true then tMay c.tag else !c.dlg&&(isZ c.tag&& !decide (c.sub.kind=3)))]
 rw [hv]
 clear hv
 obtain ⟨s1,s2,s3,s4,s5,hs⟩:=sb_cells c.sub
 obtain ⟨t0,t1,t2,t3,t4,t5,t6,t7,t8,t9,ht⟩:=tag_cells c.tag
 have hct:ctC c=[.v (.bool c.ks),bytesD c.kd,bytesD c.label,.v (.int .u8 (c.sub.kind.toNat:Int)),s1,s2,s3,s4,s5,.v (.bool c.dlg),t0,t1,t2,t3,t4,t5,t6,t7,t8,t9,.v (.bool c.win.aft),.v (.int .i64 c.win.frm),.v (.bool c.win.unt),.v (.int .i64 c.win.to)]:=by
  unfold ctC wdC
  rw [hs,ht]
  rfl
 rw [hs] at k2
 rw [ht] at k4 k5
 rw [hct]
 unfold wdC at k3
 clear hs ht hct hf
 generalize keyMay c.ks c.kd=z1 at *
 generalize c.sub.may=z2 at *
 generalize c.win.may=z3 at *
 generalize tMay c.tag=z4 at *
 generalize emptyL c.label=z5 at *
 obtain ⟨z6,hz6⟩: ∃ z,c.dlg=z:=⟨_,rfl⟩
 rw [hz6]
 generalize isZ c.tag=z7 at *
 generalize decide (c.sub.kind=3)=z8 at *
 have many:z1=false∨(z1=true∧z2=false)∨(z1=true∧z2=true∧z3=false)∨(z1=true∧z2=true∧z3=true∧z5=true)∨(z1=true∧z2=true∧z3=true∧z5=false∧z6=true)∨(z1=true∧z2=true∧z3=true∧z5=false∧z6=false∧z7=false)∨(z1=true∧z2=true∧z3=true∧z5=false∧z6=false∧z7=true):=by cases z1<;>cases z2<;>cases z3<;>cases z5<;>cases z6<;>cases z7<;>simp
 simp only [keyC,bD,bytesD] at *
 rcases many with rfl|⟨rfl,rfl⟩|⟨rfl,rfl,rfl⟩|⟨rfl,rfl,rfl,rfl⟩|⟨rfl,rfl,rfl,rfl,rfl⟩|⟨rfl,rfl,rfl,rfl,rfl,rfl⟩|⟨rfl,rfl,rfl,rfl,rfl,rfl⟩
 all_goals
  refine spec_of Tryz.func32 rfl rfl rfl (by kernel_rfl) rfl fun K=>?_
  (repeat' (first|with_reducible (first|refine zA fun Kn hK=>?_|refine zU ?_|refine Nx.go ?_|go_step)|refine ⟨_,k1,?_⟩|refine ⟨_,k2,?_⟩|refine ⟨_,k3,?_⟩|refine ⟨_,k4,?_⟩|refine ⟨_,k5,?_⟩|with_reducible (first|refine zI ?_|refine zV ?_)|simp (maxSteps:=9^9) (disch:=omega) only [wq]|with_reducible refine zM (fun hb=>?_) (fun hb=>?_)<;>try simp only [hb]|with_reducible refine And.intro (by first|omega|(simp;done)|(simp;omega)) ?_|simp (maxSteps:=9^9) -implicitDefEqProofs only [go_sem,n0,e3,hz6,decide_true,bne,Bool.not_true,Bool.not_false]))
  all_goals rfl
end
def longCn (c:Ct):Nat:=(keyV c.ks c.kd).form.length+c.label.length+c.sub.val.form.length+(if emptyL c.label=true then c.tag.val.form.length else 0)
def longC (c:Ct):Bool:=decide (3800<longCn c)||(decide (14<c.tag.val.deep)||decide (480<c.tag.val.nodes+c.sub.val.nodes))
theorem long_may {c:Ct} (h:c.ok=true) (hl:longC c=false):c.may=true:=by
 unfold longC longCn at hl
 simp only [Bool.or_eq_false_iff,decide_eq_false_iff_not] at hl
 obtain ⟨h1,h2,h3⟩:=hl
 exact ct_may h (by omega) (fun _=>by omega) (fun _=>by omega) (by omega)
def awK:List UInt8:=List.replicate 32 0
def awTg:Tg:= .mk 1 [] [] 0 Bd.none Bd.none
def awC:Ct:=⟨false,awK,[],.mk 1 false awK [] 0 [],true,awTg,Wd.none⟩
theorem awK_len:awK.length=32:=by simp [awK]
theorem awK_may:keyMay false awK=true:=by
 unfold keyMay
 rw [awK_len]
 rfl
theorem awTg_val:awTg.val=listT [atomT wStar]:=by
 unfold awTg
 rw [val_of]
 rfl
theorem awTg_right:awTg.right isV=true:=by
 rw [Tg.right_eq]
 unfold awTg
 rfl
theorem key32_sz:Sz (keyV false awK) 5 2 80:=by
 have h:keyV false awK=listT [atomT tPub,listT [atomT tEd,atomT awK]]:=rfl
 rw [h]
 exact (sz_list (szl_cons (sz_atom (k:=10) 1 (by decide) (by omega)) (szl_cons (sz_list (szl_cons (sz_atom (k:=7) 0 (by decide) (by omega)) (szl_cons (sz_atom (k:=32) 0 (by rw [awK_len];exact Nat.le_refl _) (by omega)) (szl_nil 0)))) (szl_nil 1)))).mono (by omega) (by omega) (by omega)
theorem star_sz:Sz (listT [atomT wStar]) 2 1 12:=(sz_list (szl_cons (sz_atom (k:=1) 0 (by decide) (by omega)) (szl_nil 0))).mono (by omega) (by omega) (by omega)
theorem awSub_val:awC.sub.val=keyV false awK:=by
 rw [Sb.val_eq]
 rfl
theorem aw_ok:awC.ok=true:=by
 have h1:awC.sub.may=true:=by
  rw [Sb.may,awSub_val,sz_may key32_sz (by omega) (by omega) (by omega),Bool.and_true,Sb.right_eq]
  show (awC.sub.plain&&true)=true
  rw [Bool.and_true]
  unfold Sb.plain
  show (true&&(true&&keyMay false awK))=true
  rw [awK_may]
  rfl
 have h2:tMay awTg=true:=by
  rw [tMay,awTg_right,awTg_val,sz_may star_sz (by omega) (by omega) (by omega)]
  rfl
 unfold Ct.ok rOk
 rw [h1]
 show (keyMay false awK&&(true&&((if true=true then tMay awTg else _)&&Wd.none.may)))=true
 rw [awK_may,if_pos rfl,h2]
 decide
theorem aw_may:awC.may=true:=by
 have e1:(keyV awC.ks awC.kd).form.length≤80:=key32_sz.2.2.2
 have e2:awC.sub.val.form.length≤80:=by rw [awSub_val];exact key32_sz.2.2.2
 have e3:awC.tag.val.form.length≤12:=by
  show awTg.val.form.length≤12
  rw [awTg_val]
  exact star_sz.2.2.2
 have e4:awC.tag.val.deep≤1:=by
  show awTg.val.deep≤1
  rw [awTg_val]
  exact star_sz.2.2.1
 have e5:awC.tag.val.nodes≤2:=by
  show awTg.val.nodes≤2
  rw [awTg_val]
  exact star_sz.2.1
 have e6:awC.sub.val.nodes≤5:=by rw [awSub_val];exact key32_sz.2.1
 have e7:awC.label.length=0:=rfl
 refine ct_may aw_ok ?_ (fun _=>by omega) (fun _=>by omega) (by omega)
 rw [if_pos (show emptyL awC.label=true from rfl)]
 omega
theorem aw_fit:awC.fit:=by
 refine ⟨by show awK.length≤_;rw [awK_len];omega,Nat.zero_le _,?_,?_,?_,none_64⟩
 ·rw [Sb.fit_eq]
  refine ⟨⟨Nat.zero_le _,Nat.zero_le _,by show awK.length≤_;rw [awK_len];omega,fun n hn=>?_⟩,fun x hx=>?_⟩
  ·cases hn
  ·cases hx
 ·show awTg.wt≤_
  unfold awTg
  rw [Tg.wt_eq]
  exact Nat.le_trans (Nat.le_refl 1) (by omega)
 ·show awTg.nodes≤_
  unfold awTg
  rw [Tg.nodes_eq]
  exact Nat.le_trans (Nat.le_refl 1) (by omega)
theorem aw_C:ctC awC=[.v (.bool false),.sl 32 (List.replicate 32 (bD 0)),.sl 0 [],.v (.int .u8 1),.v (.bool false),.sl 32 (List.replicate 32 (bD 0)),.sl 0 [],.v (.int .i64 0),.sl 0 [],.v (.bool true),.v (.int .u8 1),.sl 0 [],.sl 0 [],.v (.int .u8 0),.v (.bool false),.v (.bool false),.sl 0 [],.v (.bool false),.v (.bool false),.sl 0 [],.v (.bool false),.v (.int .i64 0),.v (.bool false),.v (.int .i64 0)]:=by
 unfold ctC wdC
 rw [show awC.sub= .mk 1 false awK [] 0 [] from rfl,sbC_mk,show awC.tag= .mk 1 [] [] 0 Bd.none Bd.none from rfl,tagC_mk]
 rfl
theorem aw_val: ∃ A P1 P2 P3:Tree,awC.val=listT [A,P1,P2,propT,P3]∧A=atomT wCert:=by
 refine ⟨atomT wCert,pairT wIssuer (issV awC),pairT wSubject awC.sub.val,pairT wTagW awC.tag.val,?_,rfl⟩
 unfold Ct.val restL tailV winL
 rw [if_pos (show emptyL awC.label=true from rfl),if_pos (show awC.dlg=true from rfl),if_pos (show awC.win=Wd.none from rfl)]
 rfl
section
variable {G:Nat→Option (List D)}
theorem awake17_m (hG:G 0=some powD):Spec Tryz.prog G 12 [] (.one (.c (.v (.bool true)))):=by
 have h1:=cput_m (G:=G) hG awC rfl aw_fit
 unfold cputD at h1
 rw [aw_may,if_pos rfl,if_pos rfl,aw_C] at h1
 obtain ⟨A,P1,P2,P3,hv,hA⟩:=aw_val
 have h2:=headref_m (G:=G) awC.val rfl wCert
 have h3:=headref_m (G:=G) propT rfl wProp
 rw [show headB propT wProp=true from by rw [propT,headB_list];decide] at h3
 rw [hv] at h1 h2
 rw [show headB (listT [A,P1,P2,propT,P3]) wCert=true from by rw [hA,headB_list];decide] at h2
 rw [show listT [A,P1,P2,propT,P3]= .mk true false [] [] [A,P1,P2,propT,P3] from rfl,treeC_mk] at h1 h2
 rw [treeC_eq propT] at h3
 clear hv hA
 generalize propT=P at *
 have c5:(((5:Nat):Int)==5)=true:=rfl
 unfold wCert at h2
 unfold wProp at h3
 simp only [bD,bytesD,List.flatMap_cons,List.flatMap_nil,treeC_eq A,treeC_eq P1,treeC_eq P2,treeC_eq P3,treeC_eq P,List.cons_append,List.nil_append,List.append_nil,List.length_cons,List.length_nil,Nat.zero_add,Nat.reduceAdd] at *
 refine spec_of Tryz.func12 rfl rfl rfl (by kernel_rfl) rfl fun K=>?_
 (repeat' (first|with_reducible (first|refine zA fun Kn hK=>?_|refine zU ?_|refine Nx.go ?_|go_step)|refine ⟨none,?_⟩|refine ⟨_,h1,?_⟩|refine ⟨_,h2,?_⟩|refine ⟨_,h3,?_⟩|with_reducible (first|refine zI ?_|refine zV ?_)|simp (maxSteps:=9^9) (disch:=omega) only [wq]|with_reducible refine zM (fun hb=>?_) (fun hb=>?_)<;>try simp only [hb]|with_reducible refine And.intro (by first|omega|(simp;done)|(simp;omega)) ?_|simp (maxSteps:=9^9) -implicitDefEqProofs only [go_sem,c5,decide_true,bne,Bool.not_true,Bool.not_false]))
 all_goals rfl
end
section
variable {G:Nat→Option (List D)}
end
theorem wt_form: ∀ t:Tree,t.clean=true→t.wt≤t.form.length:=by
 refine Tree.ind fun t ih h=>?_
 rw [Tree.clean_eq,Bool.and_eq_true,List.all_eq_true] at h
 rw [Tree.wt_eq,Tree.form_eq]
 split
 ·rename_i hl
  have: ∀ l:List Tree,(∀ x∈l,x.wt≤x.form.length)→(l.map Tree.wt).sum≤(l.map Tree.form).flatten.length:=by
   intro l
   induction l with
   | nil=>simp
   | cons x l ih =>
    intro h
    have h0:=h x (by simp)
    have:=ih fun y hy=>h y (by simp [hy])
    simp only [List.map_cons,List.sum_cons,List.flatten_cons,List.length_append]
    omega
  have:=this t.kids fun x hx=>ih x hx (h.2 x hx)
  have hf:=h.1
  unfold Tree.fair at hf
  rw [if_pos hl] at hf
  simp only [Bool.and_eq_true,beq_iff_eq] at hf
  simp only [List.length_append,List.length_singleton]
  omega
 ·rename_i hl
  have hf:=h.1
  unfold Tree.fair at hf
  rw [if_neg hl] at hf
  simp only [Bool.and_eq_true,beq_iff_eq,Bool.or_eq_true] at hf
  have hk:t.kids=[]:=List.length_eq_zero_iff.1 hf.1
  have hp:=dec_pos t.data.length
  rw [hk]
  unfold Tree.atomF textB
  rcases hf.2 with h2|h2
  ·rw [if_pos h2]
   simp only [List.map_nil,List.sum_nil,List.length_append,List.length_singleton]
   omega
  ·simp only [List.map_nil,List.sum_nil,List.length_append,List.length_singleton]
   omega
theorem may_wt {t:Tree} (h:t.may=true):t.wt≤4096:=by
 simp only [Tree.may,Bool.and_eq_true,decide_eq_true_eq] at h
 have:=wt_form t h.1.1.1
 omega
theorem great_fit {c:Ct} (h:c.great=false) (hw:c.tag.wt≤2000000) (hin:c.win.in64):c.fit:=by
 unfold Ct.great at h
 simp only [Bool.or_eq_false_iff,decide_eq_false_iff_not] at h
 obtain ⟨h1,h2,h3,h4⟩:=h
 exact ⟨by omega,by omega,Sb.fit_of _ 0 h3,hw,great_nodes h4,hin⟩
section
variable {G:Nat→Option (List D)}
theorem ct_law (c:Ct): ∃ a b d k s1 s2 s3 s4 s5 g t0 t1 t2 t3 t4 t5 t6 t7 t8 t9 w0 w1 w2 w3:D,ctC c=[a,b,d,k,s1,s2,s3,s4,s5,g,t0,t1,t2,t3,t4,t5,t6,t7,t8,t9,w0,w1,w2,w3]:=by
 obtain ⟨a,b,d,k,s1,s2,s3,s4,s5,g,t0,t1,t2,t3,t4,t5,t6,t7,t8,t9,w0,w1,w2,w3,h⟩:=ct_lit c
 exact ⟨_,_,_,_,_,_,_,_,_,_,_,_,_,_,_,_,_,_,_,_,_,_,_,_,h⟩
theorem long17_m (c:Ct) (hf:c.fit) (hok:c.ok=true) {cs:List D} (hcs:ctC c=cs):Spec Tryz.prog G 33 [.g cs] (.one (.c (.v (.bool (longC c))))):=by
 subst hcs
 obtain ⟨o1,o2,o3,o4⟩:=okC hok
 have f1:=hf.kd
 have f2:=hf.label
 have f3:=hf.wt
 have f4:=hf.nodes
 rw [Sb.may,Bool.and_eq_true] at o2
 have hkw:(keyV c.ks c.kd).wt≤6000:=by
  have ho:=out_wt (s:=c.ks) (d:=c.kd)
  rw [keyOut,if_pos o1] at ho
  omega
 have hsw:=sval_wt hf.sub o2.1
 have hT:Spec Tryz.prog G 50 [.g (tagC c.tag)] (.one (.g (treeC c.tag.val)))∧c.tag.val.wt≤2100000∧c.tag.val.clean=true:=by
  refine ⟨?_,?_,tagV_clean _⟩
  ·unfold rOk at o3
   cases hl:emptyL c.label with
   | true =>
    rw [hl,if_pos rfl,tMay,Bool.and_eq_true] at o3
    exact rvalue12_m c.tag _ rfl (by omega) o3.1
   | false =>
    rw [hl,if_neg (by decide)] at o3
    simp only [Bool.and_eq_true,isZ_iff] at o3
    rw [o3.2.1]
    exact rvalue0_m
  ·have:=val_wt c.tag
   omega
 obtain ⟨hT1,hT2,hT3⟩:=hT
 have v1:=value_m (G:=G) c.ks c.kd (by omega)
 have v2:=rsvalue_m (G:=G) c.sub _ 1 rfl o2.1
 have g1:=form_m (G:=G) (keyV c.ks c.kd) _ rfl (by omega)
 have g2:=form_m (G:=G) c.sub.val _ rfl (by omega)
 have g3:=form_m (G:=G) c.tag.val _ rfl (by omega)
 have d1:=deep17_m (G:=G) c.tag.val _ rfl (by omega) hT3
 have n1:=nodes17_m (G:=G) c.tag.val _ rfl (by omega)
 have n2:=nodes17_m (G:=G) c.sub.val _ rfl (by omega)
 have b1:=Tree.form_wt (keyV c.ks c.kd) (by omega)
 have b2:=Tree.form_wt c.sub.val (by omega)
 have b3:=Tree.form_wt c.tag.val (by omega)
 have b4:=c.tag.val.deep_wt
 have b5:=c.tag.val.nodes_wt
 have b6:=c.sub.val.nodes_wt
 have n0:=len0_empty c.label
 have hL:longC c=(decide (3800<(keyV c.ks c.kd).form.length+c.label.length+c.sub.val.form.length+(if emptyL c.label=true then c.tag.val.form.length else 0))||(decide (14<c.tag.val.deep)||decide (480<c.tag.val.nodes+c.sub.val.nodes))):=rfl
 rw [hL]
 clear hL o1 o2 o3 o4 hok hf
 obtain ⟨s1,s2,s3,s4,s5,hs⟩:=sb_cells c.sub
 obtain ⟨t0,t1,t2,t3,t4,t5,t6,t7,t8,t9,ht⟩:=tag_cells c.tag
 have hct:ctC c=[.v (.bool c.ks),bytesD c.kd,bytesD c.label,.v (.int .u8 (c.sub.kind.toNat:Int)),s1,s2,s3,s4,s5,.v (.bool c.dlg),t0,t1,t2,t3,t4,t5,t6,t7,t8,t9,.v (.bool c.win.aft),.v (.int .i64 c.win.frm),.v (.bool c.win.unt),.v (.int .i64 c.win.to)]:=by
  unfold ctC wdC
  rw [hs,ht]
  rfl
 rw [hs] at v2
 rw [ht] at hT1
 rw [hct]
 clear hs ht hct
 generalize keyV c.ks c.kd=KV at *
 generalize c.sub.val=SV at *
 generalize c.tag.val=TV at *
 generalize hFK:KV.form=FK at *
 generalize hFS:SV.form=FS at *
 generalize hFT:TV.form=FT at *
 have q2:decide ((TV.deep:Int)>14)=decide (14<TV.deep):=by rw [decide_eq_decide];omega
 have q3:decide ((TV.nodes:Int)+(SV.nodes:Int)>480)=decide (480<TV.nodes+SV.nodes):=by rw [decide_eq_decide];omega
 generalize decide (14<TV.deep)=z2 at *
 generalize decide (480<TV.nodes+SV.nodes)=z3 at *
 rw [treeC_eq KV] at v1 g1
 rw [treeC_eq SV] at v2 g2 n2
 rw [treeC_eq TV] at hT1 g3 d1 n1
 cases hl:emptyL c.label with
 | true =>
  rw [hl] at n0
  rw [if_pos rfl]
  have hl0:c.label.length=0:=by rw [emptyL_iff] at hl;rw [hl];rfl
  have q1:decide ((FK.length:Int)+(c.label.length:Int)+(FS.length:Int)+(FT.length:Int)>3800)=decide (3800<FK.length+c.label.length+FS.length+FT.length):=by rw [decide_eq_decide];omega
  generalize decide (3800<FK.length+c.label.length+FS.length+FT.length)=z1 at *
  clear hl hl0
  simp only [keyC,bD,bytesD] at *
  cases z1<;>cases z2
  all_goals
   refine spec_of Tryz.func33 rfl rfl rfl (by kernel_rfl) rfl fun K=>?_
   (repeat' (first|with_reducible (first|refine zA fun Kn hK=>?_|refine zU ?_|refine Nx.go ?_|go_step)|refine ⟨_,v1,?_⟩|refine ⟨_,v2,?_⟩|refine ⟨_,hT1,?_⟩|refine ⟨_,g1,?_⟩|refine ⟨_,g2,?_⟩|refine ⟨_,g3,?_⟩|refine ⟨_,d1,?_⟩|refine ⟨_,n1,?_⟩|refine ⟨_,n2,?_⟩|with_reducible (first|refine zI ?_|refine zV ?_)|simp (maxSteps:=9^9) (disch:=omega) only [wq]|with_reducible refine zM (fun hb=>?_) (fun hb=>?_)<;>try simp only [hb]|with_reducible refine And.intro (by first|omega|(simp;done)|(simp;omega)) ?_|simp (maxSteps:=9^9) -implicitDefEqProofs only [go_sem,n0,q1,q2,q3,List.length_map,decide_true,bne,Bool.not_true,Bool.not_false]))
   all_goals rfl
 | false =>
  rw [hl] at n0
  rw [if_neg (by decide),Nat.add_zero]
  have q1:decide ((FK.length:Int)+(c.label.length:Int)+(FS.length:Int)>3800)=decide (3800<FK.length+c.label.length+FS.length):=by rw [decide_eq_decide];omega
  generalize decide (3800<FK.length+c.label.length+FS.length)=z1 at *
  clear hl
  simp only [keyC,bD,bytesD] at *
  cases z1<;>cases z2
  all_goals
   refine spec_of Tryz.func33 rfl rfl rfl (by kernel_rfl) rfl fun K=>?_
   (repeat' (first|with_reducible (first|refine zA fun Kn hK=>?_|refine zU ?_|refine Nx.go ?_|go_step)|refine ⟨_,v1,?_⟩|refine ⟨_,v2,?_⟩|refine ⟨_,hT1,?_⟩|refine ⟨_,g1,?_⟩|refine ⟨_,g2,?_⟩|refine ⟨_,g3,?_⟩|refine ⟨_,d1,?_⟩|refine ⟨_,n1,?_⟩|refine ⟨_,n2,?_⟩|with_reducible (first|refine zI ?_|refine zV ?_)|simp (maxSteps:=9^9) (disch:=omega) only [wq]|with_reducible refine zM (fun hb=>?_) (fun hb=>?_)<;>try simp only [hb]|with_reducible refine And.intro (by first|omega|(simp;done)|(simp;omega)) ?_|simp (maxSteps:=9^9) -implicitDefEqProofs only [go_sem,n0,q1,q2,q3,List.length_map,decide_true,bne,Bool.not_true,Bool.not_false]))
   all_goals rfl
end
end Go.Proofs.YtfammdfpgccnfaaGreatDoor
