/- Parts of the proof, laid together. -/
import Derived.Test.YtfammdfpgccnfaaGreatDoorG8
import Derived.Deep.Slices
import Derived.ProofKit
import Derived.OpenShut
import Derived.ShutString
import Derived.ChangeOld
import Derived.Test.YtfammdfpgccnfaaGreatDoorRows
import Derived.Test.YtfammdfpgccnfaaGreatDoorCards
import Derived.Test.YtfammdfpgccnfaaGreatDoorTie
import Derived.WalkKit
import Derived.Deep.DeepHandedRow
import Derived.Lib.LaidTab
import Derived.Stop.LaidErr
import Derived.PinnedBridge
set_option linter.unusedVariables false
set_option linter.unusedSimpArgs false
set_option maxRecDepth 100000
set_option maxHeartbeats 8000000
namespace Go.Proofs.YtfammdfpgccnfaaGreatDoor
open Go.RowKit
@[go_sem] def enO (cs:List D):AObj:=⟨54,cs.map C.d,true,false⟩
theorem en_zero:enC En.none=[.v (.int .u8 0),.v (.bool false),.sl 0 [],.sl 0 [],.v (.int .i64 0),.sl 0 [],.v (.bool false),.v (.int .u8 0),.sl 0 [],.sl 0 [],.v (.int .u8 0),.v (.bool false),.v (.bool false),.sl 0 [],.v (.bool false),.v (.bool false),.sl 0 [],.v (.bool false),.v (.int .i64 0),.v (.bool false),.v (.int .i64 0)]:=by
 unfold enC wdC
 rw [show En.none.sub= .mk 0 false [] [] 0 [] from rfl,sbC_mk,show En.none.tag=zeroTg from rfl,zeroTg_C]
 rfl
theorem en_mk {sub:Sb} {tag:Tg} {s0 s1 s2 s3 s4 s5 t0 t1 t2 t3 t4 t5 t6 t7 t8 t9:D} (hs:sbC sub=[s0,s1,s2,s3,s4,s5]) (ht:tagC tag=[t0,t1,t2,t3,t4,t5,t6,t7,t8,t9]) (dlg:Bool) (win:Wd) :
  enC ⟨sub,dlg,tag,win⟩=[s0,s1,s2,s3,s4,s5,.v (.bool dlg),t0,t1,t2,t3,t4,t5,t6,t7,t8,t9,.v (.bool win.aft),.v (.int .i64 win.frm),.v (.bool win.unt),.v (.int .i64 win.to)]:=by
 unfold enC wdC
 dsimp only
 rw [hs,ht]
 rfl
theorem sb6 (s:Sb): ∃ a b c d e f:D,sbC s=[a,b,c,d,e,f]:=⟨_,_,_,_,_,_,sbC_eq s⟩
section
variable {G:Nat→Option (List D)}
theorem aread_m (hG:G 0=some powD) (v:Tree) {cs:List D} (hcs:treeC v=cs) (hw:v.wt≤30000000) (hc:v.clean=true):Spec Tryz.prog G 57 [.g cs] (.one (.g (enC (readE v)))):=by
 subst hcs
 have hkw: ∀ x∈v.kids,x.wt<v.wt:=fun x hx=>Tree.wt_kid hx
 have h5:=v.wt_kids
 have hrd:readE v=v.kids.foldl stepE En.none:=rfl
 obtain ⟨RC,hRC⟩: ∃ RC,enC (readE v)=RC:=⟨_,rfl⟩
 rw [hRC]
 have g2: ∀ x:Tree,x.wt≤30000000→Spec Tryz.prog G 99 [.g (treeC x)] (sbgetD x):=fun x hx=>sbget_m hG x rfl hx
 have g4: ∀ x:Tree,x.wt≤30000000→Spec Tryz.prog G 100 [.g (treeC x)] (.many [.g (tagC ((getTg x).getD zeroTg)),.c (.v (.int .i64 (if (getTg x).isSome=true then 0 else 13)))]):=fun x hx=>by
  have:=tget_m (G:=G) hG x rfl hx
  rwa [getO_at] at this
 have g5: ∀ x:Tree,x∈v.kids→Spec Tryz.prog G 98 [.g (treeC x)] (wgetR (getR x)):=fun x hx=>wget_m x rfl (by have:=hkw x hx;omega) (kid_clean' hc hx)
 rw [treeC_eq v]
 simp only [bD,bytesD]
 refine spec_of Tryz.func57 rfl rfl rfl (by kernel_rfl) rfl fun K=>?_
 (repeat' (first|with_reducible (first|refine zA fun Kn hK=>?_|refine zU ?_|refine Nx.go ?_|go_step)|with_reducible (first|refine zI ?_|refine zV ?_)|simp (maxSteps:=9^9) (disch:=omega) only [wq]|with_reducible refine zM (fun hb=>?_) (fun hb=>?_)<;>try simp only [hb]|with_reducible refine And.intro (by first|omega|(simp;done)|(simp;omega)) ?_|simp (maxSteps:=9^9) -implicitDefEqProofs only [go_sem,true_and]))
 refine sound_dataO 3 (by rfl) (by decide) (by rfl) ?_
 refine sound_loopR (fun x:{k:Nat // k≤v.kids.length}=>⟨[(1,vP 1 0),(2,vP 2 0),(3,vP 3 0),(7,vD (.sl v.kids.length (v.kids.flatMap treeC))),(8,vI v.kids.length),(9,vI x.1)],[(1,some ⟨45,treeK v,true,false⟩),(2,some ⟨54,zeroOf Tryz.prog 54,true,false⟩),(3,some (enO (enC ((v.kids.take x.1).foldl stepE En.none))))]⟩) (fun x=>v.kids.length-x.1) ⟨0,by omega⟩ [] (by (iterate 2 ((try simp (maxSteps:=9^9) -implicitDefEqProofs only [go_sem,bD,bytesD,List.take_zero,List.foldl_nil,en_zero,datC_nil,datC_d]);(try simp (maxSteps:=9^9) (disch:=omega) only [wq])));try simp) (fun ⟨k,hk⟩=>?_)
 by_cases hlt:k<v.kids.length
 ·obtain ⟨x,hx⟩: ∃ x,v.kids[k]?=some x:=⟨_,List.getElem?_eq_getElem hlt⟩
  have hb:decide ((k:Int)<(v.kids.length:Int))=true:=by simpa using hlt
  have hf:=flat_at treeC_len hx
  have hm:=List.mem_of_getElem? hx
  have hxw:=hkw x hm
  have ht:(v.kids.take (k+1)).foldl stepE En.none=stepE ((v.kids.take k).foldl stepE En.none) x:=by
   rw [List.take_add_one,hx,List.foldl_append]
   rfl
  generalize (v.kids.take k).foldl stepE En.none=e at *
  obtain ⟨sub,dlg,tag,win⟩:=e
  obtain ⟨s0,s1,s2,s3,s4,s5,hs⟩:=sb6 sub
  obtain ⟨t0,t1,t2,t3,t4,t5,t6,t7,t8,t9,htg⟩:=tag_cells tag
  have g5:=g5 x hm
  unfold wgetR wdC at g5
  have hst:stepE ⟨sub,dlg,tag,win⟩ x=match x.kids with
   | []=>⟨sub,dlg,tag,win⟩
   | a :: r=>if a.data=wProp then ⟨sub,true,tag,win⟩
    else if a.data=wValid then ⟨sub,dlg,tag,(getR x).getD Wd.none⟩
    else match r with
     | [b]=>if a.data=wSubject then ⟨(getSb b).getD Sb.none,dlg,tag,win⟩ else ⟨sub,dlg,(getTg b).getD zeroTg,win⟩
     | _=>⟨sub,dlg,tag,win⟩:=rfl
  rw [hst] at ht
  clear hst hrd hRC
  have hdw: ∀ y∈x.kids,y.wt≤30000000∧y.data.length≤30000000:=fun y hy=>by
   have:=Tree.wt_kid hy
   have:=y.wt_data
   exact ⟨by omega,by omega⟩
  generalize (if (getR x).isSome=true then (0:Int) else 11)=E5 at *
  generalize (getR x).getD Wd.none=W5 at *
  rw [treeC_eq x] at hf g5
  rw [en_mk hs htg]
  generalize x.kids=L at *
  match L with
  | [] =>
   have k0:(((0:Nat):Int)==0)=true:=rfl
   dsimp only at ht
   rw [List.length_nil,List.flatMap_nil] at hf g5
   simp only [bD,bytesD] at hf g5
   clear g2 g4 hdw
   (repeat' (first|with_reducible (first|refine zA fun Kn hK=>?_|refine zU ?_|refine Nx.go ?_|go_step)|(refine ⟨[],⟨k+1,hlt⟩,?_⟩;rw [ht,en_mk hs htg])|with_reducible (first|refine zI ?_|refine zV ?_)|simp (maxSteps:=9^9) (disch:=omega) only [wq]|with_reducible refine zM (fun hb=>?_) (fun hb=>?_)<;>try simp only [hb]|with_reducible refine And.intro (by first|omega|(simp;done)|(simp;omega)) ?_|simp (maxSteps:=9^9) -implicitDefEqProofs only [go_sem,hb,hf,k0,decide_true,bne,Bool.not_true,Bool.not_false]))
   all_goals first|omega|(simp only [ijq,true_and,and_true];first|done|omega|(split<;>omega)|(simp;done)|(simp;omega))
  | [a] =>
   have k0:(((1:Nat):Int)==0)=false:=rfl
   have k2:(((1:Nat):Int)==2)=false:=rfl
   have da:=(hdw a (by simp)).2
   have e1:=word_eq a.data wProp
   have e2:=word_eq a.data wValid
   have e3:=word_eq a.data wSubject
   dsimp only at ht
   rw [List.flatMap_cons,List.flatMap_nil,List.append_nil,List.length_cons,List.length_nil] at hf g5
   rw [treeC_eq a] at hf g5
   simp only [bD,bytesD,List.cons_append,List.nil_append,Nat.zero_add,Nat.reduceAdd] at hf g5
   by_cases c1:a.data=wProp
   ·rw [decide_eq_true c1] at e1
    rw [if_pos c1] at ht
    clear g2 g4 g5 e2 e3 c1 hdw
    unfold wProp at *
    (repeat' (first|with_reducible (first|refine zA fun Kn hK=>?_|refine zU ?_|refine Nx.go ?_|go_step)|(refine ⟨[],⟨k+1,hlt⟩,?_⟩;rw [ht,en_mk hs htg])|with_reducible (first|refine zI ?_|refine zV ?_)|simp (maxSteps:=9^9) (disch:=omega) only [wq]|with_reducible refine zM (fun hb=>?_) (fun hb=>?_)<;>try simp only [hb]|with_reducible refine And.intro (by first|omega|(simp;done)|(simp;omega)) ?_|simp (maxSteps:=9^9) -implicitDefEqProofs only [go_sem,hb,hf,k0,k2,e1,decide_true,bne,Bool.not_true,Bool.not_false]))
    all_goals first|omega|(simp only [ijq,true_and,and_true];first|done|omega|(split<;>omega)|(simp;done)|(simp;omega))
   rw [decide_eq_false c1] at e1
   rw [if_neg c1] at ht
   by_cases c2:a.data=wValid
   ·rw [decide_eq_true c2] at e2
    rw [if_pos c2] at ht
    clear g2 g4 e3 c1 c2 hdw
    unfold wProp wValid at *
    (repeat' (first|with_reducible (first|refine zA fun Kn hK=>?_|refine zU ?_|refine Nx.go ?_|go_step)|refine ⟨_,g5,?_⟩|(refine ⟨[],⟨k+1,hlt⟩,?_⟩;rw [ht,en_mk hs htg])|with_reducible (first|refine zI ?_|refine zV ?_)|simp (maxSteps:=9^9) (disch:=omega) only [wq]|with_reducible refine zM (fun hb=>?_) (fun hb=>?_)<;>try simp only [hb]|with_reducible refine And.intro (by first|omega|(simp;done)|(simp;omega)) ?_|simp (maxSteps:=9^9) -implicitDefEqProofs only [go_sem,hb,hf,k0,k2,e1,e2,decide_true,bne,Bool.not_true,Bool.not_false]))
    all_goals first|omega|(simp only [ijq,true_and,and_true];first|done|omega|(split<;>omega)|(simp;done)|(simp;omega))
   rw [decide_eq_false c2] at e2
   rw [if_neg c2] at ht
   clear g2 g4 g5 c1 c2 hdw
   generalize decide (a.data=wSubject)=z3 at *
   unfold wProp wValid wSubject at *
   (repeat' (first|with_reducible (first|refine zA fun Kn hK=>?_|refine zU ?_|refine Nx.go ?_|go_step)|(refine ⟨[],⟨k+1,hlt⟩,?_⟩;rw [ht,en_mk hs htg])|with_reducible (first|refine zI ?_|refine zV ?_)|simp (maxSteps:=9^9) (disch:=omega) only [wq]|with_reducible refine zM (fun hb=>?_) (fun hb=>?_)<;>try simp only [hb]|with_reducible refine And.intro (by first|omega|(simp;done)|(simp;omega)) ?_|simp (maxSteps:=9^9) -implicitDefEqProofs only [go_sem,hb,hf,k0,k2,e1,e2,decide_true,bne,Bool.not_true,Bool.not_false]))
   all_goals first|omega|(simp only [ijq,true_and,and_true];first|done|omega|(split<;>omega)|(simp;done)|(simp;omega))
  | [a,b] =>
   have k0:(((2:Nat):Int)==0)=false:=rfl
   have k2:(((2:Nat):Int)==2)=true:=rfl
   have da:=(hdw a (by simp)).2
   have wb:=(hdw b (by simp)).1
   have e1:=word_eq a.data wProp
   have e2:=word_eq a.data wValid
   have e3:=word_eq a.data wSubject
   dsimp only at ht
   rw [List.flatMap_cons,List.flatMap_cons,List.flatMap_nil,List.append_nil,List.length_cons,List.length_cons,List.length_nil] at hf g5
   rw [treeC_eq a] at hf g5
   rw [treeC_eq b] at hf g5
   simp only [bD,bytesD,List.cons_append,List.nil_append,Nat.zero_add,Nat.reduceAdd] at hf g5
   by_cases c1:a.data=wProp
   ·rw [decide_eq_true c1] at e1
    rw [if_pos c1] at ht
    clear g2 g4 g5 e2 e3 c1 hdw
    unfold wProp at *
    (repeat' (first|with_reducible (first|refine zA fun Kn hK=>?_|refine zU ?_|refine Nx.go ?_|go_step)|(refine ⟨[],⟨k+1,hlt⟩,?_⟩;rw [ht,en_mk hs htg])|with_reducible (first|refine zI ?_|refine zV ?_)|simp (maxSteps:=9^9) (disch:=omega) only [wq]|with_reducible refine zM (fun hb=>?_) (fun hb=>?_)<;>try simp only [hb]|with_reducible refine And.intro (by first|omega|(simp;done)|(simp;omega)) ?_|simp (maxSteps:=9^9) -implicitDefEqProofs only [go_sem,hb,hf,k0,k2,e1,decide_true,bne,Bool.not_true,Bool.not_false]))
    all_goals first|omega|(simp only [ijq,true_and,and_true];first|done|omega|(split<;>omega)|(simp;done)|(simp;omega))
   rw [decide_eq_false c1] at e1
   rw [if_neg c1] at ht
   by_cases c2:a.data=wValid
   ·rw [decide_eq_true c2] at e2
    rw [if_pos c2] at ht
    clear g2 g4 e3 c1 c2 hdw
    unfold wProp wValid at *
    (repeat' (first|with_reducible (first|refine zA fun Kn hK=>?_|refine zU ?_|refine Nx.go ?_|go_step)|refine ⟨_,g5,?_⟩|(refine ⟨[],⟨k+1,hlt⟩,?_⟩;rw [ht,en_mk hs htg])|with_reducible (first|refine zI ?_|refine zV ?_)|simp (maxSteps:=9^9) (disch:=omega) only [wq]|with_reducible refine zM (fun hb=>?_) (fun hb=>?_)<;>try simp only [hb]|with_reducible refine And.intro (by first|omega|(simp;done)|(simp;omega)) ?_|simp (maxSteps:=9^9) -implicitDefEqProofs only [go_sem,hb,hf,k0,k2,e1,e2,decide_true,bne,Bool.not_true,Bool.not_false]))
    all_goals first|omega|(simp only [ijq,true_and,and_true];first|done|omega|(split<;>omega)|(simp;done)|(simp;omega))
   rw [decide_eq_false c2] at e2
   rw [if_neg c2] at ht
   by_cases c3:a.data=wSubject
   ·rw [decide_eq_true c3] at e3
    rw [if_pos c3] at ht
    have g2:=g2 b wb
    unfold sbgetD at g2
    generalize (if (getSb b).isSome=true then (0:Int) else 7)=E2 at *
    generalize (getSb b).getD Sb.none=U at *
    obtain ⟨u0,u1,u2,u3,u4,u5,hu⟩:=sb6 U
    rw [hu,treeC_eq b] at g2
    simp only [bD,bytesD] at g2
    clear g4 g5 c1 c2 c3 hdw
    unfold wProp wValid wSubject at *
    (repeat' (first|with_reducible (first|refine zA fun Kn hK=>?_|refine zU ?_|refine Nx.go ?_|go_step)|refine ⟨_,g2,?_⟩|(refine ⟨[],⟨k+1,hlt⟩,?_⟩;rw [ht,en_mk hu htg])|with_reducible (first|refine zI ?_|refine zV ?_)|simp (maxSteps:=9^9) (disch:=omega) only [wq]|with_reducible refine zM (fun hb=>?_) (fun hb=>?_)<;>try simp only [hb]|with_reducible refine And.intro (by first|omega|(simp;done)|(simp;omega)) ?_|simp (maxSteps:=9^9) -implicitDefEqProofs only [go_sem,hb,hf,k0,k2,e1,e2,e3,decide_true,bne,Bool.not_true,Bool.not_false]))
    all_goals first|omega|(simp only [ijq,true_and,and_true];first|done|omega|(split<;>omega)|(simp;done)|(simp;omega))
   ·rw [decide_eq_false c3] at e3
    rw [if_neg c3] at ht
    have g4:=g4 b wb
    generalize (if (getTg b).isSome=true then (0:Int) else 13)=E4 at *
    generalize (getTg b).getD zeroTg=U at *
    obtain ⟨u0,u1,u2,u3,u4,u5,u6,u7,u8,u9,hu⟩:=tag_cells U
    rw [hu,treeC_eq b] at g4
    simp only [bD,bytesD] at g4
    clear g2 g5 c1 c2 c3 hdw
    unfold wProp wValid wSubject at *
    (repeat' (first|with_reducible (first|refine zA fun Kn hK=>?_|refine zU ?_|refine Nx.go ?_|go_step)|refine ⟨_,g4,?_⟩|(refine ⟨[],⟨k+1,hlt⟩,?_⟩;rw [ht,en_mk hs hu])|with_reducible (first|refine zI ?_|refine zV ?_)|simp (maxSteps:=9^9) (disch:=omega) only [wq]|with_reducible refine zM (fun hb=>?_) (fun hb=>?_)<;>try simp only [hb]|with_reducible refine And.intro (by first|omega|(simp;done)|(simp;omega)) ?_|simp (maxSteps:=9^9) -implicitDefEqProofs only [go_sem,hb,hf,k0,k2,e1,e2,e3,decide_true,bne,Bool.not_true,Bool.not_false]))
    all_goals first|omega|(simp only [ijq,true_and,and_true];first|done|omega|(split<;>omega)|(simp;done)|(simp;omega))
  | a :: b::c::m =>
   have k0:(((m.length+1+1+1:Nat):Int)==0)=false:=by rw [beq_eq_false_iff_ne];omega
   have k2:(((m.length+1+1+1:Nat):Int)==2)=false:=by rw [beq_eq_false_iff_ne];omega
   have da:=(hdw a (by simp)).2
   have e1:=word_eq a.data wProp
   have e2:=word_eq a.data wValid
   have e3:=word_eq a.data wSubject
   dsimp only at ht
   rw [List.flatMap_cons,List.flatMap_cons,List.flatMap_cons,List.length_cons,List.length_cons,List.length_cons] at hf g5
   rw [treeC_eq a] at hf g5
   rw [treeC_eq b] at hf g5
   rw [treeC_eq c] at hf g5
   simp only [bD,bytesD,List.cons_append,List.nil_append,Nat.zero_add,Nat.reduceAdd] at hf g5
   by_cases c1:a.data=wProp
   ·rw [decide_eq_true c1] at e1
    rw [if_pos c1] at ht
    clear g2 g4 g5 e2 e3 c1 hdw
    unfold wProp at *
    (repeat' (first|with_reducible (first|refine zA fun Kn hK=>?_|refine zU ?_|refine Nx.go ?_|go_step)|(refine ⟨[],⟨k+1,hlt⟩,?_⟩;rw [ht,en_mk hs htg])|with_reducible (first|refine zI ?_|refine zV ?_)|simp (maxSteps:=9^9) (disch:=omega) only [wq]|with_reducible refine zM (fun hb=>?_) (fun hb=>?_)<;>try simp only [hb]|with_reducible refine And.intro (by first|omega|(simp;done)|(simp;omega)) ?_|simp (maxSteps:=9^9) -implicitDefEqProofs only [go_sem,hb,hf,k0,k2,e1,decide_true,bne,Bool.not_true,Bool.not_false]))
    all_goals first|omega|(simp only [ijq,true_and,and_true];first|done|omega|(split<;>omega)|(simp;done)|(simp;omega))
   rw [decide_eq_false c1] at e1
   rw [if_neg c1] at ht
   by_cases c2:a.data=wValid
   ·rw [decide_eq_true c2] at e2
    rw [if_pos c2] at ht
    clear g2 g4 e3 c1 c2 hdw
    unfold wProp wValid at *
    (repeat' (first|with_reducible (first|refine zA fun Kn hK=>?_|refine zU ?_|refine Nx.go ?_|go_step)|refine ⟨_,g5,?_⟩|(refine ⟨[],⟨k+1,hlt⟩,?_⟩;rw [ht,en_mk hs htg])|with_reducible (first|refine zI ?_|refine zV ?_)|simp (maxSteps:=9^9) (disch:=omega) only [wq]|with_reducible refine zM (fun hb=>?_) (fun hb=>?_)<;>try simp only [hb]|with_reducible refine And.intro (by first|omega|(simp;done)|(simp;omega)) ?_|simp (maxSteps:=9^9) -implicitDefEqProofs only [go_sem,hb,hf,k0,k2,e1,e2,decide_true,bne,Bool.not_true,Bool.not_false]))
    all_goals first|omega|(simp only [ijq,true_and,and_true];first|done|omega|(split<;>omega)|(simp;done)|(simp;omega))
   rw [decide_eq_false c2] at e2
   rw [if_neg c2] at ht
   clear g2 g4 g5 c1 c2 hdw
   unfold wProp wValid wSubject at *
   (repeat' (first|with_reducible (first|refine zA fun Kn hK=>?_|refine zU ?_|refine Nx.go ?_|go_step)|(refine ⟨[],⟨k+1,hlt⟩,?_⟩;rw [ht,en_mk hs htg])|with_reducible (first|refine zI ?_|refine zV ?_)|simp (maxSteps:=9^9) (disch:=omega) only [wq]|with_reducible refine zM (fun hb=>?_) (fun hb=>?_)<;>try simp only [hb]|with_reducible refine And.intro (by first|omega|(simp;done)|(simp;omega)) ?_|simp (maxSteps:=9^9) -implicitDefEqProofs only [go_sem,hb,hf,k0,k2,e1,e2,decide_true,bne,Bool.not_true,Bool.not_false]))
   all_goals first|omega|(simp only [ijq,true_and,and_true];first|done|omega|(split<;>omega)|(simp;done)|(simp;omega))
 ·have hb:decide ((k:Int)<(v.kids.length:Int))=false:=by simpa using hlt
  obtain rfl:k=v.kids.length:=by omega
  simp only [List.take_length]
  rw [← hrd]
  generalize readE v=r at *
  obtain ⟨s0,s1,s2,s3,s4,s5,t0,t1,t2,t3,t4,t5,t6,t7,t8,t9,_,_,hlit⟩:=en_lit r
  rw [hlit] at hRC ⊢
  clear g2 g4 g5 hrd hkw
  (repeat' (first|with_reducible (first|refine zA fun Kn hK=>?_|refine zU ?_|refine Nx.go ?_|go_step)|with_reducible (first|refine zI ?_|refine zV ?_)|simp (maxSteps:=9^9) (disch:=omega) only [wq]|with_reducible refine zM (fun hb=>?_) (fun hb=>?_)<;>try simp only [hb]|with_reducible refine And.intro (by first|omega|(simp;done)|(simp;omega)) ?_|simp (maxSteps:=9^9) -implicitDefEqProofs only [go_sem,hb,decide_true]))
  all_goals (rw [← hRC];try rfl)
end
structure En.sm (B:Nat) (e:En):Prop where
 fit:e.fit
 sub:e.sub.may=true→e.sub.val.wt≤B
 tag:tMay e.tag=true→e.tag.val.wt≤B
theorem noneSb_may:Sb.none.may=false:=by
 rw [Sb.may,show Sb.none.right 1=false from by rw [Sb.right_eq];rfl]
 rfl
theorem zeroTg_wt:zeroTg.val.wt=1:=by
 rw [show zeroTg.val=listT [] from by unfold zeroTg;rw [val_of];rfl,wt_listT]
 rfl
theorem enNone_sm (B:Nat) (hB:1≤B):En.sm B En.none:=by
 refine ⟨⟨noneSb_fit,?_,?_,none_64⟩,fun h=>?_,fun _=>?_⟩
 ·show zeroTg.wt≤_
  rw [zeroTg_sz.1]
  omega
 ·show zeroTg.nodes≤_
  rw [zeroTg_sz.2]
  omega
 ·rw [show En.none.sub=Sb.none from rfl,noneSb_may] at h
  cases h
 ·show zeroTg.val.wt≤B
  rw [zeroTg_wt]
  exact hB
theorem stepE_sm {B:Nat} {e:En} {x:Tree} (h:En.sm B e) (hs:x.clean=true) (hw:x.wt≤B) (hB:B≤2000000):En.sm B (stepE e x):=by
 have hkw: ∀ y∈x.kids,y.wt<x.wt:=fun y hy=>Tree.wt_kid hy
 unfold stepE
 split
 ·exact h
 ·rename_i a r hk
  split
  ·exact ⟨⟨h.fit.sub,h.fit.wt,h.fit.nodes,h.fit.win⟩,h.sub,h.tag⟩
  split
  ·refine ⟨⟨h.fit.sub,h.fit.wt,h.fit.nodes,?_⟩,h.sub,h.tag⟩
   show ((getR x).getD Wd.none).in64
   cases hg:getR x with
   | none=>exact none_64
   | some w=>exact may_64 (getR_of hs hg).1
  split
  ·rename_i b
   have hb:=hkw b (by rw [hk];simp)
   split
   ·refine ⟨⟨?_,h.fit.wt,h.fit.nodes,h.fit.win⟩,?_,h.tag⟩
    ·show ((getSb b).getD Sb.none).fit
     cases hg:getSb b with
     | none=>exact noneSb_fit
     | some s=>exact getSb_fit hg
    ·show ((getSb b).getD Sb.none).may=true→((getSb b).getD Sb.none).val.wt≤B
     cases hg:getSb b with
     | none =>
      rw [Option.getD_none,noneSb_may]
      intro h
      cases h
     | some s =>
      intro _
      rw [Option.getD_some,(getSb_of hg).2]
      omega
   ·have hz:=zeroTg_sz
    refine ⟨⟨h.fit.sub,?_,?_,h.fit.win⟩,h.sub,?_⟩
    ·show ((getTg b).getD zeroTg).wt≤_
     cases hg:getTg b with
     | none=>show zeroTg.wt≤_;omega
     | some t=>have:=getTg_sz hg;show t.wt≤_;omega
    ·show ((getTg b).getD zeroTg).nodes≤_
     cases hg:getTg b with
     | none=>show zeroTg.nodes≤_;omega
     | some t=>have:=getTg_sz hg;show t.nodes≤_;omega
    ·show tMay ((getTg b).getD zeroTg)=true→((getTg b).getD zeroTg).val.wt≤B
     intro _
     cases hg:getTg b with
     | none =>
      rw [Option.getD_none,zeroTg_wt]
      have:1≤x.wt:=by rw [Tree.wt_eq];omega
      omega
     | some t =>
      rw [Option.getD_some,(getTg_of hg).2]
      omega
  ·exact h
theorem readE_sm {B:Nat}: ∀ (l:List Tree) (e:En),En.sm B e→(∀ x∈l,x.clean=true∧x.wt≤B)→B≤2000000→En.sm B (l.foldl stepE e)
 | [],e,h,_,_=>h
 | x::l,e,h,hl,hB=>readE_sm l _ (stepE_sm h (hl x (by simp)).1 (hl x (by simp)).2 hB) (fun y hy=>hl y (by simp [hy])) hB
theorem enV_sm {B:Nat} {e:En} (h:En.sm B e) (hB:1≤B):(enV e).wt≤2*B+250:=by
 have a4:=winV_wt e.win
 have s1:(if e.sub.may=true then e.sub.val else zeroT).wt≤B:=by
  split
  ·rename_i hh
   exact h.sub hh
  ·rw [zeroT_wt];omega
 have t1:(if tMay e.tag=true then e.tag.val else zeroT).wt≤B:=by
  split
  ·rename_i hh
   exact h.tag hh
  ·rw [zeroT_wt];omega
 have w1:((winO e.win).map Tree.wt).sum≤101:=by
  unfold winO
  split
  ·simp
  ·rw [List.map_cons,List.map_nil,List.sum_cons,List.sum_nil]
   split
   ·omega
   ·rw [zeroT_wt];omega
 have d1:((if e.dlg=true then [propT] else []).map Tree.wt).sum≤11:=by
  split
  ·rw [List.map_cons,List.map_nil,List.sum_cons,List.sum_nil,propT_wt];omega
  ·simp
 have k1:wEntry.length=5:=rfl
 have k2:wSubject.length=7:=rfl
 have k3:wTagW.length=3:=rfl
 unfold enV
 rw [wt_listT]
 simp only [List.map_cons,List.sum_cons,List.map_append,List.sum_append,wt_atomT,pairT_wt]
 omega
theorem readA_fit {v:Tree} (hm:v.may=true) (hw:v.wt≤2000000):AclFit (readA v):=by
 have hcl:=may_clean hm
 have hk:=(may_sm hm).kids
 have hx: ∀ x∈v.kids,En.sm x.wt (readE x)∧1≤x.wt:=fun x hx=>by
  have h1:=Tree.wt_kid hx
  have hp:1≤x.wt:=by rw [Tree.wt_eq];omega
  refine ⟨readE_sm _ _ (enNone_sm _ hp) (fun y hy=>⟨kid_clean' (kid_clean' hcl hx) hy,by have:=Tree.wt_kid hy;omega⟩) (by omega),hp⟩
 have hsum: ∀ l:List Tree,(∀ x∈l,x∈v.kids)→(((l.map readE).map enV).map Tree.wt).sum≤2*(l.map Tree.wt).sum+250*l.length:=by
  intro l
  induction l with
  | nil=>intro _;simp
  | cons x l ih =>
   intro h
   have a:=ih fun y hy=>h y (by simp [hy])
   have b:=hx x (h x (by simp))
   have c:=enV_sm b.1 b.2
   simp only [List.map_cons,List.sum_cons,List.length_cons]
   omega
 have hs:=hsum (v.kids.drop 1) fun x h=>List.mem_of_mem_drop h
 have hd:((v.kids.drop 1).map Tree.wt).sum≤v.wt:=by
  rw [Tree.wt_eq v]
  cases v.kids with
  | nil=>simp
  | cons a l=>simp only [List.drop_succ_cons,List.drop_zero,List.map_cons,List.sum_cons];omega
 refine ⟨fun e he=>?_,?_,?_⟩
 ·obtain ⟨x,hxm,rfl⟩:=List.mem_map.1 he
  exact (hx x (List.mem_of_mem_drop hxm)).1.fit
 ·have hl:(v.kids.drop 1).length≤512:=by rw [List.length_drop];omega
  show (((v.kids.drop 1).map readE |>.map enV).map Tree.wt).sum≤_
  omega
 ·show ((v.kids.drop 1).map readE).length≤_
  rw [List.length_map,List.length_drop]
  omega
section
variable {G:Nat→Option (List D)}
noncomputable def agetD (o:Option (List En)):DR:= .many [.c (.sl (o.getD []).length ((o.getD []).flatMap enC)),.c (.v (.int .i64 (if o.isSome=true then 0 else 3)))]
theorem aget_m (hG:G 0=some powD) (v:Tree) {cs:List D} (hcs:treeC v=cs) (hw:v.wt≤2000000):Spec Tryz.prog G 25 [.g cs] (agetD (refA v)):=by
 subst hcs
 have h1:=sxmay_m (G:=G) hG v rfl (by omega)
 obtain ⟨e1,e2⟩:=getA_eq v
 have hn0:v.kids=[]→refA v=none:=fun h=>by
  unfold refA
  rw [show headB v wAcl=false from by unfold headB;rw [h];simp]
  simp
 have hn1:v.may=false→refA v=none:=fun h=>by
  unfold refA
  rw [h]
  rfl
 unfold agetD
 have k0:(((0:Nat):Int)==0)=true:=rfl
 cases hkk:v.kids with
 | nil =>
  rw [hn0 hkk,Option.getD_none,show (if (none:Option (List En)).isSome=true then (0:Int) else 3)=3 from rfl]
  clear e1 e2 hn0 hn1
  rw [treeC_eq,hkk] at h1 ⊢
  rw [List.length_nil,List.flatMap_nil] at h1 ⊢
  simp only [bD,bytesD,List.length_nil,List.flatMap_nil] at *
  refine spec_of Tryz.func25 rfl rfl rfl (by kernel_rfl) rfl fun K=>?_
  (repeat' (first|with_reducible (first|refine zA fun Kn hK=>?_|refine zU ?_|refine Nx.go ?_|go_step)|refine ⟨_,h1,?_⟩|with_reducible (first|refine zI ?_|refine zV ?_)|simp (maxSteps:=9^9) (disch:=omega) only [wq]|with_reducible refine zM (fun hb=>?_) (fun hb=>?_)<;>try simp only [hb]|with_reducible refine And.intro (by first|omega|(simp;done)|(simp;omega)) ?_|simp (maxSteps:=9^9) -implicitDefEqProofs only [go_sem,k0,decide_true,bne,Bool.not_true,Bool.not_false]))
  all_goals rfl
 | cons a m =>
  have kx:(((m.length+1:Nat):Int)==0)=false:=by rw [beq_eq_false_iff_ne];omega
  cases hm:v.may with
  | false =>
   rw [hm] at h1
   rw [hn1 hm,Option.getD_none,show (if (none:Option (List En)).isSome=true then (0:Int) else 3)=3 from rfl]
   clear e1 e2 hn0 hn1
   rw [treeC_eq,hkk] at h1 ⊢
   rw [List.length_cons] at h1 ⊢
   simp only [bD,bytesD,List.length_nil,List.flatMap_nil] at *
   refine spec_of Tryz.func25 rfl rfl rfl (by kernel_rfl) rfl fun K=>?_
   (repeat' (first|with_reducible (first|refine zA fun Kn hK=>?_|refine zU ?_|refine Nx.go ?_|go_step)|refine ⟨_,h1,?_⟩|with_reducible (first|refine zI ?_|refine zV ?_)|simp (maxSteps:=9^9) (disch:=omega) only [wq]|with_reducible refine zM (fun hb=>?_) (fun hb=>?_)<;>try simp only [hb]|with_reducible refine And.intro (by first|omega|(simp;done)|(simp;omega)) ?_|simp (maxSteps:=9^9) -implicitDefEqProofs only [go_sem,kx,decide_true,bne,Bool.not_true,Bool.not_false]))
   all_goals rfl
  | true =>
   rw [hm] at h1
   have hfit:=readA_fit hm hw
   have hcl:=may_clean hm
   have hkw: ∀ x∈v.kids,x.wt<v.wt:=fun x hx=>Tree.wt_kid hx
   have h3:=aput_m (G:=G) hG (readA v) hfit
   have h4:=same_m (G:=G) v (if aclMay (readA v)=true then aclV (readA v) else zeroT) _ _ rfl rfl (by omega)
   have hp: ∀ x∈m,Spec Tryz.prog G 57 [.g (treeC x)] (.one (.g (enC (readE x)))):=fun x hx=>by
    have hx:x∈v.kids:=by rw [hkk];simp [hx]
    exact aread_m hG x rfl (by have:=hkw x hx;omega) (kid_clean' hcl hx)
   unfold aputD at h3
   have hd:(refA v).isSome=(aclMay (readA v)&&v.same (if aclMay (readA v)=true then aclV (readA v) else zeroT))∧((refA v).isSome=true→(refA v).getD []=readA v):=by
    cases hg:refA v with
    | some s =>
     obtain ⟨a,b,c⟩:=e1 s hg
     rw [a,b,if_pos rfl,c]
     exact ⟨by rw [show v.same v=true from same_iff.2 rfl];rfl,fun _=>rfl⟩
    | none =>
     have hno:=e2 hg
     refine ⟨?_,fun h=>by cases h⟩
     cases hmm:aclMay (readA v) with
     | false=>rfl
     | true =>
      rw [if_pos rfl]
      cases hs:v.same (aclV (readA v)) with
      | false=>rfl
      | true=>exact (hno ⟨hmm,(same_iff.1 hs).symm⟩).elim
   have hd2:(refA v).isSome=false→(refA v).getD []=[]:=fun h=>by
    cases hg:refA v with
    | some s=>rw [hg] at h;cases h
    | none=>rfl
   have hrd:readA v=m.map readE:=by
    unfold readA
    rw [hkk]
    rfl
   obtain ⟨d1,d2⟩:=hd
   have hml:m.length≤100000:=by
    have:=hfit.len
    rwa [hrd,List.length_map] at this
   rw [hrd] at h3 h4 d1 d2
   clear hrd e1 e2 hn0 hn1 hfit hcl hkw
   obtain ⟨ok,hok⟩: ∃ ok,(refA v).isSome=ok:=⟨_,rfl⟩
   obtain ⟨R,hR⟩: ∃ R,(refA v).getD []=R:=⟨_,rfl⟩
   rw [hok] at d1 d2 hd2 ⊢
   rw [hR] at d2 hd2 ⊢
   clear hok hR
   generalize aclMay (m.map readE)=q at *
   generalize (if q=true then aclV (m.map readE) else zeroT)=V at *
   generalize v.same V=z at *
   rw [List.length_map,List.flatMap_map] at h3
   have hlm:(m.map readE).length=m.length:=List.length_map _
   rw [treeC_eq v,hkk] at h1 h4 ⊢
   rw [treeC_eq V] at h3 h4
   rw [List.length_cons,List.flatMap_cons,treeC_eq a] at h1 h4 ⊢
   have r1:m.length+1-1=m.length:=rfl
   have k3:(m.flatMap treeC).length=m.length*5:=treeC_flen _
   have q1:(m.flatMap treeC).take (m.length*5)=m.flatMap treeC:=List.take_of_length_le (by omega)
   obtain ⟨RC,hRC⟩: ∃ RC,R.flatMap enC=RC:=⟨_,rfl⟩
   obtain ⟨RL,hRL⟩: ∃ n,R.length=n:=⟨_,rfl⟩
   obtain ⟨RE,hRE⟩: ∃ E:Int,(if ok=true then (0:Int) else 3)=E:=⟨_,rfl⟩
   rw [hRC,hRL,hRE]
   simp only [bD,bytesD,List.cons_append,List.nil_append] at h1 h3 h4 ⊢
   refine spec_of Tryz.func25 rfl rfl rfl (by kernel_rfl) rfl fun K=>?_
   (repeat' (first|with_reducible (first|refine zA fun Kn hK=>?_|refine zU ?_|refine Nx.go ?_|go_step)|refine ⟨_,h1,?_⟩|with_reducible (first|refine zI ?_|refine zV ?_)|simp (maxSteps:=9^9) (disch:=omega) only [wq]|with_reducible refine zM (fun hb=>?_) (fun hb=>?_)<;>try simp only [hb]|with_reducible refine And.intro (by first|omega|(simp;done)|(simp;omega)) ?_|simp (maxSteps:=9^9) -implicitDefEqProofs only [go_sem,kx,r1,q1,decide_true,bne,Bool.not_true,Bool.not_false]))
   refine sound_void 4 1000 21 54 (by rfl) (by rfl) ?_
   refine sound_loopR (fun x:{k:Nat // k≤m.length}=>⟨[(1,vP 1 0),(4,vR 1000 21 x.1),(20,vD (.sl m.length (m.flatMap treeC))),(21,vI m.length),(22,vI x.1)],[(1,some ⟨45,[.d (.v (.bool v.list)),.d (.v (.bool v.hinted)),.d (.sl v.hint.length (v.hint.map bD)),.d (.sl v.data.length (v.data.map bD)),.d (.sl (m.length+1) (.v (.bool a.list):: .v (.bool a.hinted):: .sl a.hint.length (a.hint.map bD):: .sl a.data.length (a.data.map bD):: .sl a.kids.length (a.kids.flatMap treeC)::m.flatMap treeC))],true,false⟩),(1000,some ⟨54,((m.take x.1).flatMap fun y=>enC (readE y)).map C.d,false,false⟩)]⟩) (fun x=>m.length-x.1) ⟨0,by omega⟩ [] (by (iterate 2 ((try simp (maxSteps:=9^9) -implicitDefEqProofs only [go_sem,bD,bytesD,List.take_zero,List.flatMap_nil,List.map_nil]);(try simp (maxSteps:=9^9) (disch:=omega) only [wq])));try simp) (fun ⟨k,hk⟩=>?_)
   by_cases hlt:k<m.length
   ·obtain ⟨x,hx⟩: ∃ x,m[k]?=some x:=⟨_,List.getElem?_eq_getElem hlt⟩
    have hb:decide ((k:Int)<(m.length:Int))=true:=by simpa using hlt
    have hpx:=hp x (List.mem_of_getElem? hx)
    have hf:=flat_at treeC_len hx
    have ht:((m.take (k+1)).flatMap fun y=>enC (readE y))=((m.take k).flatMap fun y=>enC (readE y))++enC (readE x):=by
     rw [List.take_add_one,hx,List.flatMap_append]
     simp
    have hlen:((m.take k).flatMap fun y=>enC (readE y)).length=k*21:=by
     rw [show ((m.take k).flatMap fun y=>enC (readE y))=((m.take k).map readE).flatMap enC from by rw [List.flatMap_map],enC_flen,List.length_map,List.length_take,Nat.min_eq_left hk]
    obtain ⟨s0,s1,s2,s3,s4,s5,t0,t1,t2,t3,t4,t5,t6,t7,t8,t9,_,_,hlit⟩:=en_lit (readE x)
    rw [hlit] at hpx ht
    rw [treeC_eq x] at hf hpx
    generalize ((m.take k).flatMap fun y=>enC (readE y))=W at *
    simp only [bD,bytesD] at hf hpx
    clear hp h3 h4 hd2 d1 d2 hlit
    (repeat' (first|with_reducible (first|refine zA fun Kn hK=>?_|refine zU ?_|refine Nx.go ?_|go_step)|refine ⟨_,hpx,?_⟩|(refine ⟨[(1000,30)],⟨k+1,hlt⟩,?_⟩;rw [ht])|with_reducible (first|refine zI ?_|refine zV ?_)|simp (maxSteps:=9^9) (disch:=omega) only [wq]|with_reducible refine zM (fun hb=>?_) (fun hb=>?_)<;>try simp only [hb]|with_reducible refine And.intro (by first|omega|(simp;done)|(simp;omega)) ?_|simp (maxSteps:=9^9) -implicitDefEqProofs only [go_sem,hb,hf,k3,rep1,hlen,List.length_map,true_and,Nat.le_refl,List.append_nil]))
    all_goals first|omega|(simp only [ijq,true_and,and_true];first|done|omega|(split<;>omega)|(simp;done)|(simp;omega))
   ·have hb:decide ((k:Int)<(m.length:Int))=false:=by simpa using hlt
    obtain rfl:k=m.length:=by omega
    simp only [List.take_length]
    have hlen:(m.flatMap fun y=>enC (readE y)).length=m.length*21:=by
     rw [show (m.flatMap fun y=>enC (readE y))=(m.map readE).flatMap enC from by rw [List.flatMap_map],enC_flen,List.length_map]
    have hWW:(m.map readE).flatMap enC=m.flatMap fun y=>enC (readE y):=List.flatMap_map ..
    clear hp h1
    generalize (m.flatMap fun y=>enC (readE y))=W at *
    cases q<;>cases z
    all_goals
     first
      | (have hok:ok=true:=d1
         subst hok
         have hR:=d2 rfl
         rw [hR] at hRC hRL
         rw [hWW] at hRC
         rw [hlm] at hRL
         have hRE:RE=0:=hRE.symm
         clear d1 d2 hd2 hR
         (repeat' (first|with_reducible (first|refine zA fun Kn hK=>?_|refine zU ?_|refine Nx.go ?_|go_step)|refine ⟨none,?_⟩|refine ⟨_,h3,?_⟩|refine ⟨_,h4,?_⟩|with_reducible (first|refine zI ?_|refine zV ?_)|simp (maxSteps:=9^9) (disch:=omega) only [wq]|with_reducible refine zM (fun hb=>?_) (fun hb=>?_)<;>try simp only [hb]|with_reducible refine And.intro (by first|omega|(simp;done)|(simp;omega)) ?_|simp (maxSteps:=9^9) -implicitDefEqProofs only [go_sem,hb,hlen,List.length_map,decide_true,bne,Bool.not_true,Bool.not_false]))
         all_goals (rw [← hRC,← hRL,hRE];try rfl))
      | (have hok:ok=false:=d1
         subst hok
         have hR:=hd2 rfl
         rw [hR] at hRC hRL
         have hRE:RE=3:=hRE.symm
         clear d1 d2 hd2 hR
         (repeat' (first|with_reducible (first|refine zA fun Kn hK=>?_|refine zU ?_|refine Nx.go ?_|go_step)|refine ⟨none,?_⟩|refine ⟨_,h3,?_⟩|refine ⟨_,h4,?_⟩|with_reducible (first|refine zI ?_|refine zV ?_)|simp (maxSteps:=9^9) (disch:=omega) only [wq]|with_reducible refine zM (fun hb=>?_) (fun hb=>?_)<;>try simp only [hb]|with_reducible refine And.intro (by first|omega|(simp;done)|(simp;omega)) ?_|simp (maxSteps:=9^9) -implicitDefEqProofs only [go_sem,hb,hlen,List.length_map,decide_true,bne,Bool.not_true,Bool.not_false]))
         all_goals (rw [← hRC,← hRL,hRE];try rfl))
end
section
variable {G:Nat→Option (List D)}
end
section
variable {G:Nat→Option (List D)}
end
theorem sub_at {α:Type} {L xs:List α} {a N:Nat} (o n:Nat) (h:(L.drop a).take N=xs) (hn:o+n≤N):(L.drop (a+o)).take n=(xs.drop o).take n:=by
 rw [← h,List.drop_take,List.drop_drop,List.take_take,Nat.min_eq_left (by omega)]
section
variable {G:Nat→Option (List D)}
noncomputable def aclGreat (l:List En):Bool:=decide (20<l.length)||l.any fun e=>e.sub.great 0||e.tag.great 0
theorem ragreat_m (l:List En) (hw: ∀ e∈l,e.tag.wt≤1000000000):Spec Tryz.prog G 17 [.c (.sl l.length (l.flatMap enC))] (.one (.c (.v (.bool (aclGreat l))))):=by
 have d20:decide ((l.length:Int)>20)=decide (20<l.length):=by rw [decide_eq_decide];omega
 have hv:aclGreat l=(decide (20<l.length)||l.any fun e=>e.sub.great 0||e.tag.great 0):=rfl
 obtain ⟨R,hR⟩: ∃ R,aclGreat l=R:=⟨_,rfl⟩
 rw [hR] at hv ⊢
 clear hR
 cases hq:decide (20<l.length) with
 | true =>
  rw [hq] at d20 hv
  rw [Bool.true_or] at hv
  subst hv
  clear hq
  refine spec_of Tryz.func17 rfl rfl rfl (by kernel_rfl) rfl fun K=>?_
  (repeat' (first|with_reducible (first|refine zA fun Kn hK=>?_|refine zU ?_|refine Nx.go ?_|go_step)|with_reducible (first|refine zI ?_|refine zV ?_)|simp (maxSteps:=9^9) (disch:=omega) only [wq]|with_reducible refine zM (fun hb=>?_) (fun hb=>?_)<;>try simp only [hb]|with_reducible refine And.intro (by first|omega|(simp;done)|(simp;omega)) ?_|simp (maxSteps:=9^9) -implicitDefEqProofs only [go_sem,d20,decide_true]))
  all_goals rfl
 | false =>
  have hl20: ¬ 20<l.length:=of_decide_eq_false hq
  rw [hq] at d20 hv
  rw [Bool.false_or] at hv
  clear hq
  refine spec_of Tryz.func17 rfl rfl rfl (by kernel_rfl) rfl fun K=>?_
  (repeat' (first|with_reducible (first|refine zA fun Kn hK=>?_|refine zU ?_|refine Nx.go ?_|go_step)|with_reducible (first|refine zI ?_|refine zV ?_)|simp (maxSteps:=9^9) (disch:=omega) only [wq]|with_reducible refine zM (fun hb=>?_) (fun hb=>?_)<;>try simp only [hb]|with_reducible refine And.intro (by first|omega|(simp;done)|(simp;omega)) ?_|simp (maxSteps:=9^9) -implicitDefEqProofs only [go_sem,d20,decide_true]))
  refine sound_loopR (fun x:{k:Nat // k≤l.length∧ ∀ e∈l.take k,(!(e.sub.great 0||e.tag.great 0))=true}=>⟨[(0,vD (.sl l.length (l.flatMap enC))),(8,vI l.length),(9,vI x.1)],[]⟩) (fun x=>l.length-x.1) ⟨0,by simp⟩ [] (by (iterate 2 ((try simp (maxSteps:=9^9) -implicitDefEqProofs only [go_sem,bD,bytesD]);(try simp (maxSteps:=9^9) (disch:=omega) only [wq])));try simp) (fun ⟨k,hk,hall⟩=>?_)
  by_cases hlt:k<l.length
  ·obtain ⟨x,hx⟩: ∃ x,l[k]?=some x:=⟨_,List.getElem?_eq_getElem hlt⟩
   have hb:decide ((k:Int)<(l.length:Int))=true:=by simpa using hlt
   have hm:=List.mem_of_getElem? hx
   have g1:=rsgreat_m (G:=G) x.sub _ 0 rfl (by omega)
   have g2:=great12_m (G:=G) x.tag _ 0 rfl (hw x hm) (by omega)
   rw [show ((0:Nat):Int)=0 from rfl] at g1 g2
   have hf:=flat_at enC_len hx
   obtain ⟨s0,s1,s2,s3,s4,s5,t0,t1,t2,t3,t4,t5,t6,t7,t8,t9,hs,ht,hlit⟩:=en_lit x
   rw [hs] at g1
   rw [ht] at g2
   rw [hlit] at hf
   have f0:=sub_at 0 6 hf (by omega)
   have f7:=sub_at 7 10 hf (by omega)
   simp only [List.drop_zero,List.drop_succ_cons,List.take_succ_cons,List.take_zero,Nat.add_zero] at f0 f7
   cases hq1:x.sub.great 0 with
   | true =>
    have hyes:(l.any fun e=>e.sub.great 0||e.tag.great 0)=true:=List.any_eq_true.2 ⟨x,hm,by rw [hq1];rfl⟩
    rw [hq1] at g1
    rw [hyes] at hv
    clear hs ht hlit
    (repeat' (first|with_reducible (first|refine zA fun Kn hK=>?_|refine zU ?_|refine Nx.go ?_|go_step)|refine ⟨_,g1,?_⟩|refine ⟨_,g2,?_⟩|with_reducible (first|refine zI ?_|refine zV ?_)|simp (maxSteps:=9^9) (disch:=omega) only [wq]|with_reducible refine zM (fun hb=>?_) (fun hb=>?_)<;>try simp only [hb]|with_reducible refine And.intro (by first|omega|(simp;done)|(simp;omega)) ?_|simp (maxSteps:=9^9) -implicitDefEqProofs only [go_sem,hb,hf,f0,f7,enC_flen,Bool.not_true,Bool.not_false]))
    all_goals rw [hv]
   | false =>
    rw [hq1] at g1
    cases hq2:x.tag.great 0 with
    | true =>
     have hyes:(l.any fun e=>e.sub.great 0||e.tag.great 0)=true:=List.any_eq_true.2 ⟨x,hm,by rw [hq2];simp⟩
     rw [hq2] at g2
     rw [hyes] at hv
     clear hs ht hlit
     (repeat' (first|with_reducible (first|refine zA fun Kn hK=>?_|refine zU ?_|refine Nx.go ?_|go_step)|refine ⟨_,g1,?_⟩|refine ⟨_,g2,?_⟩|with_reducible (first|refine zI ?_|refine zV ?_)|simp (maxSteps:=9^9) (disch:=omega) only [wq]|with_reducible refine zM (fun hb=>?_) (fun hb=>?_)<;>try simp only [hb]|with_reducible refine And.intro (by first|omega|(simp;done)|(simp;omega)) ?_|simp (maxSteps:=9^9) -implicitDefEqProofs only [go_sem,hb,hf,f0,f7,enC_flen,Bool.not_true,Bool.not_false]))
     all_goals rw [hv]
    | false =>
     rw [hq2] at g2
     have hnew:=tk_none (f:=fun e:En=> !(e.sub.great 0||e.tag.great 0)) hx (by rw [hq1,hq2];rfl) hall
     clear hs ht hlit
     (repeat' (first|with_reducible (first|refine zA fun Kn hK=>?_|refine zU ?_|refine Nx.go ?_|go_step)|refine ⟨_,g1,?_⟩|refine ⟨_,g2,?_⟩|(refine ⟨[],⟨k+1,hlt,hnew⟩,?_⟩)|with_reducible (first|refine zI ?_|refine zV ?_)|simp (maxSteps:=9^9) (disch:=omega) only [wq]|with_reducible refine zM (fun hb=>?_) (fun hb=>?_)<;>try simp only [hb]|with_reducible refine And.intro (by first|omega|(simp;done)|(simp;omega)) ?_|simp (maxSteps:=9^9) -implicitDefEqProofs only [go_sem,hb,hf,f0,f7,enC_flen,Bool.not_true,Bool.not_false]))
     all_goals first|omega|(simp only [ijq,true_and,and_true];first|done|omega|(split<;>omega)|(simp;done)|(simp;omega))
  ·have hb:decide ((k:Int)<(l.length:Int))=false:=by simpa using hlt
   obtain rfl:k=l.length:=by omega
   rw [List.take_length] at hall
   have hno:(l.any fun e=>e.sub.great 0||e.tag.great 0)=false:=by
    rw [List.any_eq_false]
    intro n hn
    have:=hall n hn
    simpa using this
   rw [hno] at hv
   (repeat' (first|with_reducible (first|refine zA fun Kn hK=>?_|refine zU ?_|refine Nx.go ?_|go_step)|with_reducible (first|refine zI ?_|refine zV ?_)|simp (maxSteps:=9^9) (disch:=omega) only [wq]|with_reducible refine zM (fun hb=>?_) (fun hb=>?_)<;>try simp only [hb]|with_reducible refine And.intro (by first|omega|(simp;done)|(simp;omega)) ?_|simp (maxSteps:=9^9) -implicitDefEqProofs only [go_sem,hb]))
   all_goals rw [hv]
end
section
variable {G:Nat→Option (List D)}
end
end Go.Proofs.YtfammdfpgccnfaaGreatDoor
namespace Go.Proofs.YtfammdfpgccnfaaGreatDoor
open Go.RowKit Go.ChangeShapes Go.WideShapes Go.Deep
def Opens {α:Type} (P:Program) (t:TypeId) (r:Rep α):Prop:=
 P.cellsOf t=r.size∧ ∀ (H:Type) (enc:TypeId × Value→H) (w:World) (sp:Nat→Bool) (held:Bool) (fuel:Nat) (cs:List Value) (x:DataW H × List MemPlace),DataW.trod enc P w 0 sp held fuel t cs=some x→ ∃ y,r.rd w (fun b=>b<w.heap.size) cs y
section
variable {α:Type} {P:Program} {t e:TypeId}
theorem opens_u8 (ht:P.underlying t=some (.int .u8)) (hc:P.cellsOf t=1):Opens P t Rep.u8:=
 ⟨hc,fun H enc w sp held fuel cs x h=>by
  obtain ⟨n,rfl,_,hw⟩:=DataW.trod_int ht h
  have hb:0≤n∧n≤255:=bounds_u8 hw
  exact ⟨ub n,rd_u8 (ub_val hb.1 hb.2)⟩⟩
end
def OpensN {α:Type} (P:Program) (fuel:Nat) (t:TypeId) (r:Rep α) (wt:α→Nat):Prop:=
 ∀ (H:Type) (enc:TypeId × Value→H) (w:World) (sp:Nat→Bool) (held:Bool) (cs:List Value) (x:DataW H × List MemPlace),DataW.trod enc P w 0 sp held fuel t cs=some x →
  ∃ y,r.rd w (fun b=>b<w.heap.size) cs y∧wt y≤Rows.uptoBulk x.1
theorem pick_list {α:Type} (Q:Nat→α→Prop): ∀ n,(∀ i,i<n→ ∃ y,Q i y)→ ∃ xs:List α,xs.length=n∧ ∀ i x,xs[i]?=some x→Q i x
 | 0,_=>⟨[],rfl,fun i x h=>by simp at h⟩
 | n + 1,h=>by
  obtain ⟨xs,h1,h2⟩:=pick_list Q n fun i hi=>h i (by omega)
  obtain ⟨y,hy⟩:=h n (by omega)
  refine ⟨xs++[y],by simp [h1],fun i x hx=>?_⟩
  rw [List.getElem?_append] at hx
  split at hx
  ·exact h2 i x hx
  ·rename_i hi
   have:i-xs.length=0:=by
    cases hk:i-xs.length with
    | zero=>rfl
    | succ k=>rw [hk] at hx;simp at hx
   rw [this] at hx
   simp at hx
   subst hx
   obtain rfl:i=n:=by omega
   exact hy
theorem sum_bulk {H α:Type} (wt:α→Nat): ∀ (xs:List α) (ds:List (DataW H)),xs.length=ds.length→(∀ (i:Nat) (x:α) (d:DataW H),xs[i]?=some x→ds[i]?=some d→wt x≤Rows.uptoBulk d)→(xs.map wt).sum≤Rows.uptoBulkAll ds
 | [],_,_,_=>by simp
 | x::xs,[],h,_=>by simp at h
 | x::xs,d::ds,h,hw=>by
  have h0:=hw 0 x d rfl rfl
  have:=sum_bulk wt xs ds (by simpa using h) fun i y e hy he=>hw (i+1) y e (by simpa using hy) (by simpa using he)
  simp only [List.map_cons,List.sum_cons,Rows.uptoBulkAll]
  omega
section
variable {α:Type} {P:Program} {t e:TypeId}
theorem opensN_u8 (fuel:Nat) (ht:P.underlying t=some (.int .u8)) (hc:P.cellsOf t=1):OpensN P fuel t Rep.u8 (fun _=>1):=fun H enc w sp held cs x h=>by
 obtain ⟨y,hy⟩:=(opens_u8 ht hc).2 H enc w sp held fuel cs x h
 refine ⟨y,hy,?_⟩
 obtain ⟨n,rfl,rfl,hw⟩:=DataW.trod_int ht h
 simp [Rows.uptoBulk]
theorem opensN_slice {r:Rep α} {wt:α→Nat} (fuel:Nat) (ht:P.underlying t=some (.slice e)) (hce:P.cellsOf e=r.size) (he: ∀ n,n<fuel→OpensN P n e r wt):OpensN P fuel t r.slice (fun xs=>(xs.map wt).sum+1):=fun H enc w sp held cs x h=>by
 rcases DataW.trod_slice ht h with ⟨rfl,rfl⟩|⟨a,len,cap,elems,rest,n,rfl,rfl,rfl,_,hl,hm,hlen,hi,_⟩
 ·exact ⟨[],⟨none,0,0,rfl,Rep.sl_nil⟩,by simp [Rows.uptoBulk]⟩
 ·have hel: ∀ i,i<len→ ∃ y,(∃ es:List Value,r.rd w (fun b=>b<w.heap.size) es y∧ ∀ j u,es[j]?=some u→w.cell? (a.add (i*r.size+j))=some u)∧ ∀ d,elems[i]?=some d→wt y≤Rows.uptoBulk d.1:=by
   intro i hil
   have hh:=hi i hil
   have hin:i<elems.length:=by omega
   rw [List.getElem?_eq_getElem hin] at hh ⊢
   obtain ⟨cs',h1,h2⟩:=Option.bind_eq_some_iff.1 hh
   obtain ⟨y,hy,hwt⟩:=he n (by omega) H enc w sp held cs' _ h2
   refine ⟨y,⟨cs',hy,fun j u hu=>?_⟩,fun d hd=>?_⟩
   ·obtain ⟨_,hcl,hat⟩:=World.cells?_some h1
    have hj:j<P.cellsOf e:=by
     have:=(List.getElem?_eq_some_iff.1 hu).1
     omega
    have:=hat j hj
    rw [hce] at this
    rw [← Go.Deep.add_add,this,hu]
   ·injection hd with hd
    subst hd
    exact hwt
  obtain ⟨xs,hx1,hx2⟩:=pick_list _ len hel
  refine ⟨xs,⟨some a,len,cap,rfl,hx1,hl,by simpa [maxLen] using hm,fun hn=>?_⟩,?_⟩
  ·obtain ⟨y0,⟨es0,hr0,hc0⟩,_⟩:=hel 0 hn
   have hne:0<es0.length:=by rw [r.len hr0];exact r.pos
   have hcell:=hc0 0 es0[0] (List.getElem?_eq_getElem hne)
   simp only [Nat.zero_mul,Nat.add_zero] at hcell
   obtain ⟨b,off,spot⟩:=a
   have hspot:spot=none:=by simpa [Addr.add] using World.cell?_spot hcell
   subst hspot
   have hlt:b<w.heap.size:=by simpa [Addr.add] using World.block_lt_of_cell? w _ hcell
   refine ⟨b,off,rfl,hlt,fun i x hx=>?_⟩
   obtain ⟨⟨es,h1,h2⟩,_⟩:=hx2 i x hx
   refine ⟨es,h1,fun j u hu=>?_⟩
   have:=h2 j u hu
   rw [Addr.add_lit] at this
   rw [← this,Nat.add_assoc]
  ·have:=sum_bulk (H:=H) wt xs (elems.map (·.1)) (by rw [hx1,List.length_map,hlen]) fun i x d hx hd=>by
    rw [List.getElem?_map,Option.map_eq_some_iff] at hd
    obtain ⟨d',hd',rfl⟩:=hd
    exact (hx2 i x hx).2 d' hd'
   simp only [Rows.uptoBulk]
   omega
theorem sum_ones {β:Type} (xs:List β):(xs.map fun _=>1).sum=xs.length:=by
 induction xs with
 | nil=>rfl
 | cons x xs ih=>simp only [List.map_cons,List.sum_cons,ih,List.length_cons];omega
end
end Go.Proofs.YtfammdfpgccnfaaGreatDoor
namespace Go.Proofs.YtfammdfpgccnfaaGreatDoor
open Go.RowKit
def CellsR (w:World) (S:Nat→Prop) (ds:List D) (cs:List Value):Prop:=cs.length=ds.length∧ ∀ (i:Nat) x u,ds[i]?=some x→cs[i]?=some u→RD w S x u
def CellsOf {α:Type} (r:Rep α) (f:α→List D):Prop:= ∀ {w:World} {S:Nat→Prop} {cs:List Value} {y:α},r.rd w S cs y→CellsR w S (f y) cs
theorem cellsR_nil {w:World} {S:Nat→Prop}:CellsR w S [] []:=⟨rfl,fun i x u hx=>by simp at hx⟩
theorem cellsR_cons {w:World} {S:Nat→Prop} {x:D} {u:Value} {ds:List D} {cs:List Value} (h:RD w S x u) (k:CellsR w S ds cs):CellsR w S (x::ds) (u::cs):=
 ⟨by simp [k.1],fun i y v hy hv=>by
  cases i with
  | zero =>
   simp at hy hv
   subst hy hv
   exact h
  | succ i=>exact k.2 i y v (by simpa using hy) (by simpa using hv)⟩
theorem cellsR_app {w:World} {S:Nat→Prop} {ds es:List D} {cs us:List Value} (h:CellsR w S ds cs) (k:CellsR w S es us):CellsR w S (ds++es) (cs++us):=
 ⟨by simp [h.1,k.1],fun i y v hy hv=>by
  rw [List.getElem?_append] at hy hv
  rw [h.1] at hv
  split at hy
  ·rename_i hi
   rw [if_pos hi] at hv
   exact h.2 i y v hy hv
  ·rename_i hi
   rw [if_neg hi] at hv
   exact k.2 _ y v hy hv⟩
theorem cells_at {α:Type} {f:α→List D} {n:Nat} (hf: ∀ x,(f x).length=n) (hn:0<n) {l:List α} {k:Nat} {d:D} (h:(l.flatMap f)[k]?=some d): ∃ x,l[k/n]?=some x∧(f x)[k%n]?=some d:=by
 have hk:=(List.getElem?_eq_some_iff.1 h).1
 rw [flat_len hf] at hk
 have hq:k/n<l.length:=Nat.div_lt_of_lt_mul (by rw [Nat.mul_comm];exact hk)
 refine ⟨l[k/n],List.getElem?_eq_getElem hq,?_⟩
 have h1:=flat_at hf (List.getElem?_eq_getElem hq)
 have h2:(((l.flatMap f).drop (k/n*n)).take n)[k%n]?=some d:=by
  rw [List.getElem?_take,if_pos (Nat.mod_lt _ hn),List.getElem?_drop,Nat.div_add_mod']
  exact h
 rw [h1] at h2
 exact h2
theorem rd_slice {α:Type} {w:World} {S:Nat→Prop} {r:Rep α} {f:α→List D} {A:Option Addr} {n c:Nat} {l:List α} (hlen: ∀ x,(f x).length=r.size)
  (hc: ∀ {es:List Value} {y:α},y∈l→r.rd w S es y→CellsR w S (f y) es) (h:r.sl w S A n c l):RD w S (.sl l.length (l.flatMap f)) (.slice A n c):=by
 obtain ⟨rfl,hnc,hcm,hh⟩:=h
 by_cases h0:0<l.length
 ·obtain ⟨b,o,rfl,hb,hr⟩:=hh h0
  have key: ∀ (k:Nat) d,(l.flatMap f)[k]?=some d→w.cell? ⟨b,o+k,none⟩=some ((w.cell? ⟨b,o+k,none⟩).getD undef)∧RD w S d ((w.cell? ⟨b,o+k,none⟩).getD undef):=fun k d hd=>by
   obtain ⟨x,hx,hxd⟩:=cells_at hlen r.pos hd
   obtain ⟨es,he,hce⟩:=hr _ x hx
   obtain ⟨g1,g2⟩:=hc (List.mem_of_getElem? hx) he
   have hlt:k%r.size<es.length:=by rw [g1,hlen];exact Nat.mod_lt _ r.pos
   have h1:=hce _ _ (List.getElem?_eq_getElem hlt)
   rw [Nat.add_assoc,Nat.div_add_mod'] at h1
   rw [h1]
   exact ⟨rfl,g2 _ d _ hxd (List.getElem?_eq_getElem hlt)⟩
  exact .sl _ c b o _ _ hnc hcm hb (fun k d hd=>(key k d hd).1) fun k d hd=>(key k d hd).2
 ·have:l=[]:=List.eq_nil_of_length_eq_zero (by omega)
  subst this
  exact .nil A c hcm
theorem cellsOf_u8:CellsOf Rep.u8 (fun b=>[bD b]):=by
 rintro w S cs y h
 have h:cs=_:=h
 subst h
 exact cellsR_cons (.v _ rfl) cellsR_nil
theorem flatMap_one: ∀ l:List UInt8,l.flatMap (fun b=>[bD b])=l.map bD
 | []=>rfl
 | x::l=>by rw [List.flatMap_cons,flatMap_one l];rfl
theorem rd_bytes {w:World} {S:Nat→Prop} {A:Option Addr} {n c:Nat} {l:List UInt8} (h:Rep.u8.sl w S A n c l):RD w S (bytesD l) (.slice A n c):=by
 have h9:=rd_slice (f:=fun b=>[bD b]) (fun _=>rfl) (fun _ hr=>cellsOf_u8 hr) h
 rw [flatMap_one] at h9
 exact h9
theorem dargs_nil {w:World} {S:Nat→Prop}:DArgs w S [] []:=⟨rfl,fun i x u hx=>by simp at hx⟩
theorem dargs_cons {w:World} {S:Nat→Prop} {x:DV} {u:Value} {ds:List DV} {cs:List Value} (h:DRd w S x u) (k:DArgs w S ds cs):DArgs w S (x::ds) (u::cs):=
 ⟨by simp [k.1],fun i y v hy hv=>by
  cases i with
  | zero =>
   simp at hy hv
   subst hy hv
   exact h
  | succ i=>exact k.2 i y v (by simpa using hy) (by simpa using hv)⟩
theorem law_calls {P:Program} {G:Nat→Option (List D)} {f:FuncId} {args:List DV} {vs:List Value} {W:World} (h:Spec P G f args (.one (.c (.v (.bool true))))) (hT:Tables G W (fun b=>b<W.heap.size)) (hA:DArgs W (fun b=>b<W.heap.size) args vs) :
  Calls P f vs.toArray W fun e W'=>e= .returned (.bool true)∧Below W.heap.size W W':=by
 refine Calls.mono (h W _ vs (fun b hb=>hb) hT hA) ?_
 rintro e W1 ⟨hE,u,rfl,hu⟩
 have hu:RD W1 _ (.v (.bool true)) u:=hu
 cases hu
 exact ⟨rfl,below_ev hE⟩
end Go.Proofs.YtfammdfpgccnfaaGreatDoor
namespace Go.Proofs.YtfammdfpgccnfaaGreatDoor
open Go.ChangeShapes Go.WideShapes Go.ChangeAt Go.RowKit
theorem ownK:ownKnob Tryz.prog.godebug=none:=by kernel_rfl
theorem laidK:laidOutB Tryz.prog=true:=by kernel_rfl
theorem gPow : Tryz.prog.globalNamed "internal/strconv.uint64pow10" = some 0 := by kernel_rfl
theorem gPowType:(Tryz.prog.globals[0]?).map (·.type)=some 227:=by kernel_rfl
def laid3 : List (String × DataW Unit) := [("math/bits.deBruijn32tab", Rows.laid_math_bits_deBruijn32tab), ("math/bits.deBruijn64tab", Rows.laid_math_bits_deBruijn64tab), ("internal/strconv.uint64pow10", Rows.laid_internal_strconv_uint64pow10), ("unicode/utf8.acceptRanges", Rows.laid_unicode_utf8_acceptRanges), ("unicode/utf8.first", Rows.laid_unicode_utf8_first)]
def tabG (g:Nat):Option (List D):=if g=0 then some powD else none
theorem tabG_pow:tabG 0=some powD:=rfl
theorem tab_of {w : World} (h : Lib.TabIs Tryz.prog w "internal/strconv.uint64pow10" .u64 Lib.pow10Tab) : Tab w (fun b => b < w.heap.size) 0 powD := by
 unfold Lib.TabIs World.var? at h
 rw [powG_ok,Option.bind_some] at h
 split at h
 ·rename_i arr ty fz h3
  injection h with h
  subst h
  refine ⟨?_,(Array.getElem?_eq_some_iff.1 h3).1,_,_,_,h3,by simp [powD]⟩
  refine .ptr 0 _ 0 _ (fun i=>((Lib.pow10Tab.map fun z=>Value.int .u64 z)[i]?).getD undef) (Array.getElem?_eq_some_iff.1 h3).1 (fun i x hx=>?_) fun i x hx=>?_
  all_goals
   simp only [powD,List.getElem?_map] at hx
   cases hq:Lib.pow10Tab[i]? with
   | none=>rw [hq] at hx;cases hx
   | some z =>
    rw [hq] at hx
    have hx:some (D.v (.int .u64 z))=some x:=hx
    injection hx with hx
    subst hx
    have e:(Lib.pow10Tab.map fun z=>Value.int .u64 z)[i]?=some (.int .u64 z):=by simp [hq]
    rw [e]
    first
     | exact .v _ rfl
     | (rw [Nat.zero_add]
        simp [World.cell?,h3,hq])
 ·cases h
theorem tables_of_laid {W:World} (h:laidMetH Tryz.prog laid3 W):Tables tabG W (fun b=>b<W.heap.size):=by
 have h3 : laidMet Tryz.prog (("internal/strconv.uint64pow10", Lib.tabData .u64 Lib.pow10Tab) :: [("unicode/utf8.acceptRanges", Rows.laid_unicode_utf8_acceptRanges), ("unicode/utf8.first", Rows.laid_unicode_utf8_first)]) W := laidMet.tail (laidMet.tail (h))
 intro g cs hg
 unfold tabG at hg
 split at hg
 ·rename_i e
  subst e
  injection hg with hg
  subst hg
  exact tab_of (Lib.tabIs_of_head (rest := [("unicode/utf8.acceptRanges", Rows.laid_unicode_utf8_acceptRanges), ("unicode/utf8.first", Rows.laid_unicode_utf8_first)]) gPow gPowType Tryz.underlying227 Tryz.underlying217 (by kernel_rfl) (by kernel_rfl) h3)
 ·cases hg
def laidAt (k:IntKind) (zs:List Int):Obj→Obj
 | .cells _ t frozen=> .cells (zs.map fun z=> .int k z).toArray t frozen
 | o=>o
def ints {H:Type}:DataW H→List Int
 | .agg l=>l.flatMap fun
  | .lit (.int _ z)=>[z]
  | .agg m=>m.map fun| .lit (.int _ z)=>z|_=>0
  | _=>[0]
 | _=>[]
noncomputable def laidWorld (os:Os):World:=
 { World.holding Tryz.prog os ⟨#[], #[],[]⟩ with heap:=((((((World.holding Tryz.prog os ⟨#[], #[],[]⟩).heap).modify 2 (laidAt .u8 (ints (H:=Unit) Rows.laid_math_bits_deBruijn32tab))).modify 3 (laidAt .u8 (ints (H:=Unit) Rows.laid_math_bits_deBruijn64tab))).modify 0 (laidAt .u64 (ints (H:=Unit) Rows.laid_internal_strconv_uint64pow10))).modify 6 (laidAt .u8 (ints (H:=Unit) Rows.laid_unicode_utf8_acceptRanges))).modify 5 (laidAt .u8 (ints (H:=Unit) Rows.laid_unicode_utf8_first)) }
theorem laid_met (os:Os) (args:Array Value):laidMet Tryz.prog laid3 ((laidWorld os).forCall (fun _ _=>0) ⟨#[],args,[]⟩).memory:=
 laidMet_of_run' 8 (by kernel_rfl) (by kernel_rfl)
theorem bulk_le {H:Type} {l:List (DataW H)} (hk:Rows.uptoSmall H l=true):Rows.uptoBulkAll l≤1048576:=of_decide_eq_true hk
end Go.Proofs.YtfammdfpgccnfaaGreatDoor
namespace Go.Proofs.YtfammdfpgccnfaaGreatDoor
open Go.RowKit Go.ChangeShapes Go.WideShapes Go.Deep
section
variable {P:Program} {t e:TypeId}
theorem field_at {H:Type} {enc:TypeId × Value→H} {w:World} {sp:Nat→Bool} {held:Bool} {n:Nat} {cs:List Value} {x:DataW H × List MemPlace} {fs:Array Field} (ht:P.underlying t=some (.struct fs)) (h:DataW.trod enc P w 0 sp held n t cs=some x) {L:List (Nat × Nat)} (hf:fs.toList.map (fun f=>(f.type,f.offset))=L) :
  ∃ (m:Nat) (xs:List (DataW H × List MemPlace)),n=m+1∧x.1= .agg (xs.map (·.1))∧xs.length=L.length∧cs.length=P.cellsOf t∧ ∀ (i:Nat) (p:Nat × Nat) y,L[i]?=some p→xs[i]?=some y→DataW.trod enc P w 0 sp held m p.1 ((cs.drop p.2).take (P.cellsOf p.1))=some y:=by
 obtain ⟨xs,m,rfl,rfl,hcl,hlx,hg⟩:=DataW.trod_struct ht h
 refine ⟨m,xs,rfl,rfl,by rw [hlx,← hf,List.length_map,Array.length_toList],hcl,fun i p y hp hy=>?_⟩
 rw [← hf,List.getElem?_map,Option.map_eq_some_iff] at hp
 obtain ⟨f,h1,rfl⟩:=hp
 have h1':fs[i]?=some f:=by simpa using h1
 rw [hg i f h1',hy]
theorem bytes_at {H:Type} {enc:TypeId × Value→H} {w:World} {sp:Nat→Bool} {held:Bool} {n:Nat} {cs:List Value} {x:DataW H × List MemPlace} {tB ty:TypeId} (hB:P.underlying tB=some (.slice ty)) (hy:P.underlying ty=some (.int .u8)) (cy:P.cellsOf ty=1) (h:DataW.trod enc P w 0 sp held n tB cs=some x) :
  ∃ (y:List UInt8) (A:Option Addr) (k c:Nat),cs=[.slice A k c]∧Rep.u8.sl w (fun b=>b<w.heap.size) A k c y∧y.length+1≤Rows.uptoBulk x.1:=by
 obtain ⟨y,⟨A,k,c,q,s⟩,hw⟩:=opensN_slice (r:=Rep.u8) (wt:=fun _=>1) n hB cy (fun m _=>opensN_u8 m hy cy) _ _ _ _ _ _ _ h
 simp only [sum_ones] at hw
 exact ⟨y,A,k,c,q,s,hw⟩
end
section
variable {P:Program} {t e:TypeId}
theorem open_u8 {H:Type} {enc:TypeId × Value→H} {w:World} {sp:Nat→Bool} {held:Bool} {n:Nat} {cs:List Value} {x:DataW H × List MemPlace} {ty:TypeId} (hy:P.underlying ty=some (.int .u8)) (h:DataW.trod enc P w 0 sp held n ty cs=some x): ∃ b:UInt8,cs=[u8V b]:=by
 obtain ⟨z,hz,_,hw⟩:=DataW.trod_int hy h
 have hb:0≤z∧z≤255:=bounds_u8 hw
 refine ⟨UInt8.ofNat z.toNat,?_⟩
 rw [hz,u8V,UInt8.toNat_ofNat_of_lt' (by simp only [UInt8.size];omega)]
 congr 2
 omega
theorem end_at {H:Type} {enc:TypeId × Value→H} {w:World} {sp:Nat→Bool} {held:Bool} {n:Nat} {cs:List Value} {x:DataW H × List MemPlace} {tE tb tB ty:TypeId} {fs:Array Field} (ht:P.underlying tE=some (.struct fs)) (hf:fs.toList.map (fun f=>(f.type,f.offset))=[(tb,0),(tb,1),(tB,2)]) (hc:P.cellsOf tE=3) (hb:P.underlying tb=some .bool) (cb:P.cellsOf tb=1)
  (hB:P.underlying tB=some (.slice ty)) (cB:P.cellsOf tB=1) (hy:P.underlying ty=some (.int .u8)) (cy:P.cellsOf ty=1) (h:DataW.trod enc P w 0 sp held n tE cs=some x) :
  ∃ (b:Bd) (A:Option Addr) (k c:Nat),cs=[.bool b.is,.bool b.opn,.slice A k c]∧Rep.u8.sl w (fun b=>b<w.heap.size) A k c b.txt∧b.txt.length≤Rows.uptoBulk x.1:=by
 obtain ⟨m,xs,_,hx,hl,hcl,hg⟩:=field_at ht h hf
 rw [hc] at hcl
 match xs,hl,cs,hcl with
 | [x0,x1,x2],_,[c0,c1,c2],_ =>
  have e0:=hg 0 _ _ rfl rfl
  have e1:=hg 1 _ _ rfl rfl
  have e2:=hg 2 _ _ rfl rfl
  dsimp only at e0 e1 e2
  rw [cb] at e0 e1
  rw [cB] at e2
  obtain ⟨b0,q0,_⟩:=DataW.trod_bool hb e0
  obtain ⟨b1,q1,_⟩:=DataW.trod_bool hb e1
  obtain ⟨y,A,k,c,q2,s,hw⟩:=bytes_at hB hy cy e2
  simp only [List.drop_zero,List.drop_succ_cons,List.take_succ_cons,List.take_zero,List.cons.injEq,and_true] at q0 q1 q2
  subst q0 q1 q2
  refine ⟨⟨b0,b1,y⟩,A,k,c,rfl,s,?_⟩
  rw [hx]
  simp only [Rows.uptoBulk,Rows.uptoBulkAll,List.map_cons,List.map_nil]
  omega
theorem opensN_tag {tk tB tl tR tE tb ty:TypeId} {fs fr fe:Array Field} (ht:P.underlying t=some (.struct fs)) (hf:fs.toList.map (fun f=>(f.type,f.offset))=[(tk,0),(tB,1),(tl,2),(tR,3)]) (hc:P.cellsOf t=10)
  (hr:P.underlying tR=some (.struct fr)) (hfr:fr.toList.map (fun f=>(f.type,f.offset))=[(tk,0),(tE,1),(tE,4)]) (cR:P.cellsOf tR=7)
  (he:P.underlying tE=some (.struct fe)) (hfe:fe.toList.map (fun f=>(f.type,f.offset))=[(tb,0),(tb,1),(tB,2)]) (cE:P.cellsOf tE=3)
  (hk:P.underlying tk=some (.int .u8)) (ck:P.cellsOf tk=1) (hb:P.underlying tb=some .bool) (hB:P.underlying tB=some (.slice ty)) (hy:P.underlying ty=some (.int .u8)) (hl:P.underlying tl=some (.slice t))
  (cb:P.cellsOf tb=1) (cB:P.cellsOf tB=1) (cy:P.cellsOf ty=1) (cl:P.cellsOf tl=1): ∀ fuel,OpensN P fuel t Rep.tag Tg.wt:=by
 intro fuel
 induction fuel using Nat.strongRecOn with
 | _ fuel ih =>
 intro H enc w sp held cs x h
 obtain ⟨m,xs,rfl,hx,hlx,hcl,hg⟩:=field_at ht h hf
 rw [hc] at hcl
 match xs,hlx,cs,hcl with
 | [x0,x1,x2,x3],_,[c0,c1,c2,c3,c4,c5,c6,c7,c8,c9],_ =>
  have e0:=hg 0 _ _ rfl rfl
  have e1:=hg 1 _ _ rfl rfl
  have e2:=hg 2 _ _ rfl rfl
  have e3:=hg 3 _ _ rfl rfl
  dsimp only at e0 e1 e2 e3
  rw [ck] at e0
  rw [cB] at e1
  rw [cl] at e2
  rw [cR] at e3
  obtain ⟨k0,q0⟩:=open_u8 hk e0
  obtain ⟨y1,A1,n1,k1,q1,s1,w1⟩:=bytes_at hB hy cy e1
  obtain ⟨y2,⟨A2,n2,k2,q2,s2⟩,w2⟩:=opensN_slice (r:=Rep.tag) (wt:=Tg.wt) m hl hc (fun j hj=>ih j (by omega)) _ _ _ _ _ _ _ e2
  obtain ⟨m3,zs,_,hz,hlz,hcz,hgz⟩:=field_at hr e3 hfr
  simp only [List.drop_zero,List.drop_succ_cons,List.take_succ_cons,List.take_zero,List.cons.injEq,and_true] at q0 q1 q2 hgz
  match zs,hlz with
  | [z0,z1,z2],_ =>
   have g0:=hgz 0 _ _ rfl rfl
   have g1:=hgz 1 _ _ rfl rfl
   have g2:=hgz 2 _ _ rfl rfl
   dsimp only at g0 g1 g2
   rw [ck] at g0
   rw [cE] at g1 g2
   obtain ⟨o0,p0⟩:=open_u8 hk g0
   obtain ⟨b1,B1,l1,j1,p1,t1,v1⟩:=end_at he hfe cE hb cb hB cB hy cy g1
   obtain ⟨b2,B2,l2,j2,p2,t2,v2⟩:=end_at he hfe cE hb cb hB cB hy cy g2
   simp only [List.drop_zero,List.drop_succ_cons,List.take_succ_cons,List.take_zero,List.cons.injEq,and_true] at p0 p1 p2
   obtain ⟨p1a,p1b,p1c⟩:=p1
   obtain ⟨p2a,p2b,p2c⟩:=p2
   subst q0 q1 q2 p0 p1a p1b p1c p2a p2b p2c
   refine ⟨.mk k0 y1 y2 o0 b1 b2,?_,?_⟩
   ·show Tg.rd w _ _ (.mk k0 y1 y2 o0 b1 b2)
    rw [Tg.rd]
    exact ⟨A1,n1,k1,A2,n2,k2,B1,l1,j1,B2,l2,j2,rfl,s1,t1,t2,s2.1,s2.2.1,s2.2.2.1,s2.2.2.2⟩
   ·rw [Tg.wt_eq,hx]
    simp only [Rows.uptoBulk,Rows.uptoBulkAll,List.map_cons,List.map_nil,Tg.data,Tg.kids,Tg.lo,Tg.hi]
    have w2':(y2.map Tg.wt).sum+1≤Rows.uptoBulk x2.1:=w2
    have v3:b1.txt.length+b2.txt.length≤Rows.uptoBulk x3.1:=by
     rw [hz]
     simp only [Rows.uptoBulk,Rows.uptoBulkAll,List.map_cons,List.map_nil]
     omega
    omega
end
end Go.Proofs.YtfammdfpgccnfaaGreatDoor
namespace Go.Proofs.YtfammdfpgccnfaaGreatDoor
open Go.ChangeShapes Go.WideShapes Go.ChangeAt Go.RowKit
theorem opens_tag (fuel:Nat):OpensN Tryz.prog fuel 35 Rep.tag Tg.wt:=
 opensN_tag Tryz.underlying35 (by kernel_rfl) (by kernel_rfl) Tryz.underlying33 (by kernel_rfl) (by kernel_rfl) Tryz.underlying31 (by kernel_rfl) (by kernel_rfl) Tryz.underlying5 (by kernel_rfl) Tryz.underlying4 Tryz.underlying22 Tryz.underlying5 Tryz.underlying29 (by kernel_rfl) (by kernel_rfl) (by kernel_rfl) (by kernel_rfl) fuel
theorem cellsOf_tag:CellsOf Rep.tag tagC:=by
 intro w S cs y h
 revert cs
 refine Tg.ind (P:=fun y=> ∀ {cs:List Value},Rep.tag.rd w S cs y→CellsR w S (tagC y) cs) (fun t ih cs h=>?_) y
 have h:Tg.rd w S cs t:=h
 rw [Tg.rd] at h
 obtain ⟨A1,n1,c1,A2,n2,c2,A3,n3,c3,A4,n4,c4,rfl,h1,h2,h7,h3,h4,h5,h6⟩:=h
 rw [tagC_eq]
 refine cellsR_cons (.v _ rfl) (cellsR_cons (rd_bytes h1) (cellsR_cons ?_ (cellsR_cons (.v _ rfl) (cellsR_cons (.v _ rfl) (cellsR_cons (.v _ rfl) (cellsR_cons (rd_bytes h2) (cellsR_cons (.v _ rfl) (cellsR_cons (.v _ rfl) (cellsR_cons (rd_bytes h7) cellsR_nil)))))))))
 exact rd_slice (r:=Rep.tag) tagC_len (fun hy hr=>ih _ hy hr) ⟨h3,h4,h5,h6⟩
end Go.Proofs.YtfammdfpgccnfaaGreatDoor
namespace Go.Proofs.YtfammdfpgccnfaaGreatDoor
open Go.RowKit Go.ChangeShapes Go.WideShapes Go.Deep
def Sb.rd (w:World) (S:Nat→Prop) (cs:List Value) (t:Sb):Prop:=
 ∃ A1 n1 c1 A2 n2 c2 A3 n3 c3,cs=[u8V t.kind,.bool t.ks,.slice A1 n1 c1,.slice A2 n2 c2,.int .i64 t.k,.slice A3 n3 c3]∧Rep.u8.sl w S A1 n1 c1 t.kd∧Rep.u8.slice.sl w S A2 n2 c2 t.names ∧
  t.kids.length=n3∧n3≤c3∧c3≤9223372036854775807∧(0<n3→ ∃ b o,A3=some ⟨b,o,Option.none⟩∧S b ∧
   ∀ i x,(hx:t.kids[i]?=some x)→ ∃ es,Sb.rd w S es x∧ ∀ j u,es[j]?=some u→w.cell? ⟨b,o+i*6+j,Option.none⟩=some u)
termination_by SizeOf.sizeOf t
decreasing_by exact Sb.kid_lt (List.mem_of_getElem? hx)
theorem Sb.rd_len {w:World} {S:Nat→Prop} {cs:List Value} {t:Sb} (h:Sb.rd w S cs t):cs.length=6:=by
 rw [Sb.rd] at h
 obtain ⟨_,_,_,_,_,_,_,_,_,rfl,_⟩:=h
 rfl
theorem Sb.rd_keep {w w':World} {S:Nat→Prop} (hk: ∀ p:Addr,S p.block→w'.cell? p=w.cell? p): ∀ (t:Sb) {cs:List Value},Sb.rd w S cs t→Sb.rd w' S cs t:=by
 refine Sb.ind fun t ih cs h=>?_
 rw [Sb.rd] at h ⊢
 obtain ⟨A1,n1,c1,A2,n2,c2,A3,n3,c3,rfl,h1,h2,h3,h4,h5,h6⟩:=h
 refine ⟨A1,n1,c1,A2,n2,c2,A3,n3,c3,rfl,Rep.sl_keep h1 hk,Rep.sl_keep h2 hk,h3,h4,h5,fun hn=>?_⟩
 obtain ⟨b,o,rfl,hb,hr⟩:=h6 hn
 refine ⟨b,o,rfl,hb,fun i x hx=>?_⟩
 obtain ⟨es,he,hc⟩:=hr i x hx
 exact ⟨es,ih x (List.mem_of_getElem? hx) he,fun j u hu=>by rw [hk _ hb];exact hc j u hu⟩
theorem Sb.rd_more {w:World} {S S':Nat→Prop} (hS: ∀ b,S b→S' b): ∀ (t:Sb) {cs:List Value},Sb.rd w S cs t→Sb.rd w S' cs t:=by
 refine Sb.ind fun t ih cs h=>?_
 rw [Sb.rd] at h ⊢
 obtain ⟨A1,n1,c1,A2,n2,c2,A3,n3,c3,rfl,h1,h2,h3,h4,h5,h6⟩:=h
 refine ⟨A1,n1,c1,A2,n2,c2,A3,n3,c3,rfl,Rep.sl_more h1 hS,Rep.sl_more h2 hS,h3,h4,h5,fun hn=>?_⟩
 obtain ⟨b,o,rfl,hb,hr⟩:=h6 hn
 refine ⟨b,o,rfl,hS _ hb,fun i x hx=>?_⟩
 obtain ⟨es,he,hc⟩:=hr i x hx
 exact ⟨es,ih x (List.mem_of_getElem? hx) he,hc⟩
theorem Sb.rd_one {w:World} {S:Nat→Prop} {cs:List Value} {t:Sb} (h:Sb.rd w S cs t): ∀ u∈cs,u.oneCell'=true:=by
 intro u hu
 rw [Sb.rd] at h
 obtain ⟨_,_,_,_,_,_,_,_,_,rfl,_⟩:=h
 simp only [List.mem_cons,List.not_mem_nil,or_false] at hu
 rcases hu with rfl|rfl|rfl|rfl|rfl|rfl<;>rfl
def Rep.sb:Rep Sb where
 size:=6
 pos:=by omega
 rd:=Sb.rd
 len:=Sb.rd_len
 keep:=fun h hk=>Sb.rd_keep hk _ h
 more:=fun h hS=>Sb.rd_more hS _ h
 one:=fun h u hu=>Sb.rd_one h u hu
def wdV (w:Wd):List Value:=[.bool w.aft,.int .i64 w.frm,.bool w.unt,.int .i64 w.to]
def enRd (w:World) (S:Nat→Prop) (cs:List Value) (s:Sb) (d:Bool) (t:Tg) (v:Wd):Prop:=
 ∃ l1 l2,cs=l1++(.bool d::(l2++wdV v))∧Sb.rd w S l1 s∧Tg.rd w S l2 t
theorem enRd_len {w:World} {S:Nat→Prop} {cs:List Value} {s:Sb} {d:Bool} {t:Tg} {v:Wd} (h:enRd w S cs s d t v):cs.length=21:=by
 obtain ⟨l1,l2,rfl,h1,h2⟩:=h
 simp only [List.length_append,List.length_cons,Sb.rd_len h1,Tg.rd_len h2,wdV,List.length_nil]
theorem enRd_one {w:World} {S:Nat→Prop} {cs:List Value} {s:Sb} {d:Bool} {t:Tg} {v:Wd} (h:enRd w S cs s d t v): ∀ u∈cs,u.oneCell'=true:=by
 obtain ⟨l1,l2,rfl,h1,h2⟩:=h
 intro u hu
 simp only [List.mem_append,List.mem_cons,wdV,List.not_mem_nil,or_false] at hu
 rcases hu with hu|rfl|hu|rfl|rfl|rfl|rfl
 ·exact Sb.rd_one h1 u hu
 ·rfl
 ·exact Rep.tag.one h2 u hu
 all_goals rfl
def Rep.en:Rep En where
 size:=21
 pos:=by omega
 rd:=fun w S cs e=>enRd w S cs e.sub e.dlg e.tag e.win
 len:=enRd_len
 keep:=fun {w w' S cs e} h hk=>by
  obtain ⟨l1,l2,rfl,h1,h2⟩:=h
  exact ⟨l1,l2,rfl,Sb.rd_keep hk _ h1,Tg.rd_keep hk _ h2⟩
 more:=fun {w S S' cs e} h hS=>by
  obtain ⟨l1,l2,rfl,h1,h2⟩:=h
  exact ⟨l1,l2,rfl,Sb.rd_more hS _ h1,Tg.rd_more hS _ h2⟩
 one:=fun h u hu=>enRd_one h u hu
section
variable {P:Program} {t e:TypeId}
theorem open_i64 {H:Type} {enc:TypeId × Value→H} {w:World} {sp:Nat→Bool} {held:Bool} {n:Nat} {cs:List Value} {x:DataW H × List MemPlace} {ty:TypeId} (hy:P.underlying ty=some (.int .i64)) (h:DataW.trod enc P w 0 sp held n ty cs=some x): ∃ b:Int,cs=[.int .i64 b]∧(-9223372036854775808≤b∧b≤9223372036854775807):=by
 obtain ⟨z,hz,_,hw⟩:=DataW.trod_int hy h
 refine ⟨z,hz,?_⟩
 simp [Lit.wf,IntKind.min,IntKind.max,IntKind.signed,IntKind.bits] at hw
 omega
theorem win_at {H:Type} {enc:TypeId × Value→H} {w:World} {sp:Nat→Bool} {held:Bool} {n:Nat} {cs:List Value} {x:DataW H × List MemPlace} {tW tb ti:TypeId} {fs:Array Field} (ht:P.underlying tW=some (.struct fs)) (hf:fs.toList.map (fun f=>(f.type,f.offset))=[(tb,0),(ti,1),(tb,2),(ti,3)]) (hc:P.cellsOf tW=4) (hb:P.underlying tb=some .bool) (cb:P.cellsOf tb=1)
  (hi:P.underlying ti=some (.int .i64)) (ci:P.cellsOf ti=1) (h:DataW.trod enc P w 0 sp held n tW cs=some x) :
  ∃ v:Wd,cs=wdV v∧v.in64:=by
 obtain ⟨m,xs,_,hx,hl,hcl,hg⟩:=field_at ht h hf
 rw [hc] at hcl
 match xs,hl,cs,hcl with
 | [x0,x1,x2,x3],_,[c0,c1,c2,c3],_ =>
  have e0:=hg 0 _ _ rfl rfl
  have e1:=hg 1 _ _ rfl rfl
  have e2:=hg 2 _ _ rfl rfl
  have e3:=hg 3 _ _ rfl rfl
  dsimp only at e0 e1 e2 e3
  rw [cb] at e0 e2
  rw [ci] at e1 e3
  obtain ⟨b0,q0,_⟩:=DataW.trod_bool hb e0
  obtain ⟨b1,q1,i1⟩:=open_i64 hi e1
  obtain ⟨b2,q2,_⟩:=DataW.trod_bool hb e2
  obtain ⟨b3,q3,i3⟩:=open_i64 hi e3
  simp only [List.drop_zero,List.drop_succ_cons,List.take_succ_cons,List.take_zero,List.cons.injEq,and_true] at q0 q1 q2 q3
  subst q0 q1 q2 q3
  exact ⟨⟨b0,b1,b2,b3⟩,rfl,i1,i3⟩
end
end Go.Proofs.YtfammdfpgccnfaaGreatDoor
namespace Go.Proofs.YtfammdfpgccnfaaGreatDoor
open Go.ChangeShapes Go.WideShapes Go.ChangeAt Go.RowKit Go.Deep
theorem in64_big {w:Wd} (h:w.in64):w.big=0:=by
 unfold Wd.in64 at h
 unfold Wd.big
 rw [if_pos h]
def En.wt (e:En):Nat:=e.tag.wt+e.win.big
section
variable {P:Program} {t:TypeId}
end
theorem cellsOf_sb:CellsOf Rep.sb sbC:=by
 intro w S cs y h
 revert cs
 refine Sb.ind (P:=fun y=> ∀ {cs:List Value},Rep.sb.rd w S cs y→CellsR w S (sbC y) cs) (fun t ih cs h=>?_) y
 have h:Sb.rd w S cs t:=h
 rw [Sb.rd] at h
 obtain ⟨A1,n1,c1,A2,n2,c2,A3,n3,c3,rfl,h1,h2,h3,h4,h5,h6⟩:=h
 rw [sbC_eq]
 refine cellsR_cons (.v _ rfl) (cellsR_cons (.v _ rfl) (cellsR_cons (rd_bytes h1) (cellsR_cons ?_ (cellsR_cons (.v _ rfl) (cellsR_cons ?_ cellsR_nil)))))
 ·have:=rd_slice (r:=Rep.u8.slice) (f:=fun x=>[bytesD x]) (fun _=>rfl) (fun {y cs} _ hr=>?_) h2
  ·rwa [show (t.names.flatMap fun x=>[bytesD x])=t.names.map bytesD from by induction t.names with|nil=>rfl|cons x l ih=>rw [List.flatMap_cons,ih];rfl] at this
  ·obtain ⟨A,n,c,rfl,hs⟩:=hr
   exact cellsR_cons (rd_bytes hs) cellsR_nil
 ·exact rd_slice (r:=Rep.sb) sbC_len (fun hy hr=>ih _ hy hr) ⟨h3,h4,h5,h6⟩
theorem cellsR_wd {w:World} {S:Nat→Prop} (v:Wd):CellsR w S (wdC v) (wdV v):=by
 unfold wdC wdV
 exact cellsR_cons (.v _ rfl) (cellsR_cons (.v _ rfl) (cellsR_cons (.v _ rfl) (cellsR_cons (.v _ rfl) cellsR_nil)))
theorem cellsOf_en:CellsOf Rep.en enC:=by
 intro w S cs y h
 obtain ⟨l1,l2,rfl,h1,h2⟩:=h
 exact cellsR_app (cellsOf_sb h1) (cellsR_cons (.v _ rfl) (cellsR_app (cellsOf_tag h2) (cellsR_wd _)))
end Go.Proofs.YtfammdfpgccnfaaGreatDoor
namespace Go.Proofs.YtfammdfpgccnfaaGreatDoor
open Go.RowKit
theorem nil_may:aclMay []=true:=acl_may (aclOk_iff.2 ⟨by simp,fun e he=>by cases he⟩) (fun e he=>by cases he) (by simp)
theorem aclV_nil:aclV []=listT [atomT wAcl]:=rfl
theorem aclNil_fit:AclFit []:=by
 refine ⟨fun e he=>?_,by simp,by simp⟩
 cases he
theorem aclGreat_fit {l:List En} (h:aclGreat l=false) (hw:(l.map En.wt).sum≤2000000):(∀ e∈l,e.fit)∧l.length≤20:=by
 unfold aclGreat at h
 simp only [Bool.or_eq_false_iff,decide_eq_false_iff_not,List.any_eq_false,Bool.not_eq_true] at h
 obtain ⟨h1,h2⟩:=h
 refine ⟨fun e he=>?_,by omega⟩
 have hs:e.tag.wt+e.win.big≤(l.map En.wt).sum:=sum_memT (f:=En.wt) he
 obtain ⟨g1,g2⟩:=h2 e he
 exact ⟨Sb.fit_of _ 0 g1,by omega,great_nodes g2,big_64 (by omega)⟩
section
variable {G:Nat→Option (List D)}
theorem awake20_m (hG:G 0=some powD):Spec Tryz.prog G 18 [] (.one (.c (.v (.bool true)))):=by
 have h1:=aput_m (G:=G) hG [] aclNil_fit
 unfold aputD at h1
 rw [nil_may,if_pos rfl,if_pos rfl,List.length_nil,List.flatMap_nil] at h1
 have hw:(aclV []).wt≤2000000:=by
  rw [aclV_nil,wt_listT,List.map_cons,List.map_nil,List.sum_cons,List.sum_nil,wt_atomT]
  have:wAcl.length=3:=rfl
  omega
 have h2:=aget_m (G:=G) hG (aclV []) rfl hw
 unfold agetD at h2
 rw [refA_val nil_may,Option.getD_some,List.length_nil,List.flatMap_nil,show (if (some ([]:List En)).isSome=true then (0:Int) else 3)=0 from rfl] at h2
 have h3:=headref_m (G:=G) (aclV []) rfl wAcl
 rw [show headB (aclV []) wAcl=true from by rw [aclV_nil,headB_list];decide] at h3
 rw [aclV_nil,show listT [atomT wAcl]= .mk true false [] [] [atomT wAcl] from rfl,treeC_mk] at h1 h2 h3
 generalize hA:atomT wAcl=A at *
 clear hA
 have c1:(((1:Nat):Int)==1)=true:=rfl
 have c0:(((0:Nat):Int)==0)=true:=rfl
 unfold wAcl at h3
 simp only [bD,bytesD,List.flatMap_cons,List.flatMap_nil,treeC_eq A,List.append_nil,List.length_cons,List.length_nil,Nat.zero_add] at *
 refine spec_of Tryz.func18 rfl rfl rfl (by kernel_rfl) rfl fun K=>?_
 (repeat' (first|with_reducible (first|refine zA fun Kn hK=>?_|refine zU ?_|refine Nx.go ?_|go_step)|refine ⟨none,?_⟩|refine ⟨_,h1,?_⟩|refine ⟨_,h2,?_⟩|refine ⟨_,h3,?_⟩|with_reducible (first|refine zI ?_|refine zV ?_)|simp (maxSteps:=9^9) (disch:=omega) only [wq]|with_reducible refine zM (fun hb=>?_) (fun hb=>?_)<;>try simp only [hb]|with_reducible refine And.intro (by first|omega|(simp;done)|(simp;omega)) ?_|simp (maxSteps:=9^9) -implicitDefEqProofs only [go_sem,c1,c0,decide_true,bne,Bool.not_true,Bool.not_false]))
 all_goals rfl
end
end Go.Proofs.YtfammdfpgccnfaaGreatDoor
namespace Go.Proofs.YtfammdfpgccnfaaGreatDoor
open Go.ChangeShapes Go.WideShapes Go.ChangeAt Go.RowKit Go.Deep
def Sb.wt (s:Sb):Nat:=4+s.kd.length+(s.names.map fun n=>n.length+1).sum+(s.kids.attach.map fun x=>Sb.wt x.1).sum
termination_by SizeOf.sizeOf s
decreasing_by exact Sb.kid_lt x.2
theorem Sb.wt_eq (s:Sb):s.wt=4+s.kd.length+(s.names.map fun n=>n.length+1).sum+(s.kids.map Sb.wt).sum:=by
 rw [Sb.wt]
 simp
theorem keyV_wt (s:Bool) (d:List UInt8):(keyV s d).wt≤30+d.length:=by
 unfold keyV
 split
 ·rw [wt_listT]
  have h1:tHash.length≤4:=by decide
  have h2:tSha.length≤6:=by decide
  simp only [List.map_cons,List.map_nil,List.sum_cons,List.sum_nil,wt_atomT]
  omega
 ·rw [wt_listT]
  have h1:tPub.length≤10:=by decide
  have h2:tEd.length≤7:=by decide
  simp only [List.map_cons,List.map_nil,List.sum_cons,List.sum_nil,wt_atomT,wt_listT]
  omega
theorem sval_le: ∀ (s:Sb) (k:Nat),s.right k=true→s.val.wt≤10*s.wt:=by
 refine Sb.ind fun s ih k h=>?_
 have hk:=keyV_wt s.ks s.kd
 rw [Sb.wt_eq,Sb.val_eq]
 by_cases h1:s.kind=1
 ·rw [if_pos h1]
  omega
 rw [if_neg h1]
 by_cases h2:s.kind=2
 ·rw [if_pos h2,wt_listT]
  have hn: ∀ l:List (List UInt8),((l.map atomT).map Tree.wt).sum=(l.map fun n=>n.length+1).sum:=by
   intro l
   induction l with
   | nil=>rfl
   | cons x l ih=>simp only [List.map_cons,List.sum_cons,ih,wt_atomT];omega
  have h4:tName.length=4:=rfl
  simp only [List.map_cons,List.sum_cons,wt_atomT,hn]
  omega
 rw [if_neg h2]
 by_cases h3:s.kind=3
 ·obtain ⟨ho,hr⟩:=right_3 h h3
  obtain ⟨_,_,_,_,k1,k2,k8⟩:=ok3S ho
  have hs: ∀ l:List Sb,(∀ x∈l,x.val.wt≤10*x.wt)→((l.map Sb.val).map Tree.wt).sum≤10*(l.map Sb.wt).sum:=by
   intro l
   induction l with
   | nil=>simp
   | cons x l ih =>
    intro h
    have h0:=h x (by simp)
    have:=ih fun y hy=>h y (by simp [hy])
    simp only [List.map_cons,List.sum_cons]
    omega
  have hs:=hs s.kids fun x hx=>ih x hx (k+1) (hr x hx)
  have hd1:(dec s.k.toNat).length≤1:=dec_len (n:=s.k.toNat) 0 (by omega)
  have hd2:(dec s.kids.length).length≤1:=dec_len (n:=s.kids.length) 0 (by omega)
  have h6:tKofN.length=6:=rfl
  rw [wt_listT]
  simp only [List.map_cons,List.sum_cons,wt_atomT]
  omega
 ·rcases right_kind h with h|h|h
  ·exact (h1 h).elim
  ·exact (h2 h).elim
  ·exact (h3 h).elim
def En.wt2 (e:En):Nat:=e.sub.wt+e.tag.wt+e.win.big
theorem enV_le {e:En} (h:e.fit):(enV e).wt≤10*e.sub.wt+e.tag.wt+40300:=by
 have f4:=h.nodes
 have a3:=val_wt e.tag
 have a4:=winV_wt e.win
 have s1:(if e.sub.may=true then e.sub.val else zeroT).wt≤10*e.sub.wt+1:=by
  split
  ·rename_i hh
   rw [Sb.may,Bool.and_eq_true] at hh
   have:=sval_le e.sub 1 hh.1
   omega
  ·rw [zeroT_wt];omega
 have t1:(if tMay e.tag=true then e.tag.val else zeroT).wt≤e.tag.wt+40001:=by
  split
  ·omega
  ·rw [zeroT_wt];omega
 have w1:((winO e.win).map Tree.wt).sum≤101:=by
  unfold winO
  split
  ·simp
  ·rw [List.map_cons,List.map_nil,List.sum_cons,List.sum_nil]
   split
   ·omega
   ·rw [zeroT_wt];omega
 have d1:((if e.dlg=true then [propT] else []).map Tree.wt).sum≤11:=by
  split
  ·rw [List.map_cons,List.map_nil,List.sum_cons,List.sum_nil,propT_wt];omega
  ·simp
 have k1:wEntry.length=5:=rfl
 have k2:wSubject.length=7:=rfl
 have k3:wTagW.length=3:=rfl
 unfold enV
 rw [wt_listT]
 simp only [List.map_cons,List.sum_cons,List.map_append,List.sum_append,wt_atomT,pairT_wt]
 omega
theorem aclGreat_all {l:List En} (h:aclGreat l=false) (hw:(l.map En.wt2).sum≤2000000):AclFit l∧l.length≤20:=by
 have h12:(l.map En.wt).sum≤(l.map En.wt2).sum:=by
  clear h hw
  induction l with
  | nil=>simp
  | cons x l ih =>
   simp only [List.map_cons,List.sum_cons]
   have:x.wt≤x.wt2:=by
    show x.tag.wt+x.win.big≤x.sub.wt+x.tag.wt+x.win.big
    omega
   omega
 obtain ⟨hf,h20⟩:=aclGreat_fit h (by omega)
 have hs: ∀ l:List En,(∀ e∈l,e.fit)→((l.map enV).map Tree.wt).sum≤10*(l.map En.wt2).sum+40300*l.length:=by
  intro l
  induction l with
  | nil=>intro _;simp
  | cons x l ih =>
   intro h
   have h0:=enV_le (h x (by simp))
   have h1:=ih fun y hy=>h y (by simp [hy])
   have h2:x.wt2=x.sub.wt+x.tag.wt+x.win.big:=rfl
   simp only [List.map_cons,List.sum_cons,List.length_cons]
   omega
 have:=hs l hf
 exact ⟨⟨hf,by omega,by omega⟩,h20⟩
section
variable {P:Program} {t e:TypeId}
theorem key_atw {H:Type} {enc:TypeId × Value→H} {w:World} {sp:Nat→Bool} {held:Bool} {n:Nat} {cs:List Value} {x:DataW H × List MemPlace} {tK tb tB ty:TypeId} {fs:Array Field} (ht:P.underlying tK=some (.struct fs)) (hf:fs.toList.map (fun f=>(f.type,f.offset))=[(tb,0),(tB,1)]) (hc:P.cellsOf tK=2) (hb:P.underlying tb=some .bool) (cb:P.cellsOf tb=1)
  (hB:P.underlying tB=some (.slice ty)) (cB:P.cellsOf tB=1) (hy:P.underlying ty=some (.int .u8)) (cy:P.cellsOf ty=1) (h:DataW.trod enc P w 0 sp held n tK cs=some x) :
  ∃ (b:Bool) (y:List UInt8) (A:Option Addr) (k c:Nat),cs=[.bool b,.slice A k c]∧Rep.u8.sl w (fun b=>b<w.heap.size) A k c y∧y.length+1≤Rows.uptoBulk x.1:=by
 obtain ⟨m,xs,_,hx,hl,hcl,hg⟩:=field_at ht h hf
 rw [hc] at hcl
 match xs,hl,cs,hcl with
 | [x0,x1],_,[c0,c1],_ =>
  have e0:=hg 0 _ _ rfl rfl
  have e1:=hg 1 _ _ rfl rfl
  dsimp only at e0 e1
  rw [cb] at e0
  rw [cB] at e1
  obtain ⟨b0,q0,_⟩:=DataW.trod_bool hb e0
  obtain ⟨y,A,k,c,q1,s,hw⟩:=bytes_at hB hy cy e1
  simp only [List.drop_zero,List.drop_succ_cons,List.take_succ_cons,List.take_zero,List.cons.injEq,and_true] at q0 q1
  subst q0 q1
  refine ⟨b0,y,A,k,c,rfl,s,?_⟩
  rw [hx]
  simp only [Rows.uptoBulk,Rows.uptoBulkAll,List.map_cons,List.map_nil]
  omega
theorem opensN_sbw {tk tK tN ti tl tb tB ty:TypeId} {fs fk:Array Field} (ht:P.underlying t=some (.struct fs)) (hf:fs.toList.map (fun f=>(f.type,f.offset))=[(tk,0),(tK,1),(tN,3),(ti,4),(tl,5)]) (hc:P.cellsOf t=6)
  (hK:P.underlying tK=some (.struct fk)) (hfk:fk.toList.map (fun f=>(f.type,f.offset))=[(tb,0),(tB,1)]) (cK:P.cellsOf tK=2)
  (hk:P.underlying tk=some (.int .u8)) (ck:P.cellsOf tk=1) (hb:P.underlying tb=some .bool) (hB:P.underlying tB=some (.slice ty)) (hy:P.underlying ty=some (.int .u8)) (hl:P.underlying tl=some (.slice t))
  (hN:P.underlying tN=some (.slice tB)) (cN:P.cellsOf tN=1) (hi:P.underlying ti=some (.int .i64)) (ci:P.cellsOf ti=1)
  (cb:P.cellsOf tb=1) (cB:P.cellsOf tB=1) (cy:P.cellsOf ty=1) (cl:P.cellsOf tl=1): ∀ fuel,OpensN P fuel t Rep.sb Sb.wt:=by
 intro fuel
 induction fuel using Nat.strongRecOn with
 | _ fuel ih =>
 intro H enc w sp held cs x h
 obtain ⟨m,xs,rfl,hx,hlx,hcl,hg⟩:=field_at ht h hf
 rw [hc] at hcl
 match xs,hlx,cs,hcl with
 | [x0,x1,x2,x3,x4],_,[c0,c1,c2,c3,c4,c5],_ =>
  have e0:=hg 0 _ _ rfl rfl
  have e1:=hg 1 _ _ rfl rfl
  have e2:=hg 2 _ _ rfl rfl
  have e3:=hg 3 _ _ rfl rfl
  have e4:=hg 4 _ _ rfl rfl
  dsimp only at e0 e1 e2 e3 e4
  rw [ck] at e0
  rw [cK] at e1
  rw [cN] at e2
  rw [ci] at e3
  rw [cl] at e4
  obtain ⟨k0,q0⟩:=open_u8 hk e0
  obtain ⟨b1,y1,A1,n1,k1,q1,s1,w1⟩:=key_atw hK hfk cK hb cb hB cB hy cy e1
  obtain ⟨y2,⟨A2,n2,k2,q2,s2⟩,w2⟩:=opensN_slice (r:=Rep.u8.slice) (wt:=fun xs=>(xs.map fun _=>1).sum+1) m hN cB (fun j hj=>opensN_slice j hB cy fun i _=>opensN_u8 i hy cy) _ _ _ _ _ _ _ e2
  obtain ⟨k3,q3,_⟩:=open_i64 hi e3
  obtain ⟨y4,⟨A4,n4,k4,q4,s4⟩,w4⟩:=opensN_slice (r:=Rep.sb) (wt:=Sb.wt) m hl hc (fun j hj=>ih j (by omega)) _ _ _ _ _ _ _ e4
  simp only [List.drop_zero,List.drop_succ_cons,List.take_succ_cons,List.take_zero,List.cons.injEq,and_true] at q0 q1 q2 q3 q4
  obtain ⟨q1a,q1b⟩:=q1
  subst q0 q1a q1b q2 q3 q4
  refine ⟨.mk k0 b1 y1 y2 k3 y4,?_,?_⟩
  ·show Sb.rd w _ _ (.mk k0 b1 y1 y2 k3 y4)
   rw [Sb.rd]
   exact ⟨A1,n1,k1,A2,n2,k2,A4,n4,k4,rfl,s1,s2,s4.1,s4.2.1,s4.2.2.1,s4.2.2.2⟩
  ·rw [Sb.wt_eq,hx]
   simp only [sum_ones] at w2
   have w4':(y4.map Sb.wt).sum+1≤Rows.uptoBulk x4.1:=w4
   simp only [Rows.uptoBulk,Rows.uptoBulkAll,List.map_cons,List.map_nil,Sb.kd,Sb.names,Sb.kids]
   omega
theorem opensN_enw {tS tb tT tW ti:TypeId} {fs fw:Array Field} (ht:P.underlying t=some (.struct fs)) (hf:fs.toList.map (fun f=>(f.type,f.offset))=[(tS,0),(tb,6),(tT,7),(tW,17)]) (hc:P.cellsOf t=21)
  (hS: ∀ fuel,OpensN P fuel tS Rep.sb Sb.wt) (cS:P.cellsOf tS=6) (hT: ∀ fuel,OpensN P fuel tT Rep.tag Tg.wt) (cT:P.cellsOf tT=10) (hb:P.underlying tb=some .bool) (cb:P.cellsOf tb=1)
  (hW:P.underlying tW=some (.struct fw)) (hfw:fw.toList.map (fun f=>(f.type,f.offset))=[(tb,0),(ti,1),(tb,2),(ti,3)]) (cW:P.cellsOf tW=4) (hi:P.underlying ti=some (.int .i64)) (ci:P.cellsOf ti=1) (fuel:Nat) :
  OpensN P fuel t Rep.en En.wt2:=by
 intro H enc w sp held cs x h
 obtain ⟨m,xs,rfl,hx,hlx,hcl,hg⟩:=field_at ht h hf
 rw [hc] at hcl
 match xs,hlx,cs,hcl with
 | [x0,x1,x2,x3],_,[c0,c1,c2,c3,c4,c5,c6,c7,c8,c9,c10,c11,c12,c13,c14,c15,c16,c17,c18,c19,c20],_ =>
  have e0:=hg 0 _ _ rfl rfl
  have e1:=hg 1 _ _ rfl rfl
  have e2:=hg 2 _ _ rfl rfl
  have e3:=hg 3 _ _ rfl rfl
  dsimp only at e0 e1 e2 e3
  rw [cS] at e0
  rw [cb] at e1
  rw [cT] at e2
  rw [cW] at e3
  obtain ⟨y0,r0,w0⟩:=hS _ _ _ _ _ _ _ _ e0
  obtain ⟨b1,q1,_⟩:=DataW.trod_bool hb e1
  obtain ⟨y2,r2,w2⟩:=hT _ _ _ _ _ _ _ _ e2
  obtain ⟨v3,q3,i3⟩:=win_at hW hfw cW hb cb hi ci e3
  simp only [List.drop_zero,List.drop_succ_cons,List.take_succ_cons,List.take_zero,List.cons.injEq,and_true] at r0 q1 r2 q3
  subst q1
  refine ⟨⟨y0,b1,y2,v3⟩,⟨[c0,c1,c2,c3,c4,c5],[c7,c8,c9,c10,c11,c12,c13,c14,c15,c16],?_,r0,r2⟩,?_⟩
  ·rw [← q3]
   rfl
  ·have hb:=in64_big i3
   unfold En.wt2
   dsimp only
   rw [hx]
   simp only [Rows.uptoBulk,Rows.uptoBulkAll,List.map_cons,List.map_nil]
   omega
end
theorem opens_sbw (fuel:Nat):OpensN Tryz.prog fuel 28 Rep.sb Sb.wt:=
 opensN_sbw Tryz.underlying28 (by kernel_rfl) (by kernel_rfl) Tryz.underlying24 (by kernel_rfl) (by kernel_rfl) Tryz.underlying5 (by kernel_rfl) Tryz.underlying4 Tryz.underlying22 Tryz.underlying5 Tryz.underlying26 Tryz.underlying25 (by kernel_rfl) Tryz.underlying3 (by kernel_rfl) (by kernel_rfl) (by kernel_rfl) (by kernel_rfl) (by kernel_rfl) fuel
theorem opens_enw (fuel:Nat):OpensN Tryz.prog fuel 54 Rep.en En.wt2:=
 opensN_enw Tryz.underlying54 (by kernel_rfl) (by kernel_rfl) opens_sbw (by kernel_rfl) opens_tag (by kernel_rfl) Tryz.underlying4 (by kernel_rfl) Tryz.underlying37 (by kernel_rfl) (by kernel_rfl) Tryz.underlying2 (by kernel_rfl) fuel
theorem opens_ensw (fuel:Nat):OpensN Tryz.prog fuel 50 Rep.en.slice (fun l=>(l.map En.wt2).sum+1):=
 opensN_slice (P:=Tryz.prog) fuel Tryz.underlying50 (by kernel_rfl) fun m _=>opens_enw m
end Go.Proofs.YtfammdfpgccnfaaGreatDoor
namespace Go.Proofs.YtfammdfpgccnfaaGreatDoor
open Go.RowKit
theorem flat_takeN {α:Type} {f:α→List D} {n:Nat} (hf: ∀ x,(f x).length=n): ∀ (l:List α) (k:Nat),(l.flatMap f).take (k*n)=(l.take k).flatMap f
 | [],k=>by simp
 | x::l,0=>by simp
 | x::l,k+1=>by
  rw [List.flatMap_cons,List.take_succ_cons,List.flatMap_cons,← flat_takeN hf l k,Nat.succ_mul,Nat.add_comm (k*n) n]
  rw [List.take_append,hf,Nat.add_sub_cancel_left,List.take_of_length_le (by rw [hf];omega)]
theorem fit_take {l:List En} (h:AclFit l) (k:Nat):AclFit (l.take k):=by
 have hsum: ∀ (l:List En) (k:Nat),(((l.take k).map enV).map Tree.wt).sum≤((l.map enV).map Tree.wt).sum:=by
  intro l
  induction l with
  | nil=>intro k;simp
  | cons x l ih =>
   intro k
   cases k with
   | zero=>simp
   | succ k =>
    have:=ih k
    simp only [List.take_succ_cons,List.map_cons,List.sum_cons]
    omega
 exact ⟨fun e he=>h.all e (List.mem_of_mem_take he),Nat.le_trans (hsum l k) h.wt,by have:=h.len;rw [List.length_take];omega⟩
section
variable {G:Nat→Option (List D)}
theorem aclfront_m (hG:G 0=some powD) (l:List En) (n:UInt8) (hw:(l.map En.wt2).sum≤2000000):Spec Tryz.prog G 7 [.c (.sl l.length (l.flatMap enC)),.c (.v (.int .u8 (n.toNat:Int)))] (.one (.c (.v (.bool true)))):=by
 have hwk:=awake20_m (G:=G) hG
 have tw: ∀ e∈l,e.tag.wt≤1000000000:=fun e he=>by
  have hs:e.sub.wt+e.tag.wt+e.win.big≤(l.map En.wt2).sum:=sum_memT (f:=En.wt2) he
  omega
 have g1:=ragreat_m (G:=G) l tw
 have n0:=len0_empty l
 cases hga:aclGreat l with
 | true =>
  rw [hga] at g1
  refine spec_of Tryz.func7 rfl rfl rfl (by kernel_rfl) rfl fun K=>?_
  (repeat' (first|with_reducible (first|refine zA fun Kn hK=>?_|refine zU ?_|refine Nx.go ?_|go_step)|refine ⟨_,g1,?_⟩|refine ⟨_,hwk,?_⟩|with_reducible (first|refine zI ?_|refine zV ?_)|simp (maxSteps:=9^9) (disch:=omega) only [wq]|with_reducible refine zM (fun hb=>?_) (fun hb=>?_)<;>try simp only [hb]|with_reducible refine And.intro (by first|omega|(simp;done)|(simp;omega)) ?_|simp (maxSteps:=9^9) -implicitDefEqProofs only [go_sem,decide_true]))
 | false =>
  rw [hga] at g1
  cases hl0:emptyL l with
  | true =>
   rw [hl0] at n0
   refine spec_of Tryz.func7 rfl rfl rfl (by kernel_rfl) rfl fun K=>?_
   (repeat' (first|with_reducible (first|refine zA fun Kn hK=>?_|refine zU ?_|refine Nx.go ?_|go_step)|refine ⟨_,g1,?_⟩|refine ⟨_,hwk,?_⟩|with_reducible (first|refine zI ?_|refine zV ?_)|simp (maxSteps:=9^9) (disch:=omega) only [wq]|with_reducible refine zM (fun hb=>?_) (fun hb=>?_)<;>try simp only [hb]|with_reducible refine And.intro (by first|omega|(simp;done)|(simp;omega)) ?_|simp (maxSteps:=9^9) -implicitDefEqProofs only [go_sem,n0,decide_true]))
  | false =>
   rw [hl0] at n0
   obtain ⟨hf,h20⟩:=aclGreat_all hga hw
   clear tw hga
   have hpos:0<l.length:=by
    cases l with
    | nil=>cases hl0
    | cons x l=>simp
   have p1:=aput_m (G:=G) hG l hf
   unfold aputD at p1
   cases hm:aclMay l with
   | false =>
    rw [hm] at p1
    rw [if_neg (by decide),if_neg (by decide),zeroT_C] at p1
    refine spec_of Tryz.func7 rfl rfl rfl (by kernel_rfl) rfl fun K=>?_
    (repeat' (first|with_reducible (first|refine zA fun Kn hK=>?_|refine zU ?_|refine Nx.go ?_|go_step)|refine ⟨_,g1,?_⟩|refine ⟨_,p1,?_⟩|refine ⟨_,hwk,?_⟩|with_reducible (first|refine zI ?_|refine zV ?_)|simp (maxSteps:=9^9) (disch:=omega) only [wq]|with_reducible refine zM (fun hb=>?_) (fun hb=>?_)<;>try simp only [hb]|with_reducible refine And.intro (by first|omega|(simp;done)|(simp;omega)) ?_|simp (maxSteps:=9^9) -implicitDefEqProofs only [go_sem,n0,decide_true,bne,Bool.not_true,Bool.not_false]))
   | true =>
    rw [hm] at p1
    rw [if_pos rfl,if_pos rfl] at p1
    have hn256:n.toNat<256:=UInt8.toNat_lt n
    obtain ⟨k,hk⟩: ∃ k,n.toNat%l.length=k:=⟨_,rfl⟩
    have hkl:k<l.length:=by rw [← hk];exact Nat.mod_lt _ hpos
    have hrem:((n.toNat:Int)).tmod (l.length:Int)=(k:Int):=by rw [← hk];rfl
    have p2:=aput_m (G:=G) hG (l.take k) (fit_take hf k)
    unfold aputD at p2
    rw [aclMay_take hm k,if_pos rfl,if_pos rfl,List.length_take,Nat.min_eq_left (by omega)] at p2
    have hft:(l.flatMap enC).take (k*21)=(l.take k).flatMap enC:=flat_takeN enC_len l k
    have hV:aclV l= .mk true false [] [] (atomT wAcl::l.map En.val):=rfl
    have hW:aclV (l.take k)= .mk true false [] [] ((atomT wAcl::l.map En.val).take (k+1)):=by
     unfold aclV
     rw [List.take_succ_cons,List.map_take]
     rfl
    have hww:(aclV (l.take k)).wt≤1000000000:=by
     have h1:=aclMay_take hm k
     rw [aclMay,Bool.and_eq_true] at h1
     have:=may_wt h1.2
     omega
    have s1:=sameref_m (G:=G) (aclV (l.take k)) (aclV (l.take k)) _ _ rfl rfl hww
    rw [same_t rfl] at s1
    have hKl:(atomT wAcl::l.map En.val).length=l.length+1:=by rw [List.length_cons,List.length_map]
    rw [hV] at p1
    rw [hW] at p2 s1
    have hkt:((atomT wAcl::l.map En.val).flatMap treeC).take ((k+1)*5)=((atomT wAcl::l.map En.val).take (k+1)).flatMap treeC:=flat_takeN treeC_len _ (k+1)
    have hKF:((atomT wAcl::l.map En.val).flatMap treeC).length=(l.length+1)*5:=by rw [treeC_flen,hKl]
    have hTl:((atomT wAcl::l.map En.val).take (k+1)).length=k+1:=by rw [List.length_take,hKl,Nat.min_eq_left (by omega)]
    generalize atomT wAcl::l.map En.val=KS at *
    rw [treeC_mk,hKl] at p1
    rw [treeC_mk,hTl] at p2 s1
    have c1:(((l.length+1:Nat):Int)==(l.length:Int)+1)=true:=by rw [beq_iff_eq];omega
    have hle:(l.flatMap enC).length=l.length*21:=enC_flen l
    clear hW hV hww hm hf hl0
    rw [← hft] at p2
    rw [← hkt] at p2 s1
    generalize KS.flatMap treeC=KC at *
    generalize l.flatMap enC=LC at *
    simp only [bD,bytesD,List.length_nil,List.map_nil] at *
    refine spec_of Tryz.func7 rfl rfl rfl (by kernel_rfl) rfl fun K=>?_
    (repeat' (first|with_reducible (first|refine zA fun Kn hK=>?_|refine zU ?_|refine Nx.go ?_|go_step)|refine ⟨_,g1,?_⟩|refine ⟨_,p1,?_⟩|refine ⟨_,p2,?_⟩|refine ⟨_,s1,?_⟩|refine ⟨_,hwk,?_⟩|with_reducible (first|refine zI ?_|refine zV ?_)|simp (maxSteps:=9^9) (disch:=omega) only [wq]|with_reducible refine zM (fun hb=>?_) (fun hb=>?_)<;>try simp only [hb]|with_reducible refine And.intro (by first|omega|(simp;done)|(simp;omega)) ?_|simp (maxSteps:=9^9) -implicitDefEqProofs only [go_sem,n0,hrem,c1,hle,hKF,decide_true,bne,Bool.not_true,Bool.not_false]))
    all_goals first|rfl|exact absurd (hb.symm.trans c1) (by decide)
end
end Go.Proofs.YtfammdfpgccnfaaGreatDoor
