/- Parts of the proof, laid together. -/
import Derived.Test.YtfammdfpgccnfaaGreatDoorA7
set_option linter.unusedVariables false
set_option linter.unusedSimpArgs false
set_option maxRecDepth 100000
set_option maxHeartbeats 8000000
namespace Go.Proofs.YtfammdfpgccnfaaGreatDoor
open Go.RowKit
def datC:C→C
 | .nil=> .d (.sl 0 [])
 | c=>c
theorem datC_nil:datC .nil= .d (.sl 0 []):=rfl
theorem datC_d (x:D):datC (.d x)= .d x:=rfl
theorem rc_dat {w:World} {S:Nat→Prop} {m:NM} {dom:Nat→Prop} {c:C} {u:Value} (h:RC w S m dom c u):RC w S m dom (datC c) u:=by
 cases c with
 | nil =>
  have hu:u= .slice none 0 0:=h
  subst hu
  exact (show RD w S (.sl 0 []) (.slice none 0 0) from .nil none 0 (by decide))
 | _=>exact h
theorem sound_dataO {P:Program} {G:Nat→Option (List D)} {K:Ctx G} {F:Fr} {Q:Exit→FSt→Prop} {s:FSt} {c:Code} (r:Nat) {o:AObj} (h1:s.ob r=some (some o)) (hne:0<o.cs.length) (hfr:o.fr=false)
  (h:Sound P K F c Q ⟨s.sl,upd s.ob r (some (some { o with cs:=o.cs.map datC }))⟩):Sound P K F c Q s:=fun m a w hr=>by
 refine h m a w ?_
 have hvd:m.vd r=false:=by
  rcases (hr.heap.obj r o h1).row with ⟨_,hcs,_⟩|⟨hv,_⟩
  ·rw [hcs] at hne
   cases hne
  ·exact hv
 have t:Turn K m m s.ob (upd s.ob r (some (some { o with cs:=o.cs.map datC }))) w w (fun x=>x=r):=by
  refine ⟨fun r' hr'=>upd_ne hr',fun r' hr'=>?_,fun _ _=>rfl,fun _ _=>rfl,fun _ _=>rfl,Ev.refl _ _,fun r' hr' ⟨o',h1',h2⟩ hv'=> .inl ⟨r,rfl,⟨o,h1,hfr⟩,hvd,by rw [hr']⟩,fun r1 r2 hr hr' _ _ _ _ _=>hr.trans hr'.symm⟩
  show upd s.ob r _ r'≠none
  unfold upd
  split
  ·simp
  ·exact hr'
 have k:=t.keep hr.heap
 have hh:HRel K m (upd s.ob r (some (some { o with cs:=o.cs.map datC }))) w:=t.rel hr.heap (fun r' o' hr' ho'=>by
   subst hr'
   rw [upd_same] at ho'
   injection ho' with ho'
   injection ho' with ho'
   subst ho'
   rcases (hr.heap.obj r' o h1).row with ⟨hv,_⟩|⟨hv,arr,g1,g2,g3,g4,g5⟩
   ·rw [hvd] at hv
    cases hv
   ·refine ⟨.inr ⟨hv,arr,g1,g2,fun he=>by simpa using g3 he,by simpa using g4,fun j x hx=>?_⟩⟩
    have hx:(o.cs.map datC)[j]?=some x:=hx
    rw [List.getElem?_map,Option.map_eq_some_iff] at hx
    obtain ⟨y,hy,rfl⟩:=hx
    obtain ⟨u,hu,hrc⟩:=g5 j y hy
    exact ⟨u,hu,rc_dat (k.rc hrc)⟩) (fun r' o' hr' ho' hf _=>by
   subst hr'
   rw [upd_same] at ho'
   injection ho' with ho'
   injection ho' with ho'
   subst ho'
   rw [show o.fr=true from hf] at hfr
   cases hfr)
 exact hr.turn (dst:=none) (v:= .bot) (u:=undef) t hh (fun d hd=>by cases hd) trivial
theorem getSb_fit {v:Tree} {s:Sb} (h:getSb v=some s):s.fit:=by
 have h1:=((getS_eq v).1 s h).1
 have hm:v.may=true:=by
  unfold getSb at h
  split at h
  ·assumption
  ·cases h
 rw [← h1]
 exact readS_fit v 1 (may_sm hm)
theorem noneSb_fit:Sb.none.fit:=by
 rw [Sb.fit_eq]
 exact ⟨⟨Nat.zero_le _,Nat.zero_le _,Nat.zero_le _,fun n hn=>by cases hn⟩,fun x hx=>by cases hx⟩
theorem getTg_sz {v:Tree} {t:Tg} (h:getTg v=some t):t.wt≤v.wt∧t.nodes≤512:=by
 obtain ⟨a,b⟩:=getTg_of h
 have hm:v.may=true:=by
  unfold getTg at h
  split at h
  ·assumption
  ·cases h
 rw [tMay,Bool.and_eq_true] at a
 have h1:=wt_val t a.1
 have h2:=val_nodes t a.1
 rw [b] at h1 h2
 have h3:=(may_sm hm).2.1
 exact ⟨h1,by omega⟩
theorem zeroTg_sz:zeroTg.wt=1∧zeroTg.nodes=1:=by
 unfold zeroTg
 rw [Tg.wt_eq,Tg.nodes_eq]
 exact ⟨rfl,rfl⟩
section
variable {G:Nat→Option (List D)}
end
section
variable {G:Nat→Option (List D)}
end
section
variable {G:Nat→Option (List D)}
theorem rwend_m (v:Tree) {cs:List D} (hcs:treeC v=cs) (word:List UInt8) (hw:v.wt≤30000000):Spec Tryz.prog G 126 [.g cs,.c (.v (.string ⟨word.toArray⟩))] (resO (endR v word)):=by
 subst hcs
 have hh:=headref_m (G:=G) v rfl word
 have hkw: ∀ x∈v.kids,x.wt<v.wt:=fun x hx=>Tree.wt_kid hx
 cases hq:headB v word with
 | false =>
  have e:endR v word=none:=by unfold endR;rw [hq];rfl
  rw [hq] at hh
  rw [e]
  unfold resO iD
  rw [treeC_eq] at hh ⊢
  unfold bytesD at *
  refine spec_of Tryz.func126 rfl rfl rfl (by kernel_rfl) rfl fun K=>?_
  (repeat' (first|with_reducible (first|refine zA fun Kn hK=>?_|refine zU ?_|refine Nx.go ?_|go_step)|refine ⟨_,hh,?_⟩|with_reducible (first|refine zI ?_|refine zV ?_)|simp (maxSteps:=9^9) (disch:=omega) only [wq]|with_reducible refine zM (fun hb=>?_) (fun hb=>?_)<;>try simp only [hb]|with_reducible refine And.intro (by first|omega|(simp;done)|(simp;omega)) ?_|simp (maxSteps:=9^9) -implicitDefEqProofs only [go_sem,decide_true]))
  all_goals rfl
 | true =>
  rw [hq] at hh
  by_cases h2:v.kids.length=2
  ·obtain ⟨x,y,hk⟩: ∃ x y,v.kids=[x,y]:=by
    match hk:v.kids,h2 with
    | [x,y],_=>exact ⟨x,y,rfl⟩
   have hy:=hkw y (by rw [hk];simp)
   have hyd:=y.wt_data
   have hd:=rget_m (G:=G) y.data _ rfl (by omega)
   rw [← date_eq] at hd
   have e:endR v word=if y.list||y.hinted then none else dateP y.data:=by unfold endR;rw [hq,hk];rfl
   rw [e]
   have ev:=treeC_eq v
   rw [hk] at ev
   simp only [List.flatMap_cons,List.flatMap_nil,treeC_eq x,treeC_eq y,List.cons_append,List.nil_append,List.append_nil,List.length_cons,List.length_nil] at ev
   rw [ev] at hh ⊢
   have q3:((2:Nat):Int)=2:=rfl
   have q4:((2:Int)==2)=true:=rfl
   clear ev e hkw
   unfold resO iD at *
   unfold bytesD at *
   generalize y.list=yl at *
   generalize y.hinted=yh at *
   generalize dateP y.data=o at *
   cases yl<;>cases yh
   all_goals
    refine spec_of Tryz.func126 rfl rfl rfl (by kernel_rfl) rfl fun K=>?_
    (repeat' (first|with_reducible (first|refine zA fun Kn hK=>?_|refine zU ?_|refine Nx.go ?_|go_step)|refine ⟨_,hh,?_⟩|refine ⟨_,hd,?_⟩|with_reducible (first|refine zI ?_|refine zV ?_)|simp (maxSteps:=9^9) (disch:=omega) only [wq]|with_reducible refine zM (fun hb=>?_) (fun hb=>?_)<;>try simp only [hb]|with_reducible refine And.intro (by first|omega|(simp;done)|(simp;omega)) ?_|simp (maxSteps:=9^9) -implicitDefEqProofs only [go_sem,q3,q4,decide_true]))
    all_goals rfl
  ·have e:endR v word=none:=by
    unfold endR
    rw [hq]
    match hk:v.kids with
    | []=>rfl
    | [x]=>rfl
    | [x,y]=>rw [hk] at h2;exact absurd rfl h2
    | x::y::z::m=>rfl
   have q1:((v.kids.length:Int)==2)=false:=by
    rw [beq_eq_false_iff_ne]
    omega
   rw [e]
   unfold resO iD
   rw [treeC_eq] at hh ⊢
   unfold bytesD at *
   refine spec_of Tryz.func126 rfl rfl rfl (by kernel_rfl) rfl fun K=>?_
   (repeat' (first|with_reducible (first|refine zA fun Kn hK=>?_|refine zU ?_|refine Nx.go ?_|go_step)|refine ⟨_,hh,?_⟩|with_reducible (first|refine zI ?_|refine zV ?_)|simp (maxSteps:=9^9) (disch:=omega) only [wq]|with_reducible refine zM (fun hb=>?_) (fun hb=>?_)<;>try simp only [hb]|with_reducible refine And.intro (by first|omega|(simp;done)|(simp;omega)) ?_|simp (maxSteps:=9^9) -implicitDefEqProofs only [go_sem,q1,decide_true]))
   all_goals rfl
end
def rwgetD (o:Option Wd):DR:= .many [.g (wdC (o.getD Wd.none)),.c (.v (.bool o.isSome))]
section
variable {G:Nat→Option (List D)}
theorem rwget_m (v:Tree) {cs:List D} (hcs:treeC v=cs) (hw:v.wt≤30000000):Spec Tryz.prog G 106 [.g cs] (rwgetD (getR v)):=by
 subst hcs
 have hh:=headref_m (G:=G) v rfl wValid
 have hkw: ∀ x∈v.kids,x.wt<v.wt:=fun x hx=>Tree.wt_kid hx
 cases hq:headB v wValid with
 | false =>
  have e:getR v=none:=by unfold getR;rw [hq];rfl
  rw [hq] at hh
  rw [e]
  unfold rwgetD wValid at *
  rw [treeC_eq] at hh ⊢
  unfold bytesD at *
  refine spec_of Tryz.func106 rfl rfl rfl (by kernel_rfl) rfl fun K=>?_
  (repeat' (first|with_reducible (first|refine zA fun Kn hK=>?_|refine zU ?_|refine Nx.go ?_|go_step)|refine ⟨_,hh,?_⟩|with_reducible (first|refine zI ?_|refine zV ?_)|simp (maxSteps:=9^9) (disch:=omega) only [wq]|with_reducible refine zM (fun hb=>?_) (fun hb=>?_)<;>try simp only [hb]|with_reducible refine And.intro (by first|omega|(simp;done)|(simp;omega)) ?_|simp (maxSteps:=9^9) -implicitDefEqProofs only [go_sem,decide_true]))
  all_goals rfl
 | true =>
  rw [hq] at hh
  have hk0:v.kids≠[]:=by
   intro h
   unfold headB at hq
   rw [h] at hq
   simp at hq
  have ev:=treeC_eq v
  have en: ∀ x∈v.kids,Spec Tryz.prog G 126 [.g (treeC x),.c (.v (.string ⟨wNB.toArray⟩))] (resO (endR x wNB)):=fun x hx=>rwend_m x rfl wNB (by have:=hkw x hx;omega)
  have ea: ∀ x∈v.kids,Spec Tryz.prog G 126 [.g (treeC x),.c (.v (.string ⟨wNA.toArray⟩))] (resO (endR x wNA)):=fun x hx=>rwend_m x rfl wNA (by have:=hkw x hx;omega)
  have hl5:=v.wt_kids
  unfold getR
  rw [hq,if_pos rfl]
  rw [ev] at hh ⊢
  clear ev hkw hq
  generalize v.kids=L at *
  have p0:decide (((0:Nat):Int)>0)=false:=rfl
  have p1:decide (((1:Nat):Int)>0)=true:=rfl
  match L,hk0 with
  | [a],_ =>
   simp only [List.drop_one,List.tail_cons,List.flatMap_cons,List.flatMap_nil,treeC_eq a,List.cons_append,List.nil_append,List.append_nil,List.length_cons,List.length_nil] at hh ⊢
   unfold rwgetD wValid bytesD at *
   refine spec_of Tryz.func106 rfl rfl rfl (by kernel_rfl) rfl fun K=>?_
   (repeat' (first|with_reducible (first|refine zA fun Kn hK=>?_|refine zU ?_|refine Nx.go ?_|go_step)|refine ⟨_,hh,?_⟩|with_reducible (first|refine zI ?_|refine zV ?_)|simp (maxSteps:=9^9) (disch:=omega) only [wq]|with_reducible refine zM (fun hb=>?_) (fun hb=>?_)<;>try simp only [hb]|with_reducible refine And.intro (by first|omega|(simp;done)|(simp;omega)) ?_|simp (maxSteps:=9^9) -implicitDefEqProofs only [go_sem,p0,p1,decide_true]))
   all_goals rfl
  | [a,x],_ =>
   have hx1:=en x (by simp)
   have hx2:=ea x (by simp)
   rw [treeC_eq x] at hx1 hx2
   unfold resO iD at hx1 hx2
   simp only [List.drop_one,List.tail_cons,List.flatMap_cons,List.flatMap_nil,treeC_eq a,treeC_eq x,List.cons_append,List.nil_append,List.append_nil,List.length_cons,List.length_nil] at hh ⊢
   obtain ⟨o1,ho1⟩: ∃ o,endR x wNB=o:=⟨_,rfl⟩
   obtain ⟨o2,ho2⟩: ∃ o,endR x wNA=o:=⟨_,rfl⟩
   rw [ho1] at hx1
   rw [ho2] at hx2
   cases o1<;>cases o2
   all_goals
    simp only [ho1,ho2]
    clear en ea ho1 ho2
    unfold rwgetD wValid bytesD at *
    try unfold wNB at *
    try unfold wNA at *
    refine spec_of Tryz.func106 rfl rfl rfl (by kernel_rfl) rfl fun K=>?_
    (repeat' (first|with_reducible (first|refine zA fun Kn hK=>?_|refine zU ?_|refine Nx.go ?_|go_step)|refine ⟨_,hh,?_⟩|refine ⟨_,hx1,?_⟩|refine ⟨_,hx2,?_⟩|with_reducible (first|refine zI ?_|refine zV ?_)|simp (maxSteps:=9^9) (disch:=omega) only [wq]|with_reducible refine zM (fun hb=>?_) (fun hb=>?_)<;>try simp only [hb]|with_reducible refine And.intro (by first|omega|(simp;done)|(simp;omega)) ?_|simp (maxSteps:=9^9) -implicitDefEqProofs only [go_sem,p0,p1,decide_true]))
    all_goals rfl
  | a :: x::y::m,_ =>
   have hx1:=en x (by simp)
   have hx2:=ea x (by simp)
   have hy2:=ea y (by simp)
   have hml:m.length≤30000000:=by
    simp only [List.length_cons] at hl5
    omega
   rw [treeC_eq x] at hx1 hx2
   rw [treeC_eq y] at hy2
   unfold resO iD at hx1 hx2 hy2
   simp only [List.drop_one,List.tail_cons,List.flatMap_cons,treeC_eq a,treeC_eq x,treeC_eq y,List.cons_append,List.nil_append,List.length_cons] at hh ⊢
   obtain ⟨o1,ho1⟩: ∃ o,endR x wNB=o:=⟨_,rfl⟩
   obtain ⟨o2,ho2⟩: ∃ o,endR x wNA=o:=⟨_,rfl⟩
   obtain ⟨o3,ho3⟩: ∃ o,endR y wNA=o:=⟨_,rfl⟩
   rw [ho1] at hx1
   rw [ho2] at hx2
   rw [ho3] at hy2
   cases m with
   | nil =>
    have p2:decide (((0+1+1:Nat):Int)>0)=true:=rfl
    have p3:decide (((0+1:Nat):Int)>0)=true:=rfl
    have p4:decide (((2:Nat):Int)>0)=true:=rfl
    simp only [List.length_nil,List.flatMap_nil] at hh ⊢
    cases o1<;>cases o2<;>cases o3
    all_goals
     simp only [ho1,ho2,ho3]
     clear en ea ho1 ho2 ho3 hl5
     unfold rwgetD wValid bytesD at *
     try unfold wNB at *
     try unfold wNA at *
     refine spec_of Tryz.func106 rfl rfl rfl (by kernel_rfl) rfl fun K=>?_
     (repeat' (first|with_reducible (first|refine zA fun Kn hK=>?_|refine zU ?_|refine Nx.go ?_|go_step)|refine ⟨_,hh,?_⟩|refine ⟨_,hx1,?_⟩|refine ⟨_,hx2,?_⟩|refine ⟨_,hy2,?_⟩|with_reducible (first|refine zI ?_|refine zV ?_)|simp (maxSteps:=9^9) (disch:=omega) only [wq]|with_reducible refine zM (fun hb=>?_) (fun hb=>?_)<;>try simp only [hb]|with_reducible refine And.intro (by first|omega|(simp;done)|(simp;omega)) ?_|simp (maxSteps:=9^9) -implicitDefEqProofs only [go_sem,p0,p1,p2,p3,p4,List.length_nil,decide_true]))
     all_goals rfl
   | cons z m =>
    have p2:decide (((m.length+1+1:Nat):Int)>0)=true:=decide_eq_true (by omega)
    have p3:decide (((m.length+1:Nat):Int)>0)=true:=decide_eq_true (by omega)
    simp only [List.length_cons] at hh hml ⊢
    have k3:((z::m).flatMap treeC).length=(m.length+1)*5:=by rw [treeC_flen,List.length_cons]
    generalize (z::m).flatMap treeC=Z at *
    have k1: ∀ (h0 h1 h2 h3 h4 g0 g1 g2 g3 g4:D),(h0::h1::h2::h3::h4::g0::g1::g2::g3::g4::Z).take ((m.length+1+1+1+1-1)*5)=h0::h1::h2::h3::h4::g0::g1::g2::g3::g4::Z:=fun _ _ _ _ _ _ _ _ _ _=>List.take_of_length_le (by simp only [List.length_cons];omega)
    have k2: ∀ (g0 g1 g2 g3 g4:D),(g0::g1::g2::g3::g4::Z).take ((m.length+1+1+1+1-1-1)*5)=g0::g1::g2::g3::g4::Z:=fun _ _ _ _ _=>List.take_of_length_le (by simp only [List.length_cons];omega)
    have k4:Z.take ((m.length+1+1+1+1-1-1-1)*5)=Z:=List.take_of_length_le (by omega)
    have r1:m.length+1+1+1+1-1=m.length+1+1+1:=rfl
    have r2:m.length+1+1+1-1=m.length+1+1:=rfl
    have r3:m.length+1+1-1=m.length+1:=rfl
    rw [r1] at k1
    rw [r1,r2] at k2
    rw [r1,r2,r3] at k4
    have p4:decide (((m.length+1+1+1:Nat):Int)>0)=true:=decide_eq_true (by omega)
    cases o1<;>cases o2<;>cases o3
    all_goals
     simp only [ho1,ho2,ho3]
     clear en ea ho1 ho2 ho3 hl5
     unfold rwgetD wValid bytesD at *
     try unfold wNB at *
     try unfold wNA at *
     refine spec_of Tryz.func106 rfl rfl rfl (by kernel_rfl) rfl fun K=>?_
     (repeat' (first|with_reducible (first|refine zA fun Kn hK=>?_|refine zU ?_|refine Nx.go ?_|go_step)|refine ⟨_,hh,?_⟩|refine ⟨_,hx1,?_⟩|refine ⟨_,hx2,?_⟩|refine ⟨_,hy2,?_⟩|with_reducible (first|refine zI ?_|refine zV ?_)|simp (maxSteps:=9^9) (disch:=omega) only [wq]|with_reducible refine zM (fun hb=>?_) (fun hb=>?_)<;>try simp only [hb]|with_reducible refine And.intro (by first|omega|(simp;done)|(simp;omega)) ?_|simp (maxSteps:=9^9) -implicitDefEqProofs only [go_sem,p0,p1,p2,p3,p4,k1,k2,k4,r1,r2,r3,List.length_cons,decide_true]))
     all_goals rfl
end
@[go_sem] def sbK (s:Sb):List C:=[.d (bD s.kind),.d (.v (.bool s.ks)),.d (bytesD s.kd),.d (.sl s.names.length (s.names.map bytesD)),.d (.v (.int .i64 s.k)),.d (.sl s.kids.length (s.kids.flatMap sbC))]
theorem tk_none {α:Type} {f:α→Bool} {l:List α} {x:α} {k:Nat} (hx:l[k]?=some x) (hq:f x=true) (hall: ∀ y∈l.take k,f y=true): ∀ y∈l.take (k+1),f y=true:=by
 intro y hy
 rw [List.take_add_one,hx] at hy
 rcases List.mem_append.1 hy with hy|hy
 ·exact hall y hy
 ·simp at hy
  rw [hy]
  exact hq
section
variable {G:Nat→Option (List D)}
end
section
variable {G:Nat→Option (List D)}
end
theorem rkget_m {G:Nat→Option (List D)} (v:Tree) {cs:List D} (hcs:treeC v=cs):Spec Tryz.prog G 67 [.g cs] (.many [.g (keyD (rgetK v)),.c (.v (.bool (rgetK v).isSome))]):=by
 subst hcs
 refine spec_of Tryz.func67 rfl rfl rfl (by kernel_rfl) rfl fun K=>?_
 rw [treeC_eq]
 have hg:rgetK v=if headB v tHash&&v.kids.length==3&&isB (v.kid 1) tSha&&plainB (v.kid 2) 64 then some (true,(v.kid 2).data)
  else if headB v tPub&&v.kids.length==2&&headB (v.kid 1) tEd&&(v.kid 1).kids.length==2&&plainB ((v.kid 1).kid 1) 32 then some (false,((v.kid 1).kid 1).data) else none:=rfl
 by_cases h3:v.kids.length=3
 ·have e1:=flat_at treeC_len (Tree.kid_get (t:=v) (i:=1) (by omega))
  have e2:=flat_at treeC_len (Tree.kid_get (t:=v) (i:=2) (by omega))
  obtain ⟨_,_,_,c3,_⟩:=ptr_cells e2
  simp only [Nat.reduceMul,Nat.reduceAdd] at e1 e2 c3
  (repeat' (first|with_reducible (first|refine zA fun Kn hK=>?_|refine zU ?_|refine Nx.go ?_|go_step)|(refine ⟨_,headref_m v (by first|rfl|(rw [treeC_eq];first|rfl|(simp only [go_sem, *];done))) tHash,?_⟩)|(refine ⟨_,headref_m v (by first|rfl|(rw [treeC_eq];first|rfl|(simp only [go_sem, *];done))) tPub,?_⟩)|(refine ⟨_,isref_m (v.kid 1) (by first|rfl|(rw [treeC_eq];first|rfl|(simp only [go_sem, *];done))) tSha,?_⟩)|(refine ⟨_,plain_m (v.kid 2) (by first|rfl|(rw [treeC_eq];first|rfl|(simp only [go_sem, *];done))) 64,?_⟩)|with_reducible (first|refine zI ?_|refine zV ?_)|simp (maxSteps:=9^9) (disch:=omega) only [wq]|with_reducible refine zM (fun hb=>?_) (fun hb=>?_)<;>try simp only [hb]|with_reducible refine And.intro (by first|omega|(simp;done)|(simp;omega)) ?_|simp (maxSteps:=9^9) -implicitDefEqProofs only [go_sem,h3,e1,e2,c3,int_beqL]))
  all_goals (rw [hg,h3];simp only [*];rfl)
 ·have n3:(v.kids.length==3)=false:=by simpa using h3
  by_cases h2:v.kids.length=2
  ·have e1:=flat_at treeC_len (Tree.kid_get (t:=v) (i:=1) (by omega))
   obtain ⟨_,_,_,_,c4⟩:=ptr_cells e1
   simp only [Nat.reduceMul,Nat.reduceAdd] at e1 c4
   by_cases h4:(v.kid 1).kids.length=2
   ·have e2:=flat_at treeC_len (Tree.kid_get (t:=v.kid 1) (i:=1) (by omega))
    obtain ⟨_,_,_,c3,_⟩:=ptr_cells e2
    simp only [Nat.reduceMul,Nat.reduceAdd] at e2 c3
    (repeat' (first|with_reducible (first|refine zA fun Kn hK=>?_|refine zU ?_|refine Nx.go ?_|go_step)|(refine ⟨_,headref_m v (by first|rfl|(rw [treeC_eq];first|rfl|(simp only [go_sem, *];done))) tHash,?_⟩)|(refine ⟨_,headref_m v (by first|rfl|(rw [treeC_eq];first|rfl|(simp only [go_sem, *];done))) tPub,?_⟩)|(refine ⟨_,headref_m (v.kid 1) (by first|rfl|(rw [treeC_eq];first|rfl|(simp only [go_sem, *];done))) tEd,?_⟩)|(refine ⟨_,plain_m ((v.kid 1).kid 1) (by first|rfl|(rw [treeC_eq];first|rfl|(simp only [go_sem, *];done))) 32,?_⟩)|with_reducible (first|refine zI ?_|refine zV ?_)|simp (maxSteps:=9^9) (disch:=omega) only [wq]|with_reducible refine zM (fun hb=>?_) (fun hb=>?_)<;>try simp only [hb]|with_reducible refine And.intro (by first|omega|(simp;done)|(simp;omega)) ?_|simp (maxSteps:=9^9) -implicitDefEqProofs only [go_sem,h2,h4,e1,e2,c3,c4,int_beqL]))
    all_goals (rw [hg,n3,h2,h4];simp only [*,Bool.and_false,Bool.false_and];rfl)
   ·have n4:((v.kid 1).kids.length==2)=false:=by simpa using h4
    (repeat' (first|with_reducible (first|refine zA fun Kn hK=>?_|refine zU ?_|refine Nx.go ?_|go_step)|(refine ⟨_,headref_m v (by first|rfl|(rw [treeC_eq];first|rfl|(simp only [go_sem, *];done))) tHash,?_⟩)|(refine ⟨_,headref_m v (by first|rfl|(rw [treeC_eq];first|rfl|(simp only [go_sem, *];done))) tPub,?_⟩)|(refine ⟨_,headref_m (v.kid 1) (by first|rfl|(rw [treeC_eq];first|rfl|(simp only [go_sem, *];done))) tEd,?_⟩)|with_reducible (first|refine zI ?_|refine zV ?_)|simp (maxSteps:=9^9) (disch:=omega) only [wq]|with_reducible refine zM (fun hb=>?_) (fun hb=>?_)<;>try simp only [hb]|with_reducible refine And.intro (by first|omega|(simp;done)|(simp;omega)) ?_|simp (maxSteps:=9^9) -implicitDefEqProofs only [go_sem,h2,e1,c4,int_beqL,n4]))
    all_goals (rw [hg,n3,h2,n4];simp only [*,Bool.and_false,Bool.false_and];rfl)
  ·have n2:(v.kids.length==2)=false:=by simpa using h2
   (repeat' (first|with_reducible (first|refine zA fun Kn hK=>?_|refine zU ?_|refine Nx.go ?_|go_step)|(refine ⟨_,headref_m v (by first|rfl|(rw [treeC_eq];first|rfl|(simp only [go_sem, *];done))) tHash,?_⟩)|(refine ⟨_,headref_m v (by first|rfl|(rw [treeC_eq];first|rfl|(simp only [go_sem, *];done))) tPub,?_⟩)|with_reducible (first|refine zI ?_|refine zV ?_)|simp (maxSteps:=9^9) (disch:=omega) only [wq]|with_reducible refine zM (fun hb=>?_) (fun hb=>?_)<;>try simp only [hb]|with_reducible refine And.intro (by first|omega|(simp;done)|(simp;omega)) ?_|simp (maxSteps:=9^9) -implicitDefEqProofs only [go_sem,n2,n3,int_beqL]))
   all_goals (rw [hg,n3,n2];simp only [Bool.and_false,Bool.false_and];rfl)
theorem small_at {v:Tree} {k:Nat} (h1:1≤k) (h8:k≤8) (hb:isB v (dec k)=true) (hall: ∀ j,1≤j→j<k→isB v (dec j)=false):smallT v=some k:=by
 unfold smallT
 match k,h1,h8 with
 | 1,_,_=>rw [hb];rfl
 | 2,_,_=>rw [hall 1 (by omega) (by omega),hb];rfl
 | 3,_,_=>rw [hall 1 (by omega) (by omega),hall 2 (by omega) (by omega),hb];rfl
 | 4,_,_=>rw [hall 1 (by omega) (by omega),hall 2 (by omega) (by omega),hall 3 (by omega) (by omega),hb];rfl
 | 5,_,_=>rw [hall 1 (by omega) (by omega),hall 2 (by omega) (by omega),hall 3 (by omega) (by omega),hall 4 (by omega) (by omega),hb];rfl
 | 6,_,_=>rw [hall 1 (by omega) (by omega),hall 2 (by omega) (by omega),hall 3 (by omega) (by omega),hall 4 (by omega) (by omega),hall 5 (by omega) (by omega),hb];rfl
 | 7,_,_=>rw [hall 1 (by omega) (by omega),hall 2 (by omega) (by omega),hall 3 (by omega) (by omega),hall 4 (by omega) (by omega),hall 5 (by omega) (by omega),hall 6 (by omega) (by omega),hb];rfl
 | 8,_,_=>rw [hall 1 (by omega) (by omega),hall 2 (by omega) (by omega),hall 3 (by omega) (by omega),hall 4 (by omega) (by omega),hall 5 (by omega) (by omega),hall 6 (by omega) (by omega),hall 7 (by omega) (by omega),hb];rfl
theorem small_no {v:Tree} (hall: ∀ j,1≤j→j<9→isB v (dec j)=false):smallT v=none:=by
 unfold smallT
 rw [hall 1 (by omega) (by omega),hall 2 (by omega) (by omega),hall 3 (by omega) (by omega),hall 4 (by omega) (by omega),hall 5 (by omega) (by omega),hall 6 (by omega) (by omega),hall 7 (by omega) (by omega),hall 8 (by omega) (by omega)]
 rfl
theorem small_le {v:Tree} {k:Nat} (h:smallT v=some k):k≤8:=by
 unfold smallT at h
 repeat' split at h
 all_goals first|(injection h with h;omega)|cases h
theorem allSome_snoc {α β:Type} {f:α→Option β} {l:List α} {x:α} {m:List β} {y:β} (h:allSome (l.map f)=some m) (hx:f x=some y):allSome ((l++[x]).map f)=some (m++[y]):=by
 induction l generalizing m with
 | nil =>
  injection h with h
  subst h
  rw [List.nil_append,List.map_cons,List.map_nil,hx]
  rfl
 | cons a l ih =>
  rw [List.map_cons] at h
  cases ha:f a with
  | none=>rw [ha] at h;cases h
  | some b =>
   rw [ha,allSome] at h
   obtain ⟨m',hm',rfl⟩:=Option.map_eq_some_iff.1 h
   rw [List.cons_append,List.map_cons,ha,allSome,ih hm']
   rfl
theorem allSome_no {α β:Type} {f:α→Option β} {l:List α} {x:α} {k:Nat} (hk:l[k]?=some x) (hx:f x=none):allSome (l.map f)=none:=by
 induction l generalizing k with
 | nil=>simp at hk
 | cons a l ih =>
  rw [List.map_cons]
  cases k with
  | zero =>
   have:a=x:=by simpa using hk
   rw [this,hx]
   rfl
  | succ k =>
   have hk:l[k]?=some x:=by simpa using hk
   cases ha:f a with
   | none=>rfl
   | some b =>
    rw [allSome,ih hk]
    rfl
theorem head_other {v:Tree} {s t:List UInt8} (h:headB v s=true) (hst:s≠t):headB v t=false:=by
 obtain ⟨l,hd,ht,d,ks⟩:=v
 cases ks with
 | nil =>
  have h1:(l&&false)=true:=h
  rw [Bool.and_false] at h1
  cases h1
 | cons x m =>
  have h1:(l&&isB x s)=true:=h
  show (l&&isB x t)=false
  unfold isB at *
  simp only [Bool.and_eq_true,beq_iff_eq] at h1
  rw [h1.2.2,beq_eq_false_iff_ne.2 hst]
  simp
theorem take_drop_snoc {α:Type} {l:List α} {i n:Nat} {x:α} (hx:l[i]?=some x) (hn:n≤i):(l.take (i+1)).drop n=(l.take i).drop n++[x]:=by
 rw [List.take_add_one,hx,List.drop_append_of_le_length (by
  have:i<l.length:=by
   rcases Nat.lt_or_ge i l.length with h|h
   ·exact h
   ·rw [List.getElem?_eq_none h] at hx
    cases hx
  rw [List.length_take]
  omega)]
 rfl
section
variable {G:Nat→Option (List D)}
theorem rsmall_m (v:Tree) {cs:List D} (hcs:treeC v=cs):Spec Tryz.prog G 125 [.g cs] (.many [.c (.v (.int .i64 ((smallT v).getD 0:Nat))),.c (.v (.bool (smallT v).isSome))]):=by
 subst hcs
 obtain ⟨R,hR⟩: ∃ R,smallT v=R:=⟨_,rfl⟩
 rw [hR]
 have hi:=fun s=>isref_m (G:=G) v rfl s
 rw [treeC_eq] at hi ⊢
 simp only [bytesD] at *
 refine spec_of Tryz.func125 rfl rfl rfl (by kernel_rfl) rfl fun K=>?_
 (repeat' (first|with_reducible (first|refine zA fun Kn hK=>?_|refine zU ?_|refine Nx.go ?_|go_step)|with_reducible (first|refine zI ?_|refine zV ?_)|simp (maxSteps:=9^9) (disch:=omega) only [wq]|with_reducible refine zM (fun hb=>?_) (fun hb=>?_)<;>try simp only [hb]|with_reducible refine And.intro (by first|omega|(simp;done)|(simp;omega)) ?_|simp (maxSteps:=9^9) -implicitDefEqProofs only [go_sem,true_and]))
 refine sound_loopR (fun x:{k:Nat // 1≤k∧k≤9∧ ∀ j,1≤j→j<k→isB v (dec j)=false}=>⟨[(1,vP 1 0),(4,vI x.1)],[(1,some ⟨45,treeK v,true,false⟩)]⟩) (fun x=>9-x.1) ⟨1,by omega,by omega,fun j h1 h2=>absurd h1 (by omega)⟩ [] (by (iterate 2 ((try simp (maxSteps:=9^9) -implicitDefEqProofs only [go_sem,bD,bytesD]);(try simp (maxSteps:=9^9) (disch:=omega) only [wq])));try simp) (fun ⟨k,hk1,hk9,hall⟩=>?_)
 by_cases hlt:k≤8
 ·have hb:decide ((k:Int)≤8)=true:=decide_eq_true (by omega)
  have hd:=dec_m (G:=G) k (by omega)
  cases hq:isB v (dec k) with
  | true =>
   have hi':=hi (dec k)
   rw [hq] at hi'
   (repeat' (first|with_reducible (first|refine zA fun Kn hK=>?_|refine zU ?_|refine Nx.go ?_|go_step)|refine ⟨_,hd,?_⟩|refine ⟨_,hi',?_⟩|with_reducible (first|refine zI ?_|refine zV ?_)|simp (maxSteps:=9^9) (disch:=omega) only [wq]|with_reducible refine zM (fun hb=>?_) (fun hb=>?_)<;>try simp only [hb]|with_reducible refine And.intro (by first|omega|(simp;done)|(simp;omega)) ?_|simp (maxSteps:=9^9) -implicitDefEqProofs only [go_sem,hb,bytesD]))
   all_goals (rw [← hR,small_at hk1 hlt hq hall];rfl)
  | false =>
   have hi':=hi (dec k)
   rw [hq] at hi'
   (repeat' (first|with_reducible (first|refine zA fun Kn hK=>?_|refine zU ?_|refine Nx.go ?_|go_step)|refine ⟨_,hd,?_⟩|refine ⟨_,hi',?_⟩|with_reducible (first|refine zI ?_|refine zV ?_)|simp (maxSteps:=9^9) (disch:=omega) only [wq]|with_reducible refine zM (fun hb=>?_) (fun hb=>?_)<;>try simp only [hb]|with_reducible refine And.intro (by first|omega|(simp;done)|(simp;omega)) ?_|simp (maxSteps:=9^9) -implicitDefEqProofs only [go_sem,hb,bytesD]))
   refine ⟨[],⟨k+1,by omega,by omega,fun j h1 h2=>?_⟩,?_⟩
   ·rcases Nat.lt_or_ge j k with h|h
    ·exact hall j h1 h
    ·obtain rfl:j=k:=by omega
     exact hq
   ·(iterate 2 ((try simp (maxSteps:=9^9) -implicitDefEqProofs only [go_sem,bD,bytesD]);(try simp (maxSteps:=9^9) (disch:=omega) only [wq])))
    (simp only [ijq,true_and,and_true];first|done|omega|(split<;>omega)|(simp;done)|(simp;omega))
 ·obtain rfl:k=9:=by omega
  have hb:decide (((9:Nat):Int)≤8)=false:=by decide
  (repeat' (first|with_reducible (first|refine zA fun Kn hK=>?_|refine zU ?_|refine Nx.go ?_|go_step)|with_reducible (first|refine zI ?_|refine zV ?_)|simp (maxSteps:=9^9) (disch:=omega) only [wq]|with_reducible refine zM (fun hb=>?_) (fun hb=>?_)<;>try simp only [hb]|with_reducible refine And.intro (by first|omega|(simp;done)|(simp;omega)) ?_|simp (maxSteps:=9^9) -implicitDefEqProofs only [go_sem,hb]))
  all_goals (rw [← hR,small_no hall];rfl)
theorem rsget_m : ∀ v:Tree,∀ (cs:List D) (k:Nat),treeC v=cs→v.kids.length≤30000000→(∀ x∈v.kids,x.wt≤30000000)→k≤4→Spec Tryz.prog G 105 [.g cs,.c (.v (.int .i64 (k:Int)))] (.many [.g (sbC ((refS v k).getD Sb.none)),.c (.v (.bool (refS v k).isSome))]):=Tree.ind fun v ih cs k hcs hl hkw hk4=>by
 subst hcs
 have hg:=rkget_m (G:=G) v rfl
 have hh1:=headref_m (G:=G) v rfl tName
 have hh2:=headref_m (G:=G) v rfl tKofN
 have hn:sbC Sb.none=[.v (.int .u8 0),.v (.bool false),.sl 0 [],.sl 0 [],.v (.int .i64 0),.sl 0 []]:=by
  rw [show Sb.none= .mk 0 false [] [] 0 [] from rfl,sbC_mk]
  rfl
 have hR:=refS_eq v k
 obtain ⟨R,hR0⟩: ∃ R,refS v k=R:=⟨_,rfl⟩
 rw [hR0] at hR
 rw [hR0]
 clear hR0
 cases hgv:rgetK v with
 | some p =>
  obtain ⟨s,d⟩:=p
  rw [hgv] at hg hR
  rw [show keyD (some (s,d))=[.v (.bool s),bytesD d] from rfl,Option.isSome_some] at hg
  dsimp only at hR
  rw [hR,Option.getD_some,Option.isSome_some,sbC_mk]
  clear ih hh1 hh2 hn
  rw [treeC_eq] at hg ⊢
  simp only [bD,bytesD] at *
  refine spec_of Tryz.func105 rfl rfl rfl (by kernel_rfl) rfl fun K=>?_
  (repeat' (first|with_reducible (first|refine zA fun Kn hK=>?_|refine zU ?_|refine Nx.go ?_|go_step)|refine ⟨_,hg,?_⟩|with_reducible (first|refine zI ?_|refine zV ?_)|simp (maxSteps:=9^9) (disch:=omega) only [wq]|with_reducible refine zM (fun hb=>?_) (fun hb=>?_)<;>try simp only [hb]|with_reducible refine And.intro (by first|omega|(simp;done)|(simp;omega)) ?_|simp (maxSteps:=9^9) -implicitDefEqProofs only [go_sem,decide_true]))
  all_goals rfl
 | none =>
  rw [hgv] at hg hR
  rw [show keyD none=[.v (.bool false),bytesD []] from rfl,Option.isSome_none] at hg
  dsimp only at hR
  have p3:decide ((v.kids.length:Int)≥3)=decide (3≤v.kids.length):=by rw [decide_eq_decide];omega
  have p10:decide ((v.kids.length:Int)≤10)=decide (v.kids.length≤10):=by rw [decide_eq_decide];omega
  have hand:decide (3≤v.kids.length∧v.kids.length≤10)=(decide (3≤v.kids.length)&&decide (v.kids.length≤10)):=by
   rw [Bool.eq_iff_iff]
   simp
  rw [hand] at hR
  clear hand
  by_cases hw:(headB v tName&&(decide (3≤v.kids.length)&&decide (v.kids.length≤10)))=true
  ·rw [if_pos hw] at hR
   simp only [Bool.and_eq_true] at hw
   obtain ⟨w1,w2,w3⟩:=hw
   rw [w1] at hh1
   rw [w2] at p3
   rw [w3] at p10
   have hlen:=of_decide_eq_true w2
   have hlen2:=of_decide_eq_true w3
   have e1:=flat_at treeC_len (Tree.kid_get (t:=v) (i:=1) (by omega))
   have hg1:=rkget_m (G:=G) (v.kid 1) rfl
   simp only [Nat.reduceMul,Nat.reduceAdd] at e1
   obtain ⟨s,d,is,hs1,hs2⟩: ∃ s d is,keyD (rgetK (v.kid 1))=[.v (.bool s),bytesD d]∧rgetK (v.kid 1)=if is=true then some (s,d) else none:=by
    cases hq:rgetK (v.kid 1) with
    | none=>exact ⟨false,[],false,rfl,rfl⟩
    | some p=>exact ⟨p.1,p.2,true,rfl,rfl⟩
   have hs3:(rgetK (v.kid 1)).isSome=is:=by
    rw [hs2]
    cases is<;>rfl
   rw [hs1,hs3] at hg1
   rw [hs2] at hR
   have hR2:R=if (is&&(v.kids.drop 2).all nameOk)=true then some (.mk 2 s d ((v.kids.drop 2).map Tree.data) 0 []) else none:=by
    rw [hR]
    cases is with
    | false=>rfl
    | true =>
     rw [if_pos rfl]
     rfl
   clear hR hs1 hs2 hs3 hh2 ih
   rw [treeC_eq (v.kid 1)] at hg1 e1
   rw [treeC_eq v] at hg hh1 ⊢
   unfold tName at hh1
   simp only [bD,bytesD] at *
   refine spec_of Tryz.func105 rfl rfl rfl (by kernel_rfl) rfl fun K=>?_
   (repeat' (first|with_reducible (first|refine zA fun Kn hK=>?_|refine zU ?_|refine Nx.go ?_|go_step)|refine ⟨_,hg,?_⟩|refine ⟨_,hh1,?_⟩|refine ⟨_,hg1,?_⟩|with_reducible (first|refine zI ?_|refine zV ?_)|simp (maxSteps:=9^9) (disch:=omega) only [wq]|with_reducible refine zM (fun hb=>?_) (fun hb=>?_)<;>try simp only [hb]|with_reducible refine And.intro (by first|omega|(simp;done)|(simp;omega)) ?_|simp (maxSteps:=9^9) -implicitDefEqProofs only [go_sem,p3,p10,e1,decide_true]))
   refine sound_voidC 11 3 1000 1 22 (by rfl) (by rfl) (by rfl) (by rfl) ?_
   refine sound_loopR (fun x:{i:Nat // 2≤i∧i≤v.kids.length}=>⟨[(2,vP 2 0),(4,vP 4 0),(6,vP 6 0),(10,vB (is&&((v.kids.take x.1).drop 2).all nameOk)),(11,vP 11 0),(12,vI x.1)],[(2,some ⟨45,treeK v,true,false⟩),(4,some ⟨28,zeroOf Tryz.prog 28,true,false⟩),(6,some ⟨28,zeroOf Tryz.prog 28,true,false⟩),(11,some ⟨28,[.d (.v (.int .u8 2)),.d (.v (.bool s)),.d (.sl d.length (d.map bD)),.row 1000 1 0 (x.1-2) .grow,.d (.v (.int .i64 0)),.nil],true,false⟩),(1000,some ⟨22,(((v.kids.take x.1).drop 2).map fun y=>D.sl y.data.length (y.data.map bD)).map C.d,false,false⟩)]⟩) (fun x=>v.kids.length-x.1) ⟨2,by omega⟩ [] (by (iterate 2 ((try simp (maxSteps:=9^9) -implicitDefEqProofs only [go_sem,bD,bytesD]);(try simp (maxSteps:=9^9) (disch:=omega) only [wq])));try simp) (fun ⟨i,hi2,hi⟩=>?_)
   by_cases hlt:i<v.kids.length
   ·obtain ⟨x,hx⟩: ∃ x,v.kids[i]?=some x:=⟨_,List.getElem?_eq_getElem hlt⟩
    have hb:decide ((i:Int)<(v.kids.length:Int))=true:=by simpa using hlt
    have ht:=take_drop_snoc (n:=2) hx (by omega)
    have hf:=flat_at treeC_len hx
    have hlenW:(((v.kids.take i).drop 2).map fun y=>D.sl y.data.length (y.data.map bD)).length=i-2:=by
     rw [List.length_map,List.length_drop,List.length_take,Nat.min_eq_left hi]
    rw [treeC_eq x] at hf
    simp only [bytesD] at hf
    have hz:decide ((x.data.length:Int)>0)= !emptyL x.data:=pos_len x.data
    have hok:(is&&((v.kids.take (i+1)).drop 2).all nameOk)=(is&&(((v.kids.take i).drop 2).all nameOk&&(!x.list&&(!x.hinted&& !emptyL x.data)))):=by
     rw [ht,List.all_append]
     simp [nameOk]
    generalize ((v.kids.take i).drop 2).all nameOk=a0 at *
    have hmap:((v.kids.take (i+1)).drop 2).map (fun y=>D.sl y.data.length (y.data.map bD))=(((v.kids.take i).drop 2).map fun y=>D.sl y.data.length (y.data.map bD))++[D.sl x.data.length (x.data.map bD)]:=by
     rw [ht,List.map_append]
     rfl
    generalize (((v.kids.take i).drop 2).map fun y=>D.sl y.data.length (y.data.map bD))=W at *
    generalize emptyL x.data=a3 at *
    obtain ⟨a1,ha1⟩: ∃ a,x.list=a:=⟨_,rfl⟩
    obtain ⟨a2,ha2⟩: ∃ a,x.hinted=a:=⟨_,rfl⟩
    rw [ha1,ha2] at hok
    rw [ha1,ha2] at hf
    obtain ⟨b0,hb0⟩: ∃ b,(is&&a0)=b:=⟨_,rfl⟩
    rw [← Bool.and_assoc,hb0] at hok
    rw [hb0]
    have four:(b0=false)∨(b0=true∧a1=true)∨(b0=true∧a1=false∧a2=true)∨(b0=true∧a1=false∧a2=false):=by cases b0<;>cases a1<;>cases a2<;>simp
    rcases four with rfl|⟨rfl,rfl⟩|⟨rfl,rfl,rfl⟩|⟨rfl,rfl,rfl⟩
    all_goals
     (repeat' (first|with_reducible (first|refine zA fun Kn hK=>?_|refine zU ?_|refine Nx.go ?_|go_step)|(refine ⟨[(1000,89)],⟨i+1,by omega,hlt⟩,?_⟩;rw [hmap,hok])|with_reducible (first|refine zI ?_|refine zV ?_)|simp (maxSteps:=9^9) (disch:=omega) only [wq]|with_reducible refine zM (fun hb=>?_) (fun hb=>?_)<;>try simp only [hb]|with_reducible refine And.intro (by first|omega|(simp;done)|(simp;omega)) ?_|simp (maxSteps:=9^9) -implicitDefEqProofs only [go_sem,hb,hf,hz,rep1,hlenW,List.length_map,true_and,Nat.le_refl,List.append_nil,Nat.mul_one,bD,bytesD,Bool.and_true,Bool.and_false,Bool.true_and,Bool.false_and,Bool.not_true,Bool.not_false]))
    all_goals omega
   ·have hb:decide ((i:Int)<(v.kids.length:Int))=false:=by simpa using hlt
    obtain rfl:i=v.kids.length:=by omega
    rw [List.take_length]
    have hlenW:((v.kids.drop 2).map fun y=>D.sl y.data.length (y.data.map bD)).length=v.kids.length-2:=by
     rw [List.length_map,List.length_drop]
    have hsb:sbC (.mk 2 s d ((v.kids.drop 2).map Tree.data) 0 [])=[.v (.int .u8 2),.v (.bool s),.sl d.length (d.map bD),.sl (v.kids.length-2) ((v.kids.drop 2).map fun y=>D.sl y.data.length (y.data.map bD)),.v (.int .i64 0),.sl 0 []]:=by
     rw [sbC_mk,List.map_map,List.length_map,List.length_drop]
     rfl
    generalize ((v.kids.drop 2).map fun y=>D.sl y.data.length (y.data.map bD))=W at *
    generalize (v.kids.drop 2).all nameOk=a0 at *
    cases is<;>cases a0
    all_goals
     (repeat' (first|with_reducible (first|refine zA fun Kn hK=>?_|refine zU ?_|refine Nx.go ?_|go_step)|with_reducible (first|refine zI ?_|refine zV ?_)|simp (maxSteps:=9^9) (disch:=omega) only [wq]|with_reducible refine zM (fun hb=>?_) (fun hb=>?_)<;>try simp only [hb]|with_reducible refine And.intro (by first|omega|(simp;done)|(simp;omega)) ?_|simp (maxSteps:=9^9) -implicitDefEqProofs only [go_sem,hb,hlenW,List.length_map,Nat.mul_one,bD,bytesD,Bool.and_true,Bool.and_false,Bool.true_and,Bool.false_and]))
     all_goals (rw [hR2];first|(rw [if_pos (by decide),Option.getD_some,hsb];rfl)|(rw [if_neg (by decide),Option.getD_none,hn];rfl))
  ·rw [if_neg hw] at hR
   have p4:decide ((v.kids.length:Int)<4)= !decide (4≤v.kids.length):=by
    rw [← decide_not,decide_eq_decide]
    omega
   have pd:decide ((k:Int)>3)= !decide (k≤3):=by
    rw [← decide_not,decide_eq_decide]
    omega
   have hand:decide (4≤v.kids.length∧k≤3)=(decide (4≤v.kids.length)&&decide (k≤3)):=by
    rw [Bool.eq_iff_iff]
    simp
   rw [hand] at hR
   clear hand
   have hoth:=head_other (v:=v) (s:=tName) (t:=tKofN)
   by_cases hz:(headB v tKofN&&(decide (4≤v.kids.length)&&decide (k≤3)))=true
   ·rw [if_pos hz] at hR
    simp only [Bool.and_eq_true,decide_eq_true_eq] at hz
    obtain ⟨z1,z2,z3⟩:=hz
    have z0:headB v tName=false:=by
     cases hq:headB v tName with
     | false=>rfl
     | true =>
      rw [hoth hq (by decide)] at z1
      cases z1
    rw [z0] at hh1
    rw [z1] at hh2
    rw [decide_eq_true z2] at p4
    rw [decide_eq_true z3] at pd
    clear p3 p10 hw hoth z0 z1
    have e1:=flat_at treeC_len (Tree.kid_get (t:=v) (i:=1) (by omega))
    have e2:=flat_at treeC_len (Tree.kid_get (t:=v) (i:=2) (by omega))
    simp only [Nat.reduceMul,Nat.reduceAdd] at e1 e2
    have s1:=rsmall_m (G:=G) (v.kid 1) rfl
    have s2:=rsmall_m (G:=G) (v.kid 2) rfl
    have l1: ∀ k,smallT (v.kid 1)=some k→k≤8:=fun _ h=>small_le h
    have l2: ∀ k,smallT (v.kid 2)=some k→k≤8:=fun _ h=>small_le h
    rw [treeC_eq (v.kid 1)] at s1 e1
    rw [treeC_eq (v.kid 2)] at s2 e2
    rw [treeC_eq v] at hg hh1 hh2 ⊢
    unfold tName at hh1
    unfold tKofN at hh2
    generalize smallT (v.kid 1)=o1 at *
    generalize smallT (v.kid 2)=o2 at *
    cases o1 with
    | none =>
     have hR:R=none:=hR
     rw [Option.getD_none,Option.isSome_none] at s1
     clear ih hkw l1 l2
     rw [hR,Option.getD_none,Option.isSome_none,hn]
     simp only [bD,bytesD] at *
     refine spec_of Tryz.func105 rfl rfl rfl (by kernel_rfl) rfl fun K=>?_
     (repeat' (first|with_reducible (first|refine zA fun Kn hK=>?_|refine zU ?_|refine Nx.go ?_|go_step)|refine ⟨_,hg,?_⟩|refine ⟨_,hh1,?_⟩|refine ⟨_,hh2,?_⟩|refine ⟨_,s1,?_⟩|refine ⟨_,s2,?_⟩|with_reducible (first|refine zI ?_|refine zV ?_)|simp (maxSteps:=9^9) (disch:=omega) only [wq]|with_reducible refine zM (fun hb=>?_) (fun hb=>?_)<;>try simp only [hb]|with_reducible refine And.intro (by first|omega|(simp;done)|(simp;omega)) ?_|simp (maxSteps:=9^9) -implicitDefEqProofs only [go_sem,p4,pd,e1,e2,decide_true,Bool.not_true,Bool.not_false]))
     all_goals rfl
    | some a =>
     cases o2 with
     | none =>
      have hR:R=none:=hR
      rw [Option.getD_some,Option.isSome_some] at s1
      rw [Option.getD_none,Option.isSome_none] at s2
      clear ih hkw l1 l2
      rw [hR,Option.getD_none,Option.isSome_none,hn]
      simp only [bD,bytesD] at *
      refine spec_of Tryz.func105 rfl rfl rfl (by kernel_rfl) rfl fun K=>?_
      (repeat' (first|with_reducible (first|refine zA fun Kn hK=>?_|refine zU ?_|refine Nx.go ?_|go_step)|refine ⟨_,hg,?_⟩|refine ⟨_,hh1,?_⟩|refine ⟨_,hh2,?_⟩|refine ⟨_,s1,?_⟩|refine ⟨_,s2,?_⟩|with_reducible (first|refine zI ?_|refine zV ?_)|simp (maxSteps:=9^9) (disch:=omega) only [wq]|with_reducible refine zM (fun hb=>?_) (fun hb=>?_)<;>try simp only [hb]|with_reducible refine And.intro (by first|omega|(simp;done)|(simp;omega)) ?_|simp (maxSteps:=9^9) -implicitDefEqProofs only [go_sem,p4,pd,e1,e2,decide_true,Bool.not_true,Bool.not_false]))
      all_goals rfl
     | some b =>
      have l1:=l1 a rfl
      have l2:=l2 b rfl
      rw [Option.getD_some,Option.isSome_some] at s1 s2
      dsimp only at hR
      have q1:(((b:Nat):Int)==(v.kids.length:Int)-3)=decide (b=v.kids.length-3):=by
       rw [Bool.eq_iff_iff,beq_iff_eq,decide_eq_true_iff]
       omega
      have q2:decide (((a:Nat):Int)>((b:Nat):Int))= !decide (a≤b):=by
       rw [← decide_not,decide_eq_decide]
       omega
      by_cases c1:b=v.kids.length-3
      ·rw [decide_eq_true c1] at q1
       by_cases c2:a≤b
       ·rw [if_pos ⟨c1,c2⟩] at hR
        rw [decide_eq_true c2] at q2
        have q3:decide (a≤b)=true:=decide_eq_true c2
        clear c1 c2
        simp only [bD,bytesD] at *
        refine spec_of Tryz.func105 rfl rfl rfl (by kernel_rfl) rfl fun K=>?_
        (repeat' (first|with_reducible (first|refine zA fun Kn hK=>?_|refine zU ?_|refine Nx.go ?_|go_step)|refine ⟨_,hg,?_⟩|refine ⟨_,hh1,?_⟩|refine ⟨_,hh2,?_⟩|refine ⟨_,s1,?_⟩|refine ⟨_,s2,?_⟩|with_reducible (first|refine zI ?_|refine zV ?_)|simp (maxSteps:=9^9) (disch:=omega) only [wq]|with_reducible refine zM (fun hb=>?_) (fun hb=>?_)<;>try simp only [hb]|with_reducible refine And.intro (by first|omega|(simp;done)|(simp;omega)) ?_|simp (maxSteps:=9^9) -implicitDefEqProofs only [go_sem,p4,pd,e1,e2,q1,q2,q3,bne,decide_true,Bool.not_true,Bool.not_false]))
        rotate_left 1
        ·exact absurd (hb.symm.trans q1) (by decide)
        refine sound_voidC 18 5 1000 6 28 (by rfl) (by rfl) (by rfl) (by rfl) ?_
        refine sound_loopR (fun x:{p:Nat × List Sb // (3≤p.1∧p.1≤v.kids.length)∧p.2.length=p.1-3∧allSome (((v.kids.take p.1).drop 3).map fun x=>refS x (k+1))=some p.2}=>⟨[(1,vI k),(2,vP 2 0),(4,vP 4 0),(6,vP 6 0),(18,vP 18 0),(19,vI x.1.1)],[(2,some ⟨45,treeK v,true,false⟩),(4,some ⟨28,zeroOf Tryz.prog 28,true,false⟩),(6,some ⟨28,zeroOf Tryz.prog 28,true,false⟩),(18,some ⟨28,[.d (.v (.int .u8 3)),.d (.v (.bool false)),.nil,.nil,.d (.v (.int .i64 a)),.row 1000 6 0 (x.1.1-3) .grow],true,false⟩),(1000,some ⟨28,(x.1.2.flatMap sbC).map C.d,false,false⟩)]⟩) (fun x=>v.kids.length-x.1.1) ⟨(3,[]),⟨by omega,by omega⟩,rfl,by rw [List.drop_eq_nil_of_le (by rw [List.length_take];omega)];rfl⟩ [] (by (iterate 2 ((try simp (maxSteps:=9^9) -implicitDefEqProofs only [go_sem,bD,bytesD]);(try simp (maxSteps:=9^9) (disch:=omega) only [wq])));try simp) (fun ⟨⟨i,l⟩,⟨hi3,hi⟩,hll,hall⟩=>?_)
        by_cases hlt:i<v.kids.length
        ·obtain ⟨x,hx⟩: ∃ x,v.kids[i]?=some x:=⟨_,List.getElem?_eq_getElem hlt⟩
         have hb:decide ((i:Int)<(v.kids.length:Int))=true:=by simpa using hlt
         have ht:=take_drop_snoc (n:=3) hx (by omega)
         have hf:=flat_at treeC_len hx
         have hm:=List.mem_of_getElem? hx
         have hxw:=hkw x hm
         have hxv:=ih x hm _ (k+1) rfl (by have:=x.wt_kids;omega) (fun y hy=>by have:=Tree.wt_kid hy;omega) (by omega)
         have hlenW:(l.flatMap sbC).length=(i-3)*6:=by rw [sbC_flen,hll]
         rw [treeC_eq x] at hf hxv
         simp only [bytesD] at hf hxv
         rw [show ((k+1:Nat):Int)=(k:Int)+1 from by omega] at hxv
         cases hq:refS x (k+1) with
         | none =>
          have hno:allSome ((v.kids.drop 3).map fun x=>refS x (k+1))=none:=allSome_no (k:=i-3) (x:=x) (by rw [List.getElem?_drop,show 3+(i-3)=i by omega];exact hx) hq
          rw [hno] at hR
          have hR:R=none:=hR
          rw [hq,Option.getD_none,Option.isSome_none,hn] at hxv
          clear ih hkw hg hh1 hh2 s1 s2 hno ht
          (repeat' (first|with_reducible (first|refine zA fun Kn hK=>?_|refine zU ?_|refine Nx.go ?_|go_step)|refine ⟨_,hxv,?_⟩|with_reducible (first|refine zI ?_|refine zV ?_)|simp (maxSteps:=9^9) (disch:=omega) only [wq]|with_reducible refine zM (fun hb=>?_) (fun hb=>?_)<;>try simp only [hb]|with_reducible refine And.intro (by first|omega|(simp;done)|(simp;omega)) ?_|simp (maxSteps:=9^9) -implicitDefEqProofs only [go_sem,hb,hf,bD,bytesD,Bool.not_true,Bool.not_false]))
          all_goals (rw [hR,Option.getD_none,Option.isSome_none,hn];try rfl)
         | some s' =>
          have hs:=allSome_snoc hall hq
          rw [← ht] at hs
          have hW:((l++[s']).flatMap sbC)=l.flatMap sbC++sbC s':=by rw [List.flatMap_append];simp
          rw [hq,Option.getD_some,Option.isSome_some] at hxv
          have hnew:(l++[s']).length=i+1-3:=by rw [List.length_append,hll,List.length_singleton];omega
          clear ih hkw hg hh1 hh2 s1 s2 ht hn hq
          rw [sbC_eq s'] at hxv hW
          simp only [bD,bytesD] at hxv hW
          generalize l.flatMap sbC=W at *
          (repeat' (first|with_reducible (first|refine zA fun Kn hK=>?_|refine zU ?_|refine Nx.go ?_|go_step)|refine ⟨_,hxv,?_⟩|(refine ⟨[(1000,172)],⟨(i+1,l++[s']),⟨by omega,hlt⟩,hnew,hs⟩,?_⟩;rw [hW])|with_reducible (first|refine zI ?_|refine zV ?_)|simp (maxSteps:=9^9) (disch:=omega) only [wq]|with_reducible refine zM (fun hb=>?_) (fun hb=>?_)<;>try simp only [hb]|with_reducible refine And.intro (by first|omega|(simp;done)|(simp;omega)) ?_|simp (maxSteps:=9^9) -implicitDefEqProofs only [go_sem,hb,hf,rep1,hlenW,List.length_map,true_and,Nat.le_refl,List.append_nil,bD,bytesD,Bool.not_true,Bool.not_false]))
          all_goals omega
        ·have hb:decide ((i:Int)<(v.kids.length:Int))=false:=by simpa using hlt
         obtain rfl:i=v.kids.length:=by omega
         rw [List.take_length] at hall
         rw [hall,Option.map_some] at hR
         have hlenW:(l.flatMap sbC).length=(v.kids.length-3)*6:=by rw [sbC_flen,hll]
         have hsb:sbC (.mk 3 false [] [] (a:Int) l)=[.v (.int .u8 3),.v (.bool false),.sl 0 [],.sl 0 [],.v (.int .i64 a),.sl (v.kids.length-3) (l.flatMap sbC)]:=by
          rw [sbC_mk,hll]
          rfl
         generalize l.flatMap sbC=W at *
         (repeat' (first|with_reducible (first|refine zA fun Kn hK=>?_|refine zU ?_|refine Nx.go ?_|go_step)|with_reducible (first|refine zI ?_|refine zV ?_)|simp (maxSteps:=9^9) (disch:=omega) only [wq]|with_reducible refine zM (fun hb=>?_) (fun hb=>?_)<;>try simp only [hb]|with_reducible refine And.intro (by first|omega|(simp;done)|(simp;omega)) ?_|simp (maxSteps:=9^9) -implicitDefEqProofs only [go_sem,hb,hlenW,List.length_map,bD,bytesD]))
         all_goals (rw [hR,Option.getD_some,Option.isSome_some,hsb];try rfl)
       ·rw [if_neg (fun h=>c2 h.2)] at hR
        rw [decide_eq_false c2] at q2
        have q3:decide (a≤b)=false:=decide_eq_false c2
        clear ih hkw
        rw [hR,Option.getD_none,Option.isSome_none,hn]
        simp only [bD,bytesD] at *
        refine spec_of Tryz.func105 rfl rfl rfl (by kernel_rfl) rfl fun K=>?_
        (repeat' (first|with_reducible (first|refine zA fun Kn hK=>?_|refine zU ?_|refine Nx.go ?_|go_step)|refine ⟨_,hg,?_⟩|refine ⟨_,hh1,?_⟩|refine ⟨_,hh2,?_⟩|refine ⟨_,s1,?_⟩|refine ⟨_,s2,?_⟩|with_reducible (first|refine zI ?_|refine zV ?_)|simp (maxSteps:=9^9) (disch:=omega) only [wq]|with_reducible refine zM (fun hb=>?_) (fun hb=>?_)<;>try simp only [hb]|with_reducible refine And.intro (by first|omega|(simp;done)|(simp;omega)) ?_|simp (maxSteps:=9^9) -implicitDefEqProofs only [go_sem,p4,pd,e1,e2,q1,q2,q3,bne,decide_true,Bool.not_true,Bool.not_false]))
        all_goals first|rfl|exact absurd (of_decide_eq_true hb) c2|exact absurd (hb.symm.trans q3) (by decide)|exact absurd (hb.symm.trans q1) (by decide)
      ·rw [if_neg (fun h=>c1 h.1)] at hR
       rw [decide_eq_false c1] at q1
       clear ih hkw
       rw [hR,Option.getD_none,Option.isSome_none,hn]
       simp only [bD,bytesD] at *
       refine spec_of Tryz.func105 rfl rfl rfl (by kernel_rfl) rfl fun K=>?_
       (repeat' (first|with_reducible (first|refine zA fun Kn hK=>?_|refine zU ?_|refine Nx.go ?_|go_step)|refine ⟨_,hg,?_⟩|refine ⟨_,hh1,?_⟩|refine ⟨_,hh2,?_⟩|refine ⟨_,s1,?_⟩|refine ⟨_,s2,?_⟩|with_reducible (first|refine zI ?_|refine zV ?_)|simp (maxSteps:=9^9) (disch:=omega) only [wq]|with_reducible refine zM (fun hb=>?_) (fun hb=>?_)<;>try simp only [hb]|with_reducible refine And.intro (by first|omega|(simp;done)|(simp;omega)) ?_|simp (maxSteps:=9^9) -implicitDefEqProofs only [go_sem,p4,pd,e1,e2,q1,q2,bne,decide_true,Bool.not_true,Bool.not_false]))
       all_goals first|rfl|exact absurd ((show (((b:Nat):Int)==(v.kids.length:Int)-3)=true by assumption).symm.trans q1) (by decide)
   ·rw [if_neg hz] at hR
    clear ih hkw
    rw [hR,Option.getD_none,Option.isSome_none,hn]
    generalize headB v tName=q1 at *
    generalize headB v tKofN=q2 at *
    generalize decide (3≤v.kids.length)=y3 at *
    generalize decide (v.kids.length≤10)=y10 at *
    generalize decide (4≤v.kids.length)=y4 at *
    generalize decide (k≤3)=yd at *
    have many:(q1=false∧q2=false)∨(q1=false∧q2=true∧y4=false)∨(q1=false∧q2=true∧y4=true∧yd=false)∨(q1=true∧q2=false∧y3=false)∨(q1=true∧q2=false∧y3=true∧y10=false):=by
     clear hg hh1 hh2 hn hR p3 p10 p4 pd
     revert hw hoth hz
     cases q1<;>cases q2<;>cases y3<;>cases y10<;>cases y4<;>cases yd<;>simp [tName,tKofN]
    clear hw hoth hz
    rw [treeC_eq v] at hg hh1 hh2 ⊢
    unfold tName at hh1
    unfold tKofN at hh2
    simp only [bD,bytesD] at *
    rcases many with ⟨rfl,rfl⟩|⟨rfl,rfl,rfl⟩|⟨rfl,rfl,rfl,rfl⟩|⟨rfl,rfl,rfl⟩|⟨rfl,rfl,rfl,rfl⟩
    all_goals
     refine spec_of Tryz.func105 rfl rfl rfl (by kernel_rfl) rfl fun K=>?_
     (repeat' (first|with_reducible (first|refine zA fun Kn hK=>?_|refine zU ?_|refine Nx.go ?_|go_step)|refine ⟨_,hg,?_⟩|refine ⟨_,hh1,?_⟩|refine ⟨_,hh2,?_⟩|with_reducible (first|refine zI ?_|refine zV ?_)|simp (maxSteps:=9^9) (disch:=omega) only [wq]|with_reducible refine zM (fun hb=>?_) (fun hb=>?_)<;>try simp only [hb]|with_reducible refine And.intro (by first|omega|(simp;done)|(simp;omega)) ?_|simp (maxSteps:=9^9) -implicitDefEqProofs only [go_sem,p3,p10,p4,pd,decide_true,Bool.not_true,Bool.not_false]))
     all_goals rfl
end
section
variable {G:Nat→Option (List D)}
noncomputable def rsGetD (o:Option Sb):DR:= .many [.g (sbC (o.getD Sb.none)),.c (.v (.bool o.isSome))]
theorem rsGet_m (v:Tree) {cs:List D} (hcs:treeC v=cs) (hw:v.wt≤30000000):Spec Tryz.prog G 64 [.g cs] (rsGetD (getSb v)):=by
 subst hcs
 have h1:=may_m (G:=G) v rfl (by omega)
 have h2:=rsget_m (G:=G) v _ 1 rfl (by have:=v.wt_kids;omega) (fun x hx=>by have:=Tree.wt_kid hx;omega) (by omega)
 rw [show ((1:Nat):Int)=1 from rfl] at h2
 unfold getSb rsGetD
 cases hm:v.may with
 | false =>
  rw [hm] at h1
  rw [if_neg (by decide),Option.getD_none,Option.isSome_none,show Sb.none= .mk 0 false [] [] 0 [] from rfl,sbC_mk]
  clear h2
  rw [treeC_eq] at h1 ⊢
  simp only [bD,bytesD] at *
  refine spec_of Tryz.func64 rfl rfl rfl (by kernel_rfl) rfl fun K=>?_
  (repeat' (first|with_reducible (first|refine zA fun Kn hK=>?_|refine zU ?_|refine Nx.go ?_|go_step)|refine ⟨_,h1,?_⟩|with_reducible (first|refine zI ?_|refine zV ?_)|simp (maxSteps:=9^9) (disch:=omega) only [wq]|with_reducible refine zM (fun hb=>?_) (fun hb=>?_)<;>try simp only [hb]|with_reducible refine And.intro (by first|omega|(simp;done)|(simp;omega)) ?_|simp (maxSteps:=9^9) -implicitDefEqProofs only [go_sem,decide_true,Bool.not_true,Bool.not_false]))
  all_goals rfl
 | true =>
  rw [hm] at h1
  rw [if_pos rfl]
  generalize (refS v 1).isSome=ok at *
  generalize (refS v 1).getD Sb.none=r at *
  rw [sbC_eq r] at h2 ⊢
  rw [treeC_eq] at h1 h2 ⊢
  simp only [bD,bytesD] at *
  refine spec_of Tryz.func64 rfl rfl rfl (by kernel_rfl) rfl fun K=>?_
  (repeat' (first|with_reducible (first|refine zA fun Kn hK=>?_|refine zU ?_|refine Nx.go ?_|go_step)|refine ⟨_,h1,?_⟩|refine ⟨_,h2,?_⟩|with_reducible (first|refine zI ?_|refine zV ?_)|simp (maxSteps:=9^9) (disch:=omega) only [wq]|with_reducible refine zM (fun hb=>?_) (fun hb=>?_)<;>try simp only [hb]|with_reducible refine And.intro (by first|omega|(simp;done)|(simp;omega)) ?_|simp (maxSteps:=9^9) -implicitDefEqProofs only [go_sem,decide_true,Bool.not_true,Bool.not_false]))
  all_goals rfl
end
noncomputable def endsD (l:List Tree):Wd × Bool:=match l with
 | []=>(Wd.none,true)
 | x::m=>((getR x).getD Wd.none,(getR x).isSome&&(emptyL m&&(((getR x).getD Wd.none).aft||((getR x).getD Wd.none).unt)))
theorem endsD_ok (l:List Tree):(endsD l).2=(endsR l).isSome∧ ∀ w,endsR l=some w→(endsD l).1=w:=by
 cases l with
 | nil =>
  refine ⟨rfl,fun w h=>?_⟩
  injection h
 | cons x m =>
  unfold endsD endsR
  dsimp only
  cases hg:getR x with
  | none=>exact ⟨rfl,fun w h=>by cases h⟩
  | some w =>
   dsimp only
   rw [Option.getD_some]
   cases hq:(emptyL m&&(w.aft||w.unt)) with
   | true=>exact ⟨rfl,fun w h=>by injection h⟩
   | false=>exact ⟨rfl,fun w h=>by cases h⟩
noncomputable def rightsD (l:List Tree):Bool × Tg × Wd × Bool:=match (cutP l).2 with
 | []=>(false,zeroTg,Wd.none,false)
 | x::m=>((cutP l).1,(getTg ((ofR x wTagW).getD zeroT)).getD zeroTg,(endsD m).1,(ofR x wTagW).isSome&&((getTg ((ofR x wTagW).getD zeroT)).isSome&&(endsD m).2))
theorem rightsD_ok (l:List Tree):(rightsD l).2.2.2=(rightsR l).isSome∧ ∀ r,rightsR l=some r→((rightsD l).1,(rightsD l).2.1,(rightsD l).2.2.1)=r:=by
 unfold rightsD rightsR
 generalize (cutP l).1=d
 generalize (cutP l).2=k
 cases k with
 | nil=>exact ⟨rfl,fun w h=>by cases h⟩
 | cons x m =>
  obtain ⟨e1,e2⟩:=endsD_ok m
  dsimp only
  cases ho:ofR x wTagW with
  | none=>exact ⟨rfl,fun w h=>by cases h⟩
  | some y =>
   dsimp only
   rw [Option.getD_some]
   cases hg:getTg y with
   | none=>exact ⟨rfl,fun w h=>by cases h⟩
   | some t =>
    dsimp only
    rw [Option.getD_some,e1]
    cases he:endsR m with
    | none=>exact ⟨rfl,fun w h=>by cases h⟩
    | some w =>
     rw [e2 w he]
     exact ⟨rfl,fun w h=>by injection h⟩
section
variable {G:Nat→Option (List D)}
theorem rof_m (v:Tree) {cs:List D} (hcs:treeC v=cs) (w:List UInt8):Spec Tryz.prog G 63 [.g cs,.c (.v (.string ⟨w.toArray⟩))] (.many [.g (treeC ((ofR v w).getD zeroT)),.c (.v (.bool (ofR v w).isSome))]):=by
 subst hcs
 have hh:=headref_m (G:=G) v rfl w
 obtain ⟨R,hR⟩: ∃ R,ofR v w=R:=⟨_,rfl⟩
 have hv:R=if (headB v w&&(v.kids.length==2))=true then some (v.kid 1) else none:=hR.symm
 rw [hR]
 clear hR
 have l2:((v.kids.length:Int)==2)=(v.kids.length==2):=by
  rw [Bool.eq_iff_iff,beq_iff_eq,beq_iff_eq]
  omega
 generalize headB v w=q at *
 cases q with
 | false =>
  rw [Bool.false_and,if_neg (by decide)] at hv
  rw [hv,Option.getD_none,Option.isSome_none,zeroT_C]
  clear hv l2
  rw [treeC_eq] at hh ⊢
  simp only [bD,bytesD] at *
  refine spec_of Tryz.func63 rfl rfl rfl (by kernel_rfl) rfl fun K=>?_
  (repeat' (first|with_reducible (first|refine zA fun Kn hK=>?_|refine zU ?_|refine Nx.go ?_|go_step)|refine ⟨_,hh,?_⟩|with_reducible (first|refine zI ?_|refine zV ?_)|simp (maxSteps:=9^9) (disch:=omega) only [wq]|with_reducible refine zM (fun hb=>?_) (fun hb=>?_)<;>try simp only [hb]|with_reducible refine And.intro (by first|omega|(simp;done)|(simp;omega)) ?_|simp (maxSteps:=9^9) -implicitDefEqProofs only [go_sem,decide_true,bne,Bool.not_true,Bool.not_false]))
  all_goals rfl
 | true =>
  rw [Bool.true_and] at hv
  by_cases h2:v.kids.length=2
  ·have hb2:(v.kids.length==2)=true:=by rw [h2];rfl
   rw [hb2] at l2 hv
   rw [if_pos rfl] at hv
   rw [hv,Option.getD_some,Option.isSome_some]
   have e1:=flat_at treeC_len (Tree.kid_get (t:=v) (i:=1) (by omega))
   simp only [Nat.reduceMul,Nat.reduceAdd] at e1
   clear hv hb2
   rw [treeC_eq (v.kid 1)] at e1 ⊢
   rw [treeC_eq v] at hh ⊢
   simp only [bD,bytesD] at *
   refine spec_of Tryz.func63 rfl rfl rfl (by kernel_rfl) rfl fun K=>?_
   (repeat' (first|with_reducible (first|refine zA fun Kn hK=>?_|refine zU ?_|refine Nx.go ?_|go_step)|refine ⟨_,hh,?_⟩|with_reducible (first|refine zI ?_|refine zV ?_)|simp (maxSteps:=9^9) (disch:=omega) only [wq]|with_reducible refine zM (fun hb=>?_) (fun hb=>?_)<;>try simp only [hb]|with_reducible refine And.intro (by first|omega|(simp;done)|(simp;omega)) ?_|simp (maxSteps:=9^9) -implicitDefEqProofs only [go_sem,l2,e1,decide_true,bne,Bool.not_true,Bool.not_false]))
   all_goals rfl
  ·have hb2:(v.kids.length==2)=false:=by rw [beq_eq_false_iff_ne];exact h2
   rw [hb2] at l2 hv
   rw [if_neg (by decide)] at hv
   rw [hv,Option.getD_none,Option.isSome_none,zeroT_C]
   clear hv hb2 h2
   rw [treeC_eq] at hh ⊢
   simp only [bD,bytesD] at *
   refine spec_of Tryz.func63 rfl rfl rfl (by kernel_rfl) rfl fun K=>?_
   (repeat' (first|with_reducible (first|refine zA fun Kn hK=>?_|refine zU ?_|refine Nx.go ?_|go_step)|refine ⟨_,hh,?_⟩|with_reducible (first|refine zI ?_|refine zV ?_)|simp (maxSteps:=9^9) (disch:=omega) only [wq]|with_reducible refine zM (fun hb=>?_) (fun hb=>?_)<;>try simp only [hb]|with_reducible refine And.intro (by first|omega|(simp;done)|(simp;omega)) ?_|simp (maxSteps:=9^9) -implicitDefEqProofs only [go_sem,l2,decide_true,bne,Bool.not_true,Bool.not_false]))
   all_goals rfl
theorem rends_m (l:List Tree) (hl: ∀ x∈l,x.wt≤30000000):Spec Tryz.prog G 66 [.c (.sl l.length (l.flatMap treeC))] (.many [.g (wdC (endsD l).1),.c (.v (.bool (endsD l).2))]):=by
 cases l with
 | nil =>
  have k0:(((0:Nat):Int)==0)=true:=rfl
  rw [List.length_nil,List.flatMap_nil]
  refine spec_of Tryz.func66 rfl rfl rfl (by kernel_rfl) rfl fun K=>?_
  (repeat' (first|with_reducible (first|refine zA fun Kn hK=>?_|refine zU ?_|refine Nx.go ?_|go_step)|with_reducible (first|refine zI ?_|refine zV ?_)|simp (maxSteps:=9^9) (disch:=omega) only [wq]|with_reducible refine zM (fun hb=>?_) (fun hb=>?_)<;>try simp only [hb]|with_reducible refine And.intro (by first|omega|(simp;done)|(simp;omega)) ?_|simp (maxSteps:=9^9) -implicitDefEqProofs only [go_sem,k0,decide_true,bne,Bool.not_true,Bool.not_false]))
  all_goals rfl
 | cons x m =>
  have k0:(((m.length+1:Nat):Int)==0)=false:=by rw [beq_eq_false_iff_ne];omega
  have k1:(((m.length+1:Nat):Int)==1)=emptyL m:=by
   cases m with
   | nil=>rfl
   | cons y m =>
    rw [show emptyL (y::m)=false from rfl,beq_eq_false_iff_ne,List.length_cons]
    omega
  have hg:=rwget_m (G:=G) x rfl (hl x (by simp))
  unfold rwgetD at hg
  have hv:endsD (x::m)=((getR x).getD Wd.none,(getR x).isSome&&(emptyL m&&(((getR x).getD Wd.none).aft||((getR x).getD Wd.none).unt))):=rfl
  rw [hv]
  clear hv
  generalize (getR x).getD Wd.none=w at *
  generalize (getR x).isSome=ok at *
  generalize emptyL m=em at *
  rw [List.flatMap_cons,List.length_cons]
  rw [treeC_eq x] at hg ⊢
  dsimp only
  unfold wdC at *
  obtain ⟨a,n,u,k⟩:=w
  dsimp only at *
  simp only [bD,bytesD,List.cons_append,List.nil_append] at *
  cases ok<;>cases em<;>cases a
  all_goals
   refine spec_of Tryz.func66 rfl rfl rfl (by kernel_rfl) rfl fun K=>?_
   (repeat' (first|with_reducible (first|refine zA fun Kn hK=>?_|refine zU ?_|refine Nx.go ?_|go_step)|refine ⟨_,hg,?_⟩|with_reducible (first|refine zI ?_|refine zV ?_)|simp (maxSteps:=9^9) (disch:=omega) only [wq]|with_reducible refine zM (fun hb=>?_) (fun hb=>?_)<;>try simp only [hb]|with_reducible refine And.intro (by first|omega|(simp;done)|(simp;omega)) ?_|simp (maxSteps:=9^9) -implicitDefEqProofs only [go_sem,k0,k1,decide_true,bne,Bool.not_true,Bool.not_false]))
   all_goals rfl
end
theorem take_eq {α:Type} {l m:List α} {k:Nat} {x:α} (hl:l[k]?=some x) (hm:m[k]?=some x) (h:l.take k=m.take k):l.take (k+1)=m.take (k+1):=by
 rw [List.take_add_one,List.take_add_one,hl,hm,h]
def Sb.great (s:Sb) (k:Nat):Bool:=decide (6<k)||(decide (12<s.kids.length)||(decide (12<s.names.length)||(decide (200<s.kd.length)||((s.names.any fun n=>decide (5000<n.length))||s.kids.attach.any fun x=>Sb.great x.1 (k+1)))))
termination_by SizeOf.sizeOf s
decreasing_by exact Sb.kid_lt x.2
theorem Sb.great_eq (s:Sb) (k:Nat):s.great k=(decide (6<k)||(decide (12<s.kids.length)||(decide (12<s.names.length)||(decide (200<s.kd.length)||((s.names.any fun n=>decide (5000<n.length))||s.kids.any fun x=>Sb.great x (k+1)))))):=by
 rw [Sb.great]
 simp
theorem Sb.fit_of: ∀ (s:Sb) (k:Nat),s.great k=false→s.fit:=by
 refine Sb.ind fun s ih k h=>?_
 rw [Sb.great_eq] at h
 simp only [Bool.or_eq_false_iff,decide_eq_false_iff_not,List.any_eq_false,decide_eq_true_eq,Bool.not_eq_true] at h
 obtain ⟨_,h2,h3,h4,h5,h6⟩:=h
 rw [Sb.fit_eq]
 exact ⟨⟨by omega,by omega,by omega,fun n hn=>by have:=h5 n hn;omega⟩,fun x hx=>ih x hx (k+1) (h6 x hx)⟩
section
variable {G:Nat→Option (List D)}
theorem rsgreat_m: ∀ s:Sb,∀ (cs:List D) (k:Nat),sbC s=cs→k≤7→Spec Tryz.prog G 35 [.g cs,.c (.v (.int .i64 (k:Int)))] (.one (.c (.v (.bool (s.great k))))):=Sb.ind fun s ih cs k hcs hk=>by
 subst hcs
 have hv:=s.great_eq k
 have d0:decide ((k:Int)>6)=decide (6<k):=by rw [decide_eq_decide];omega
 have d1:decide ((s.kids.length:Int)>12)=decide (12<s.kids.length):=by rw [decide_eq_decide];omega
 have d2:decide ((s.names.length:Int)>12)=decide (12<s.names.length):=by rw [decide_eq_decide];omega
 have d3:decide ((s.kd.length:Int)>200)=decide (200<s.kd.length):=by rw [decide_eq_decide];omega
 rw [sbC_eq]
 obtain ⟨R,hR⟩: ∃ R,s.great k=R:=⟨_,rfl⟩
 rw [hR] at hv ⊢
 clear hR
 generalize hy0:decide (6<k)=y0 at *
 generalize hy1:decide (12<s.kids.length)=y1 at *
 generalize hy2:decide (12<s.names.length)=y2 at *
 generalize decide (200<s.kd.length)=y3 at *
 have five:y0=true∨(y0=false∧y1=true)∨(y0=false∧y1=false∧y2=true)∨(y0=false∧y1=false∧y2=false∧y3=true)∨(y0=false∧y1=false∧y2=false∧y3=false):=by cases y0<;>cases y1<;>cases y2<;>cases y3<;>simp
 have four:(y0||(y1||(y2||y3)))=true∨(y0=false∧y1=false∧y2=false∧y3=false):=by cases y0<;>cases y1<;>cases y2<;>cases y3<;>simp
 rcases four with hbad|⟨rfl,rfl,rfl,rfl⟩
 ·have hR:R=true:=by
   rw [hv]
   clear five hv d0 d1 d2 d3 hy0 hy1 hy2
   revert hbad
   cases y0<;>cases y1<;>cases y2<;>cases y3<;>simp
  subst hR
  clear hv ih hy0 hy1 hy2
  simp only [bD,bytesD] at *
  rcases five with rfl|⟨rfl,rfl⟩|⟨rfl,rfl,rfl⟩|⟨rfl,rfl,rfl,rfl⟩|⟨rfl,rfl,rfl,rfl⟩
  case inr.inr.inr.inr=>exact absurd hbad (by decide)
  all_goals
   refine spec_of Tryz.func35 rfl rfl rfl (by kernel_rfl) rfl fun K=>?_
   (repeat' (first|with_reducible (first|refine zA fun Kn hK=>?_|refine zU ?_|refine Nx.go ?_|go_step)|with_reducible (first|refine zI ?_|refine zV ?_)|simp (maxSteps:=9^9) (disch:=omega) only [wq]|with_reducible refine zM (fun hb=>?_) (fun hb=>?_)<;>try simp only [hb]|with_reducible refine And.intro (by first|omega|(simp;done)|(simp;omega)) ?_|simp (maxSteps:=9^9) -implicitDefEqProofs only [go_sem,d0,d1,d2,d3,decide_true]))
 ·clear five
  simp only [Bool.false_or] at hv
  have k6: ¬ 6<k:=of_decide_eq_false hy0
  have k12: ¬ 12<s.kids.length:=of_decide_eq_false hy1
  have n12: ¬ 12<s.names.length:=of_decide_eq_false hy2
  clear hy0 hy1 hy2
  simp only [bD,bytesD] at *
  refine spec_of Tryz.func35 rfl rfl rfl (by kernel_rfl) rfl fun K=>?_
  (repeat' (first|with_reducible (first|refine zA fun Kn hK=>?_|refine zU ?_|refine Nx.go ?_|go_step)|with_reducible (first|refine zI ?_|refine zV ?_)|simp (maxSteps:=9^9) (disch:=omega) only [wq]|with_reducible refine zM (fun hb=>?_) (fun hb=>?_)<;>try simp only [hb]|with_reducible refine And.intro (by first|omega|(simp;done)|(simp;omega)) ?_|simp (maxSteps:=9^9) -implicitDefEqProofs only [go_sem,d0,d1,d2,d3,decide_true]))
  refine sound_loopR (fun x:{j:Nat // j≤s.names.length∧ ∀ y∈s.names.take j,(!decide (5000<y.length))=true}=>⟨[(1,vI k),(2,vP 2 0),(30,vI s.names.length),(31,vI x.1)],[(2,some ⟨28,sbK s,true,false⟩)]⟩) (fun x=>s.names.length-x.1) ⟨0,by simp⟩ [] (by (iterate 2 ((try simp (maxSteps:=9^9) -implicitDefEqProofs only [go_sem,bD,bytesD]);(try simp (maxSteps:=9^9) (disch:=omega) only [wq])));try simp) (fun ⟨j,hj,hall⟩=>?_)
  by_cases hlt:j<s.names.length
  ·obtain ⟨x,hx⟩: ∃ x,s.names[j]?=some x:=⟨_,List.getElem?_eq_getElem hlt⟩
   have hb:decide ((j:Int)<(s.names.length:Int))=true:=by simpa using hlt
   have hr:=row_at hx
   have hlx:decide ((x.length:Int)>5000)=decide (5000<x.length):=by rw [decide_eq_decide];omega
   simp only [bytesD] at hr
   cases hq:decide (5000<x.length) with
   | true =>
    have hyes:(s.names.any fun n=>decide (5000<n.length))=true:=List.any_eq_true.2 ⟨x,List.mem_of_getElem? hx,hq⟩
    rw [hq] at hlx
    rw [hyes,Bool.true_or] at hv
    (repeat' (first|with_reducible (first|refine zA fun Kn hK=>?_|refine zU ?_|refine Nx.go ?_|go_step)|with_reducible (first|refine zI ?_|refine zV ?_)|simp (maxSteps:=9^9) (disch:=omega) only [wq]|with_reducible refine zM (fun hb=>?_) (fun hb=>?_)<;>try simp only [hb]|with_reducible refine And.intro (by first|omega|(simp;done)|(simp;omega)) ?_|simp (maxSteps:=9^9) -implicitDefEqProofs only [go_sem,hb,hr,hlx,List.length_map,bD,bytesD]))
    all_goals rw [hv]
   | false =>
    rw [hq] at hlx
    (repeat' (first|with_reducible (first|refine zA fun Kn hK=>?_|refine zU ?_|refine Nx.go ?_|go_step)|(refine ⟨[],⟨j+1,hlt,tk_none hx (by rw [hq];rfl) hall⟩,?_⟩)|with_reducible (first|refine zI ?_|refine zV ?_)|simp (maxSteps:=9^9) (disch:=omega) only [wq]|with_reducible refine zM (fun hb=>?_) (fun hb=>?_)<;>try simp only [hb]|with_reducible refine And.intro (by first|omega|(simp;done)|(simp;omega)) ?_|simp (maxSteps:=9^9) -implicitDefEqProofs only [go_sem,hb,hr,hlx,List.length_map,bD,bytesD]))
    all_goals omega
  ·have hb:decide ((j:Int)<(s.names.length:Int))=false:=by simpa using hlt
   obtain rfl:j=s.names.length:=by omega
   rw [List.take_length] at hall
   have hno:(s.names.any fun n=>decide (5000<n.length))=false:=by
    rw [List.any_eq_false]
    intro n hn
    have:=hall n hn
    simpa using this
   rw [hno,Bool.false_or] at hv
   (repeat' (first|with_reducible (first|refine zA fun Kn hK=>?_|refine zU ?_|refine Nx.go ?_|go_step)|with_reducible (first|refine zI ?_|refine zV ?_)|simp (maxSteps:=9^9) (disch:=omega) only [wq]|with_reducible refine zM (fun hb=>?_) (fun hb=>?_)<;>try simp only [hb]|with_reducible refine And.intro (by first|omega|(simp;done)|(simp;omega)) ?_|simp (maxSteps:=9^9) -implicitDefEqProofs only [go_sem,hb,bD,bytesD]))
   refine sound_loopR (fun x:{j:Nat // j≤s.kids.length∧ ∀ y∈s.kids.take j,(!y.great (k+1))=true}=>⟨[(1,vI k),(2,vP 2 0),(44,vI s.kids.length),(45,vI x.1)],[(2,some ⟨28,sbK s,true,false⟩)]⟩) (fun x=>s.kids.length-x.1) ⟨0,by simp⟩ [] (by (iterate 2 ((try simp (maxSteps:=9^9) -implicitDefEqProofs only [go_sem,bD,bytesD]);(try simp (maxSteps:=9^9) (disch:=omega) only [wq])));try simp) (fun ⟨j,hj,hall⟩=>?_)
   by_cases hlt:j<s.kids.length
   ·obtain ⟨x,hx⟩: ∃ x,s.kids[j]?=some x:=⟨_,List.getElem?_eq_getElem hlt⟩
    have hb:decide ((j:Int)<(s.kids.length:Int))=true:=by simpa using hlt
    have hm:=List.mem_of_getElem? hx
    have hxv:=ih x hm _ (k+1) rfl (by omega)
    have hf:=flat_at sbC_len hx
    rw [sbC_eq x] at hxv hf
    rw [show ((k+1:Nat):Int)=(k:Int)+1 from by omega] at hxv
    simp only [bD,bytesD] at hxv hf
    cases hq:x.great (k+1) with
    | true =>
     have hyes:(s.kids.any fun x=>x.great (k+1))=true:=List.any_eq_true.2 ⟨x,hm,hq⟩
     rw [hq] at hxv
     rw [hyes] at hv
     clear ih
     (repeat' (first|with_reducible (first|refine zA fun Kn hK=>?_|refine zU ?_|refine Nx.go ?_|go_step)|refine ⟨_,hxv,?_⟩|with_reducible (first|refine zI ?_|refine zV ?_)|simp (maxSteps:=9^9) (disch:=omega) only [wq]|with_reducible refine zM (fun hb=>?_) (fun hb=>?_)<;>try simp only [hb]|with_reducible refine And.intro (by first|omega|(simp;done)|(simp;omega)) ?_|simp (maxSteps:=9^9) -implicitDefEqProofs only [go_sem,hb,hf,bD,bytesD]))
     all_goals rw [hv]
    | false =>
     rw [hq] at hxv
     clear ih
     (repeat' (first|with_reducible (first|refine zA fun Kn hK=>?_|refine zU ?_|refine Nx.go ?_|go_step)|refine ⟨_,hxv,?_⟩|(refine ⟨[],⟨j+1,hlt,tk_none (f:=fun x=> !x.great (k+1)) hx (by rw [hq];rfl) hall⟩,?_⟩)|with_reducible (first|refine zI ?_|refine zV ?_)|simp (maxSteps:=9^9) (disch:=omega) only [wq]|with_reducible refine zM (fun hb=>?_) (fun hb=>?_)<;>try simp only [hb]|with_reducible refine And.intro (by first|omega|(simp;done)|(simp;omega)) ?_|simp (maxSteps:=9^9) -implicitDefEqProofs only [go_sem,hb,hf,bD,bytesD]))
     all_goals omega
   ·have hb:decide ((j:Int)<(s.kids.length:Int))=false:=by simpa using hlt
    obtain rfl:j=s.kids.length:=by omega
    rw [List.take_length] at hall
    have hno:(s.kids.any fun x=>x.great (k+1))=false:=by
     rw [List.any_eq_false]
     intro n hn
     have:=hall n hn
     simpa using this
    rw [hno] at hv
    (repeat' (first|with_reducible (first|refine zA fun Kn hK=>?_|refine zU ?_|refine Nx.go ?_|go_step)|with_reducible (first|refine zI ?_|refine zV ?_)|simp (maxSteps:=9^9) (disch:=omega) only [wq]|with_reducible refine zM (fun hb=>?_) (fun hb=>?_)<;>try simp only [hb]|with_reducible refine And.intro (by first|omega|(simp;done)|(simp;omega)) ?_|simp (maxSteps:=9^9) -implicitDefEqProofs only [go_sem,hb,bD,bytesD]))
    all_goals rw [hv]
theorem rssame_m: ∀ (t u:Sb) (cs ds:List D),sbC t=cs→sbC u=ds→t.fit→Spec Tryz.prog G 43 [.g cs,.g ds] (.one (.c (.v (.bool (t.same u))))):=Sb.ind fun t ih u cs ds hcs hds hf=>by
 subst hcs hds
 obtain ⟨f1,f2,f3,f4⟩:=hf.here
 have he:=u8_beq t.kind u.kind
 have hq:=rksame_m (G:=G) t.ks u.ks t.kd u.kd
 have hln:((t.names.length:Int)==(u.names.length:Int))=decide (t.names.length=u.names.length):=by
  rw [Bool.eq_iff_iff,beq_iff_eq,decide_eq_true_iff]
  omega
 have hlk:((t.kids.length:Int)==(u.kids.length:Int))=decide (t.kids.length=u.kids.length):=by
  rw [Bool.eq_iff_iff,beq_iff_eq,decide_eq_true_iff]
  omega
 have hv:t.same u=(t.kind==u.kind&&(t.k==u.k&&((t.ks==u.ks&&t.kd==u.kd)&&(decide (t.names.length=u.names.length)&&(decide (t.kids.length=u.kids.length)&&(decide (t.names=u.names)&&sameLS t.kids u.kids)))))):=by
  rw [Bool.eq_iff_iff]
  simp only [Bool.and_eq_true,beq_iff_eq,decide_eq_true_eq]
  refine ⟨fun h=>?_,fun ⟨h1,h2,⟨h3,h4⟩,_,_,h5,h6⟩=>?_⟩
  ·cases ssame_iff.1 h
   exact ⟨rfl,rfl,⟨rfl,rfl⟩,rfl,rfl,rfl,sameLS_t rfl⟩
  ·rw [ssame_iff,t.eta,u.eta,h1,h2,h3,h4,h5,sameLS_of h6]
 obtain ⟨R,hR⟩: ∃ R,t.same u=R:=⟨_,rfl⟩
 rw [hR] at hv ⊢
 clear hR
 rw [sbC_eq,sbC_eq]
 generalize (t.ks==u.ks&&t.kd==u.kd)=z3 at *
 generalize hz4:decide (t.names.length=u.names.length)=z4 at *
 generalize hz5:decide (t.kids.length=u.kids.length)=z5 at *
 generalize (t.kind==u.kind)=z1 at *
 obtain ⟨z2,hz2⟩: ∃ z,(t.k==u.k)=z:=⟨_,rfl⟩
 rw [hz2] at hv
 have six:z1=false∨(z1=true∧z2=false)∨(z1=true∧z2=true∧z3=false)∨(z1=true∧z2=true∧z3=true∧z4=false)∨(z1=true∧z2=true∧z3=true∧z4=true∧z5=false)∨(z1=true∧z2=true∧z3=true∧z4=true∧z5=true):=by cases z1<;>cases z2<;>cases z3<;>cases z4<;>cases z5<;>simp
 simp only [keyC,bD,bytesD] at *
 rcases six with rfl|⟨rfl,rfl⟩|⟨rfl,rfl,rfl⟩|⟨rfl,rfl,rfl,rfl⟩|⟨rfl,rfl,rfl,rfl,rfl⟩|⟨rfl,rfl,rfl,rfl,rfl⟩
 case inr.inr.inr.inr.inr =>
  have hn:t.names.length=u.names.length:=of_decide_eq_true hz4
  have hk:t.kids.length=u.kids.length:=of_decide_eq_true hz5
  simp only [Bool.true_and] at hv
  clear hz4 hz5
  refine spec_of Tryz.func43 rfl rfl rfl (by kernel_rfl) rfl fun K=>?_
  (repeat' (first|with_reducible (first|refine zA fun Kn hK=>?_|refine zU ?_|refine Nx.go ?_|go_step)|refine ⟨_,hq,?_⟩|with_reducible (first|refine zI ?_|refine zV ?_)|simp (maxSteps:=9^9) (disch:=omega) only [wq]|with_reducible refine zM (fun hb=>?_) (fun hb=>?_)<;>try simp only [hb]|with_reducible refine And.intro (by first|omega|(simp;done)|(simp;omega)) ?_|simp (maxSteps:=9^9) -implicitDefEqProofs only [go_sem,he,hz2,hln,hlk,bne,decide_true,Bool.not_true,Bool.not_false]))
  refine sound_loopR (fun x:{j:Nat // j≤t.names.length∧t.names.take j=u.names.take j}=>⟨[(2,vP 2 0),(3,vP 3 0),(47,vI t.names.length),(48,vI x.1)],[(2,some ⟨28,sbK t,true,false⟩),(3,some ⟨28,sbK u,true,false⟩)]⟩) (fun x=>t.names.length-x.1) ⟨0,by simp⟩ [] (by (iterate 2 ((try simp (maxSteps:=9^9) -implicitDefEqProofs only [go_sem,bD,bytesD]);(try simp (maxSteps:=9^9) (disch:=omega) only [wq])));try simp) (fun ⟨j,hj,hall⟩=>?_)
  by_cases hlt:j<t.names.length
  ·obtain ⟨x,hx⟩: ∃ x,t.names[j]?=some x:=⟨_,List.getElem?_eq_getElem hlt⟩
   obtain ⟨y,hy⟩: ∃ y,u.names[j]?=some y:=⟨_,List.getElem?_eq_getElem (by omega)⟩
   have hb:decide ((j:Int)<(t.names.length:Int))=true:=by simpa using hlt
   have hjm:j<u.names.length:=by omega
   have hrx:=row_at hx
   have hry:=row_at hy
   simp only [bytesD] at hrx hry
   clear ih
   by_cases hxy:x=y
   ·subst hxy
    (repeat' (first|with_reducible (first|refine zA fun Kn hK=>?_|refine zU ?_|refine Nx.go ?_|go_step)|(refine ⟨[],⟨j+1,hlt,take_eq hx hy hall⟩,?_⟩)|with_reducible (first|refine zI ?_|refine zV ?_)|simp (maxSteps:=9^9) (disch:=omega) only [wq]|with_reducible refine zM (fun hb=>?_) (fun hb=>?_)<;>try simp only [hb]|with_reducible refine And.intro (by first|omega|(simp;done)|(simp;omega)) ?_|simp (maxSteps:=9^9) -implicitDefEqProofs only [go_sem,hb,hrx,hry,List.length_map,bD,bytesD,bne,beq_self_eq_true,Bool.not_true,Bool.not_false]))
    all_goals omega
   ·have hd:(x==y)=false:=beq_eq_false_iff_ne.2 hxy
    have hno:decide (t.names=u.names)=false:=by
     rw [decide_eq_false_iff_not]
     intro h
     rw [h,hy] at hx
     injection hx with hx
     exact hxy hx.symm
    rw [hno,Bool.false_and] at hv
    (repeat' (first|with_reducible (first|refine zA fun Kn hK=>?_|refine zU ?_|refine Nx.go ?_|go_step)|with_reducible (first|refine zI ?_|refine zV ?_)|simp (maxSteps:=9^9) (disch:=omega) only [wq]|with_reducible refine zM (fun hb=>?_) (fun hb=>?_)<;>try simp only [hb]|with_reducible refine And.intro (by first|omega|(simp;done)|(simp;omega)) ?_|simp (maxSteps:=9^9) -implicitDefEqProofs only [go_sem,hb,hrx,hry,hd,List.length_map,bD,bytesD,bne,Bool.not_true,Bool.not_false]))
    all_goals rw [hv]
  ·have hb:decide ((j:Int)<(t.names.length:Int))=false:=by simpa using hlt
   obtain rfl:j=t.names.length:=by omega
   rw [List.take_length,hn,List.take_length] at hall
   rw [decide_eq_true hall,Bool.true_and] at hv
   (repeat' (first|with_reducible (first|refine zA fun Kn hK=>?_|refine zU ?_|refine Nx.go ?_|go_step)|with_reducible (first|refine zI ?_|refine zV ?_)|simp (maxSteps:=9^9) (disch:=omega) only [wq]|with_reducible refine zM (fun hb=>?_) (fun hb=>?_)<;>try simp only [hb]|with_reducible refine And.intro (by first|omega|(simp;done)|(simp;omega)) ?_|simp (maxSteps:=9^9) -implicitDefEqProofs only [go_sem,hb,bD,bytesD]))
   refine sound_loopR (fun x:{j:Nat // j≤t.kids.length∧t.kids.take j=u.kids.take j}=>⟨[(2,vP 2 0),(3,vP 3 0),(67,vI t.kids.length),(68,vI x.1)],[(2,some ⟨28,sbK t,true,false⟩),(3,some ⟨28,sbK u,true,false⟩)]⟩) (fun x=>t.kids.length-x.1) ⟨0,by simp⟩ [] (by (iterate 2 ((try simp (maxSteps:=9^9) -implicitDefEqProofs only [go_sem,bD,bytesD]);(try simp (maxSteps:=9^9) (disch:=omega) only [wq])));try simp) (fun ⟨j,hj,hall⟩=>?_)
   by_cases hlt:j<t.kids.length
   ·obtain ⟨x,hx⟩: ∃ x,t.kids[j]?=some x:=⟨_,List.getElem?_eq_getElem hlt⟩
    obtain ⟨y,hy⟩: ∃ y,u.kids[j]?=some y:=⟨_,List.getElem?_eq_getElem (by omega)⟩
    have hb:decide ((j:Int)<(t.kids.length:Int))=true:=by simpa using hlt
    have hjm:j<u.kids.length:=by omega
    have hm:=List.mem_of_getElem? hx
    have hxv:=ih x hm y _ _ rfl rfl (hf.kid hm)
    have hfx:=flat_at sbC_len hx
    have hfy:=flat_at sbC_len hy
    rw [sbC_eq x] at hxv hfx
    rw [sbC_eq y] at hxv hfy
    simp only [bD,bytesD] at hxv hfx hfy
    clear ih
    cases hxy:x.same y with
    | true =>
     rw [hxy] at hxv
     obtain rfl:=ssame_iff.1 hxy
     (repeat' (first|with_reducible (first|refine zA fun Kn hK=>?_|refine zU ?_|refine Nx.go ?_|go_step)|refine ⟨_,hxv,?_⟩|(refine ⟨[],⟨j+1,hlt,take_eq hx hy hall⟩,?_⟩)|with_reducible (first|refine zI ?_|refine zV ?_)|simp (maxSteps:=9^9) (disch:=omega) only [wq]|with_reducible refine zM (fun hb=>?_) (fun hb=>?_)<;>try simp only [hb]|with_reducible refine And.intro (by first|omega|(simp;done)|(simp;omega)) ?_|simp (maxSteps:=9^9) -implicitDefEqProofs only [go_sem,hb,hfx,hfy,bD,bytesD,Bool.not_true,Bool.not_false]))
     all_goals omega
    | false =>
     rw [hxy] at hxv
     have hno:sameLS t.kids u.kids=false:=sameLS_f fun h=>by
      rw [h,hy] at hx
      injection hx with hx
      rw [ssame_iff.2 hx.symm] at hxy
      cases hxy
     rw [hno] at hv
     (repeat' (first|with_reducible (first|refine zA fun Kn hK=>?_|refine zU ?_|refine Nx.go ?_|go_step)|refine ⟨_,hxv,?_⟩|with_reducible (first|refine zI ?_|refine zV ?_)|simp (maxSteps:=9^9) (disch:=omega) only [wq]|with_reducible refine zM (fun hb=>?_) (fun hb=>?_)<;>try simp only [hb]|with_reducible refine And.intro (by first|omega|(simp;done)|(simp;omega)) ?_|simp (maxSteps:=9^9) -implicitDefEqProofs only [go_sem,hb,hfx,hfy,bD,bytesD,Bool.not_true,Bool.not_false]))
     all_goals rw [hv]
   ·have hb:decide ((j:Int)<(t.kids.length:Int))=false:=by simpa using hlt
    obtain rfl:j=t.kids.length:=by omega
    rw [List.take_length,hk,List.take_length] at hall
    rw [sameLS_t hall] at hv
    (repeat' (first|with_reducible (first|refine zA fun Kn hK=>?_|refine zU ?_|refine Nx.go ?_|go_step)|with_reducible (first|refine zI ?_|refine zV ?_)|simp (maxSteps:=9^9) (disch:=omega) only [wq]|with_reducible refine zM (fun hb=>?_) (fun hb=>?_)<;>try simp only [hb]|with_reducible refine And.intro (by first|omega|(simp;done)|(simp;omega)) ?_|simp (maxSteps:=9^9) -implicitDefEqProofs only [go_sem,hb,bD,bytesD]))
    all_goals rw [hv]
 all_goals
  have hR:R=false:=hv
  subst hR
  clear hv ih
  refine spec_of Tryz.func43 rfl rfl rfl (by kernel_rfl) rfl fun K=>?_
  (repeat' (first|with_reducible (first|refine zA fun Kn hK=>?_|refine zU ?_|refine Nx.go ?_|go_step)|refine ⟨_,hq,?_⟩|with_reducible (first|refine zI ?_|refine zV ?_)|simp (maxSteps:=9^9) (disch:=omega) only [wq]|with_reducible refine zM (fun hb=>?_) (fun hb=>?_)<;>try simp only [hb]|with_reducible refine And.intro (by first|omega|(simp;done)|(simp;omega)) ?_|simp (maxSteps:=9^9) -implicitDefEqProofs only [go_sem,he,hz2,hln,hlk,bne,decide_true,Bool.not_true,Bool.not_false]))
  all_goals rfl
end
section
variable {G:Nat→Option (List D)}
theorem rGet12_at (v:Tree) {cs:List D} (hcs:treeC v=cs) (hw:v.wt≤30000000):Spec Tryz.prog G 108 [.g cs] (.many [.g (tagC ((getTg v).getD zeroTg)),.c (.v (.bool (getTg v).isSome))]):=by
 have h:=rGet12_m (G:=G) v hcs hw
 unfold getTg
 generalize (if v.may=true then getT isV v else none)=o at *
 cases o<;>exact h
theorem rrights_m (l:List Tree) (hl: ∀ x∈l,x.wt≤30000000):Spec Tryz.prog G 68 [.c (.sl l.length (l.flatMap treeC))] (.many [.c (.v (.bool (rightsD l).1)),.g (tagC (rightsD l).2.1),.g (wdC (rightsD l).2.2.1),.c (.v (.bool (rightsD l).2.2.2))]):=by
 have p0:decide (((0:Nat):Int)>0)=false:=rfl
 have k0:(((0:Nat):Int)==0)=true:=rfl
 have hzt:=zeroTg_C
 have hof: ∀ x∈l,Spec Tryz.prog G 63 [.g (treeC x),.c (.v (.string ⟨wTagW.toArray⟩))] (.many [.g (treeC ((ofR x wTagW).getD zeroT)),.c (.v (.bool (ofR x wTagW).isSome))]):=fun x _=>rof_m x rfl wTagW
 have hgt: ∀ x∈l,Spec Tryz.prog G 108 [.g (treeC ((ofR x wTagW).getD zeroT))] (.many [.g (tagC ((getTg ((ofR x wTagW).getD zeroT)).getD zeroTg)),.c (.v (.bool (getTg ((ofR x wTagW).getD zeroT)).isSome))]):=fun x hx=>by
  refine rGet12_at _ rfl ?_
  have hxw:=hl x hx
  unfold ofR
  split
  ·rename_i hh
   rw [Bool.and_eq_true,beq_iff_eq] at hh
   have:x.kid 1∈x.kids:=by
    match hk:x.kids,hh.2 with
    | [a,b],_ =>
     rw [Tree.kid_at (i:=1) (x:=b) (by rw [hk];rfl)]
     simp
   have:=Tree.wt_kid this
   show (x.kid 1).wt≤_
   omega
  ·show zeroT.wt≤_
   rw [zeroT_wt]
   omega
 cases l with
 | nil =>
  have hv:rightsD []=(false,zeroTg,Wd.none,false):=rfl
  rw [hv]
  dsimp only
  rw [hzt]
  clear hof hgt hv hzt
  rw [List.length_nil,List.flatMap_nil]
  refine spec_of Tryz.func68 rfl rfl rfl (by kernel_rfl) rfl fun K=>?_
  (repeat' (first|with_reducible (first|refine zA fun Kn hK=>?_|refine zU ?_|refine Nx.go ?_|go_step)|with_reducible (first|refine zI ?_|refine zV ?_)|simp (maxSteps:=9^9) (disch:=omega) only [wq]|with_reducible refine zM (fun hb=>?_) (fun hb=>?_)<;>try simp only [hb]|with_reducible refine And.intro (by first|omega|(simp;done)|(simp;omega)) ?_|simp (maxSteps:=9^9) -implicitDefEqProofs only [go_sem,p0,k0,decide_true,bne,Bool.not_true,Bool.not_false]))
  all_goals rfl
 | cons x m =>
  have hh:=headref_m (G:=G) x rfl wProp
  have px:decide (((m.length+1:Nat):Int)>0)=true:=decide_eq_true (by omega)
  have kx:(((m.length+1:Nat):Int)==0)=false:=by rw [beq_eq_false_iff_ne];omega
  have l1:((x.kids.length:Int)==1)=(x.kids.length==1):=by
   rw [Bool.eq_iff_iff,beq_iff_eq,beq_iff_eq]
   omega
  by_cases hp:(headB x wProp&&(x.kids.length==1))=true
  ·have hc:cutP (x::m)=(true,m):=if_pos hp
   rw [Bool.and_eq_true] at hp
   rw [hp.1] at hh
   rw [hp.2] at l1
   cases m with
   | nil =>
    have hv:rightsD [x]=(false,zeroTg,Wd.none,false):=by
     unfold rightsD
     rw [hc]
    rw [hv]
    dsimp only
    rw [hzt]
    clear hof hgt hv hzt hc hp
    rw [List.flatMap_cons,List.flatMap_nil,List.append_nil,List.length_cons,List.length_nil]
    rw [treeC_eq x] at hh ⊢
    unfold wProp at *
    simp only [bD,bytesD] at *
    refine spec_of Tryz.func68 rfl rfl rfl (by kernel_rfl) rfl fun K=>?_
    have r0:0+1-1=0:=rfl
    have q1:decide (((1:Nat):Int)>0)=true:=rfl
    have q2:(((1:Nat):Int)==0)=false:=rfl
    (repeat' (first|with_reducible (first|refine zA fun Kn hK=>?_|refine zU ?_|refine Nx.go ?_|go_step)|refine ⟨_,hh,?_⟩|with_reducible (first|refine zI ?_|refine zV ?_)|simp (maxSteps:=9^9) (disch:=omega) only [wq]|with_reducible refine zM (fun hb=>?_) (fun hb=>?_)<;>try simp only [hb]|with_reducible refine And.intro (by first|omega|(simp;done)|(simp;omega)) ?_|simp (maxSteps:=9^9) -implicitDefEqProofs only [go_sem,px,kx,p0,k0,r0,q1,q2,l1,decide_true,bne,Bool.not_true,Bool.not_false]))
    all_goals rfl
   | cons y m =>
    have hv:rightsD (x::y::m)=(true,(getTg ((ofR y wTagW).getD zeroT)).getD zeroTg,(endsD m).1,(ofR y wTagW).isSome&&((getTg ((ofR y wTagW).getD zeroT)).isSome&&(endsD m).2)):=by
     unfold rightsD
     rw [hc]
    have ho:=hof y (by simp)
    have hg:=hgt y (by simp)
    have he:=rends_m (G:=G) m (fun z hz=>hl z (by simp [hz]))
    have hwe:=endsD m
    rw [hv]
    dsimp only
    clear hof hgt hv hzt hc hp hwe
    generalize (endsD m).1=EW at *
    generalize (endsD m).2=eb at *
    generalize (getTg ((ofR y wTagW).getD zeroT)).getD zeroTg=TG at *
    generalize (getTg ((ofR y wTagW).getD zeroT)).isSome=tb at *
    generalize (ofR y wTagW).isSome=ob at *
    generalize (ofR y wTagW).getD zeroT=OY at *
    obtain ⟨t0,t1,t2,t3,t4,t5,t6,t7,t8,t9,ht⟩:=tag_cells TG
    rw [ht] at hg ⊢
    clear ht
    rw [List.flatMap_cons,List.flatMap_cons,List.length_cons,List.length_cons]
    have k3:(m.flatMap treeC).length=m.length*5:=treeC_flen _
    have kx2:(((m.length+1+1:Nat):Int)==0)=false:=by rw [beq_eq_false_iff_ne];omega
    have ky:(((m.length+1:Nat):Int)==0)=false:=by rw [beq_eq_false_iff_ne];omega
    have px2:decide (((m.length+1+1:Nat):Int)>0)=true:=decide_eq_true (by omega)
    generalize m.flatMap treeC=Z at *
    have r1:m.length+1+1-1=m.length+1:=rfl
    have r2:m.length+1-1=m.length:=rfl
    have q1: ∀ (g0 g1 g2 g3 g4:D),(g0::g1::g2::g3::g4::Z).take ((m.length+1)*5)=g0::g1::g2::g3::g4::Z:=fun _ _ _ _ _=>List.take_of_length_le (by simp only [List.length_cons];omega)
    have q2:Z.take (m.length*5)=Z:=List.take_of_length_le (by omega)
    rw [treeC_eq x] at hh ⊢
    rw [treeC_eq y] at ho ⊢
    rw [treeC_eq OY] at ho hg
    unfold wProp wTagW at *
    unfold wdC at *
    simp only [bD,bytesD,List.cons_append,List.nil_append] at *
    cases ob<;>cases tb
    all_goals
     refine spec_of Tryz.func68 rfl rfl rfl (by kernel_rfl) rfl fun K=>?_
     (repeat' (first|with_reducible (first|refine zA fun Kn hK=>?_|refine zU ?_|refine Nx.go ?_|go_step)|refine ⟨_,hh,?_⟩|refine ⟨_,ho,?_⟩|refine ⟨_,hg,?_⟩|refine ⟨_,he,?_⟩|with_reducible (first|refine zI ?_|refine zV ?_)|simp (maxSteps:=9^9) (disch:=omega) only [wq]|with_reducible refine zM (fun hb=>?_) (fun hb=>?_)<;>try simp only [hb]|with_reducible refine And.intro (by first|omega|(simp;done)|(simp;omega)) ?_|simp (maxSteps:=9^9) -implicitDefEqProofs only [go_sem,px2,kx2,ky,l1,r1,r2,q1,q2,decide_true,bne,Bool.not_true,Bool.not_false]))
     all_goals rfl
  ·have hc:cutP (x::m)=(false,x::m):=if_neg hp
   have hv:rightsD (x::m)=(false,(getTg ((ofR x wTagW).getD zeroT)).getD zeroTg,(endsD m).1,(ofR x wTagW).isSome&&((getTg ((ofR x wTagW).getD zeroT)).isSome&&(endsD m).2)):=by
    unfold rightsD
    rw [hc]
   have ho:=hof x (by simp)
   have hg:=hgt x (by simp)
   have he:=rends_m (G:=G) m (fun z hz=>hl z (by simp [hz]))
   rw [hv]
   dsimp only
   clear hof hgt hv hzt hc
   generalize (endsD m).1=EW at *
   generalize (endsD m).2=eb at *
   generalize (getTg ((ofR x wTagW).getD zeroT)).getD zeroTg=TG at *
   generalize (getTg ((ofR x wTagW).getD zeroT)).isSome=tb at *
   generalize (ofR x wTagW).isSome=ob at *
   generalize (ofR x wTagW).getD zeroT=OY at *
   obtain ⟨t0,t1,t2,t3,t4,t5,t6,t7,t8,t9,ht⟩:=tag_cells TG
   rw [ht] at hg ⊢
   clear ht
   rw [List.flatMap_cons,List.length_cons]
   have k3:(m.flatMap treeC).length=m.length*5:=treeC_flen _
   generalize m.flatMap treeC=Z at *
   have r2:m.length+1-1=m.length:=rfl
   have q2:Z.take (m.length*5)=Z:=List.take_of_length_le (by omega)
   generalize headB x wProp=q at *
   generalize (x.kids.length==1)=qk at *
   have two:q=false∨(q=true∧qk=false):=by
    revert hp
    clear hh l1
    cases q<;>cases qk<;>simp
   clear hp
   rw [treeC_eq x] at hh ho ⊢
   rw [treeC_eq OY] at ho hg
   unfold wProp wTagW at *
   unfold wdC at *
   simp only [bD,bytesD,List.cons_append,List.nil_append] at *
   rcases two with rfl|⟨rfl,rfl⟩
   all_goals
    cases ob<;>cases tb
    all_goals
     refine spec_of Tryz.func68 rfl rfl rfl (by kernel_rfl) rfl fun K=>?_
     (repeat' (first|with_reducible (first|refine zA fun Kn hK=>?_|refine zU ?_|refine Nx.go ?_|go_step)|refine ⟨_,hh,?_⟩|refine ⟨_,ho,?_⟩|refine ⟨_,hg,?_⟩|refine ⟨_,he,?_⟩|with_reducible (first|refine zI ?_|refine zV ?_)|simp (maxSteps:=9^9) (disch:=omega) only [wq]|with_reducible refine zM (fun hb=>?_) (fun hb=>?_)<;>try simp only [hb]|with_reducible refine And.intro (by first|omega|(simp;done)|(simp;omega)) ?_|simp (maxSteps:=9^9) -implicitDefEqProofs only [go_sem,px,kx,l1,r2,q2,decide_true,bne,Bool.not_true,Bool.not_false]))
     all_goals rfl
end
section
variable {G:Nat→Option (List D)}
end
section
variable {G:Nat→Option (List D)}
end
section
variable {G:Nat→Option (List D)}
end
section
variable {G:Nat→Option (List D)}
end
section
variable {G:Nat→Option (List D)}
end
def Wd.big (w:Wd):Nat:=if (-9223372036854775808≤w.frm∧w.frm≤9223372036854775807)∧(-9223372036854775808≤w.to∧w.to≤9223372036854775807) then 0 else 10000000
theorem big_64 {w:Wd} (h:w.big≤2000000):w.in64:=by
 unfold Wd.big at h
 split at h
 ·assumption
 ·omega
section
variable {G:Nat→Option (List D)}
end
section
variable {G:Nat→Option (List D)}
theorem list_o (l:List Tree) (h0:0<l.length) (hl:l.length≤100000000):Spec Tryz.prog G 51 [.c (.sl l.length (l.flatMap treeC))] (.obj 4 (.a (.agg [.d (.v (.bool true)),.d (.v (.bool false)),.nil,.nil,.row 4 5 0 l.length .grow])) ⟨45,(l.flatMap treeC).map C.d,false,false⟩):=by
 have h:=sclone_o (G:=G) l hl
 refine specO_go Tryz.func51 rfl rfl rfl (by kernel_rfl) (by (iterate 2 ((try simp (maxSteps:=9^9) -implicitDefEqProofs only [go_sem,true_and]);(try simp (maxSteps:=9^9) (disch:=omega) only [wq])))) (by (iterate 2 ((try simp (maxSteps:=9^9) -implicitDefEqProofs only [go_sem,List.all_cons,List.all_nil]);(try simp (maxSteps:=9^9) (disch:=omega) only [wq])))) fun K m=>?_
 (repeat' (first|with_reducible (first|refine zA fun Kn hK=>?_|refine zU ?_|refine Nx.go ?_|go_step)|refine ⟨_,h,?_⟩|refine raw_t (by rfl) (by rfl) (by rfl)|with_reducible (first|refine zI ?_|refine zK ?_ ?_|refine zL ?_ ?_|refine zV ?_)|simp (maxSteps:=9^9) (disch:=omega) only [wq]|with_reducible refine zM (fun hb=>?_) (fun hb=>?_)<;>try simp only [hb]|with_reducible refine And.intro (by first|omega|(simp;done)|(simp;omega)) ?_|simp (maxSteps:=9^9) -implicitDefEqProofs only [go_sem,true_and]))
end
structure En.fit (c:En):Prop where
 sub:c.sub.fit
 wt:c.tag.wt≤2000000
 nodes:c.tag.nodes≤1000
 win:c.win.in64
noncomputable def enV (e:En):Tree:=listT (atomT wEntry::pairT wSubject (if e.sub.may=true then e.sub.val else zeroT)::((if e.dlg=true then [propT] else [])++(pairT wTagW (if tMay e.tag=true then e.tag.val else zeroT)::winO e.win)))
theorem enV_ok {e:En} (h:e.ok=true):enV e=e.val:=by
 obtain ⟨h1,h2,h3⟩:=okE h
 unfold enV En.val tailV winO winL
 rw [if_pos h1,if_pos h2,if_pos h3]
theorem en_lit (e:En): ∃ s0 s1 s2 s3 s4 s5 t0 t1 t2 t3 t4 t5 t6 t7 t8 t9:D,sbC e.sub=[s0,s1,s2,s3,s4,s5]∧tagC e.tag=[t0,t1,t2,t3,t4,t5,t6,t7,t8,t9]∧enC e=[s0,s1,s2,s3,s4,s5,.v (.bool e.dlg),t0,t1,t2,t3,t4,t5,t6,t7,t8,t9,.v (.bool e.win.aft),.v (.int .i64 e.win.frm),.v (.bool e.win.unt),.v (.int .i64 e.win.to)]:=by
 obtain ⟨s1,s2,s3,s4,s5,hs⟩:=sb_cells e.sub
 obtain ⟨t0,t1,t2,t3,t4,t5,t6,t7,t8,t9,ht⟩:=tag_cells e.tag
 refine ⟨_,_,_,_,_,_,_,_,_,_,_,_,_,_,_,_,hs,ht,?_⟩
 unfold enC wdC
 rw [hs,ht]
 rfl
section
variable {G:Nat→Option (List D)}
theorem apair_m (w:List UInt8) (v:Tree) {cs:List D} (hcs:treeC v=cs) (hw:w.length≤1000):Spec Tryz.prog G 96 [.c (.v (.string ⟨w.toArray⟩)),.g cs] (.one (.g (treeC (pairT w v)))):=by
 subst hcs
 have a0:=atom_m (G:=G) w (by omega)
 have hl:=list_m (G:=G) [atomT w,v] (by simp)
 rw [show treeC (pairT w v)=treeC (.mk true false [] [] [atomT w,v]) from rfl]
 have hL:=treeC_eq (.mk true false [] [] [atomT w,v])
 generalize treeC (.mk true false [] [] [atomT w,v])=O at *
 rw [hL] at hl
 rw [List.flatMap_cons,List.flatMap_cons,List.flatMap_nil,List.append_nil] at hl
 unfold atomT at hl
 rw [treeC_mk] at a0
 rw [treeC_mk] at hl
 rw [treeC_eq v] at hl ⊢
 simp only [List.cons_append,List.nil_append] at hl
 simp only [bD,bytesD] at *
 refine spec_of Tryz.func96 rfl rfl rfl (by kernel_rfl) rfl fun K=>?_
 (repeat' (first|with_reducible (first|refine zA fun Kn hK=>?_|refine zU ?_|refine Nx.go ?_|go_step)|refine ⟨none,?_⟩|refine ⟨_,a0,?_⟩|refine ⟨_,hl,?_⟩|with_reducible (first|refine zI ?_|refine zV ?_)|simp (maxSteps:=9^9) (disch:=omega) only [wq]|with_reducible refine zM (fun hb=>?_) (fun hb=>?_)<;>try simp only [hb]|with_reducible refine And.intro (by first|omega|(simp;done)|(simp;omega)) ?_|simp (maxSteps:=9^9) -implicitDefEqProofs only [go_sem,true_and,rep1]))
 all_goals (rw [hL];try rfl)
theorem aentry_m (hG:G 0=some powD) (e:En) {cs:List D} (hcs:enC e=cs) (hf:e.fit):Spec Tryz.prog G 53 [.g cs] (.many [.g (treeC (enV e)),.c (.v (.bool e.ok))]):=by
 subst hcs
 have h1:=sbput_m (G:=G) hG e.sub rfl hf.sub
 have h2:=tput_m (G:=G) hG e.tag rfl (by have:=hf.wt;omega) (by have:=hf.nodes;omega)
 have h3:=wput_m (G:=G) e.win
 obtain ⟨s0,s1,s2,s3,s4,s5,t0,t1,t2,t3,t4,t5,t6,t7,t8,t9,hs,ht,hct⟩:=en_lit e
 unfold sputD at h1
 unfold wputD wdC at h3
 rw [hs] at h1
 rw [ht] at h2
 rw [hct]
 have k1:=win_key hf.win
 have k2:=win_key none_64
 have hok:e.ok=(e.sub.may&&(tMay e.tag&&e.win.may)):=rfl
 have hv:enV e=listT (atomT wEntry::pairT wSubject (if e.sub.may=true then e.sub.val else zeroT)::((if e.dlg=true then [propT] else [])++(pairT wTagW (if tMay e.tag=true then e.tag.val else zeroT)::winO e.win))):=rfl
 rw [hv,hok]
 clear hv hok hs ht hct hf
 have hwo:winO e.win=if e.win=Wd.none then [] else [if e.win.may=true then e.win.val else zeroT]:=rfl
 rw [hwo]
 clear hwo
 obtain ⟨SV,SE,hS1,hS2,hS3⟩: ∃ (V:Tree) (E:Int),(if e.sub.may=true then e.sub.val else zeroT)=V∧(if e.sub.may=true then (0:Int) else 7)=E∧(E==0)=e.sub.may:=⟨_,_,rfl,rfl,by cases e.sub.may<;>rfl⟩
 rw [hS1,hS2] at h1
 rw [hS1]
 obtain ⟨TV,TE,h4,hT1,hT2⟩: ∃ (V:Tree) (E:Int),Spec Tryz.prog G 95 [.g [t0,t1,t2,t3,t4,t5,t6,t7,t8,t9]] (.many [.g (treeC V),.c (.v (.int .i64 E))])∧(if tMay e.tag=true then e.tag.val else zeroT)=V∧(E==0)=tMay e.tag:=by
  cases hq:tMay e.tag with
  | true =>
   rw [hq,if_pos rfl] at h2
   exact ⟨_,_,h2,if_pos rfl,rfl⟩
  | false =>
   rw [hq,if_neg (by decide)] at h2
   refine ⟨zeroT,13,?_,if_neg (by decide),rfl⟩
   rw [zeroT_C]
   exact h2
 rw [hT1]
 obtain ⟨WV,WE,h5,hW1,hW2⟩: ∃ (V:Tree) (E:Int),Spec Tryz.prog G 87 [.g [.v (.bool e.win.aft),.v (.int .i64 e.win.frm),.v (.bool e.win.unt),.v (.int .i64 e.win.to)]] (.many [.g (treeC V),.c (.v (.int .i64 E))])∧(if e.win.may=true then e.win.val else zeroT)=V∧(E==0)=e.win.may:=by
  cases hq:e.win.may with
  | true =>
   rw [hq,if_pos rfl] at h3
   exact ⟨_,_,h3,if_pos rfl,rfl⟩
  | false =>
   rw [hq,if_neg (by decide)] at h3
   refine ⟨zeroT,11,?_,if_neg (by decide),rfl⟩
   rw [zeroT_C]
   exact h3
 rw [hW1]
 clear h2 h3 hS1 hS2 hT1 hW1
 generalize e.sub.may=z1 at *
 generalize tMay e.tag=z2 at *
 generalize e.win.may=z3 at *
 obtain ⟨zd,hzd⟩: ∃ z,e.dlg=z:=⟨_,rfl⟩
 rw [hzd]
 generalize e.win=w at *
 have a0:=atom_m (G:=G) wEntry (by decide)
 have a1:=atom_m (G:=G) wProp (by decide)
 have p1:=apair_m (G:=G) wSubject SV rfl (by decide)
 have p2:=apair_m (G:=G) wTagW TV rfl (by decide)
 have hlo:=list_o (G:=G) [atomT wEntry,pairT wSubject SV] (by simp) (by simp)
 have hpp:=list_m (G:=G) [atomT wProp] (by simp)
 rw [show treeC (.mk true false [] [] [atomT wProp])=treeC propT from rfl] at hpp
 have hA:treeC (atomT wEntry)=[.v (.bool false),.v (.bool false),bytesD [],bytesD wEntry,.sl 0 []]:=by
  unfold atomT
  rw [treeC_mk]
  rfl
 have hP:treeC (atomT wProp)=[.v (.bool false),.v (.bool false),bytesD [],bytesD wProp,.sl 0 []]:=by
  unfold atomT
  rw [treeC_mk]
  rfl
 have hl: ∀ l:List Tree,treeC (listT l)=[.v (.bool true),.v (.bool false),bytesD [],bytesD [],.sl l.length (l.flatMap treeC)]:=fun l=>treeC_mk _ _ _ _ _
 rw [hl]
 rw [show treeC (.mk false false [] wEntry [])=treeC (atomT wEntry) from rfl] at a0
 rw [show treeC (.mk false false [] wProp [])=treeC (atomT wProp) from rfl] at a1
 rw [hA] at a0
 rw [hP] at a1
 simp only [List.flatMap_cons,List.flatMap_nil,List.append_nil,hA,hP] at hlo hpp
 generalize pairT wSubject SV=P1 at *
 generalize pairT wTagW TV=P2 at *
 rw [treeC_eq SV] at h1 p1
 rw [treeC_eq TV] at h4 p2
 rw [treeC_eq WV] at h5
 rw [treeC_eq P1] at p1 hlo
 rw [treeC_eq P2] at p2
 rw [treeC_eq propT] at hpp
 clear hl hP
 by_cases hw:w=Wd.none
 ·rw [if_pos hw]
  cases zd
  all_goals
   simp only [if_true,Bool.false_eq_true,if_false,List.nil_append,List.cons_append,List.flatMap_cons,List.flatMap_nil,List.append_nil,hA,treeC_eq P1,treeC_eq P2,treeC_eq WV,treeC_eq propT,List.length_cons,List.length_nil]
   unfold wEntry wSubject wTagW wProp at *
   simp only [bD,bytesD,List.cons_append,List.nil_append,List.length_cons,List.length_nil] at *
   have hh:(true=true↔wdLit w=wdLit Wd.none):=win_key_eq (by rw [decide_eq_true hw])
   clear hw
   cases z1<;>cases z2
   all_goals
    refine spec_of Tryz.func53 rfl rfl rfl (by kernel_rfl) rfl fun K=>?_
    (repeat' (first|with_reducible (first|refine zA fun Kn hK=>?_|refine zU ?_|refine Nx.go ?_|go_step)|refine ⟨none,?_⟩|refine ⟨_,h1,?_⟩|refine ⟨_,h4,?_⟩|refine ⟨_,h5,?_⟩|refine ⟨_,a0,?_⟩|refine ⟨_,a1,?_⟩|refine ⟨_,p1,?_⟩|refine ⟨_,p2,?_⟩|refine ⟨_,hlo,?_⟩|refine ⟨_,hpp,?_⟩|(refine run_agg_neq (by kernel_rfl) k1 k2 hh ?_)|with_reducible (first|refine zI ?_|refine zV ?_)|simp (maxSteps:=9^9) (disch:=omega) only [wq]|with_reducible refine zM (fun hb=>?_) (fun hb=>?_)<;>try simp only [hb]|with_reducible refine And.intro (by first|omega|(simp;done)|(simp;omega)) ?_|simp (maxSteps:=9^9) -implicitDefEqProofs only [go_sem,rep1,hzd,hS3,hT2,hW2,decide_true,bne,Bool.not_true,Bool.not_false]))
    all_goals rfl
 ·rw [if_neg hw]
  cases zd
  all_goals
   simp only [if_true,Bool.false_eq_true,if_false,List.nil_append,List.cons_append,List.flatMap_cons,List.flatMap_nil,List.append_nil,hA,treeC_eq P1,treeC_eq P2,treeC_eq WV,treeC_eq propT,List.length_cons,List.length_nil]
   unfold wEntry wSubject wTagW wProp at *
   simp only [bD,bytesD,List.cons_append,List.nil_append,List.length_cons,List.length_nil] at *
   have hh:(false=true↔wdLit w=wdLit Wd.none):=win_key_eq (by rw [decide_eq_false hw])
   clear hw
   cases z1<;>cases z2
   all_goals
    refine spec_of Tryz.func53 rfl rfl rfl (by kernel_rfl) rfl fun K=>?_
    (repeat' (first|with_reducible (first|refine zA fun Kn hK=>?_|refine zU ?_|refine Nx.go ?_|go_step)|refine ⟨none,?_⟩|refine ⟨_,h1,?_⟩|refine ⟨_,h4,?_⟩|refine ⟨_,h5,?_⟩|refine ⟨_,a0,?_⟩|refine ⟨_,a1,?_⟩|refine ⟨_,p1,?_⟩|refine ⟨_,p2,?_⟩|refine ⟨_,hlo,?_⟩|refine ⟨_,hpp,?_⟩|(refine run_agg_neq (by kernel_rfl) k1 k2 hh ?_)|with_reducible (first|refine zI ?_|refine zV ?_)|simp (maxSteps:=9^9) (disch:=omega) only [wq]|with_reducible refine zM (fun hb=>?_) (fun hb=>?_)<;>try simp only [hb]|with_reducible refine And.intro (by first|omega|(simp;done)|(simp;omega)) ?_|simp (maxSteps:=9^9) -implicitDefEqProofs only [go_sem,rep1,hzd,hS3,hT2,hW2,decide_true,bne,Bool.not_true,Bool.not_false]))
    all_goals rfl
end
theorem enC_flen (l:List En):(l.flatMap enC).length=l.length*21:=flat_len enC_len l
structure AclFit (l:List En):Prop where
 all: ∀ e∈l,e.fit
 wt:((l.map enV).map Tree.wt).sum≤28000000
 len:l.length≤100000
section
variable {G:Nat→Option (List D)}
noncomputable def aputD (l:List En):DR:= .many [.g (treeC (if aclMay l=true then aclV l else zeroT)),.c (.v (.int .i64 (if aclMay l=true then 0 else 3)))]
theorem aput_m (hG:G 0=some powD) (l:List En) (hf:AclFit l):Spec Tryz.prog G 22 [.c (.sl l.length (l.flatMap enC))] (aputD l):=by
 have a0:=atom_m (G:=G) wAcl (by decide)
 have hlo:=list_o (G:=G) [atomT wAcl] (by simp) (by simp)
 have hA:treeC (atomT wAcl)=[.v (.bool false),.v (.bool false),bytesD [],bytesD wAcl,.sl 0 []]:=by
  unfold atomT
  rw [treeC_mk]
  rfl
 rw [show treeC (.mk false false [] wAcl [])=treeC (atomT wAcl) from rfl] at a0
 rw [List.flatMap_cons,List.flatMap_nil,List.append_nil] at hlo
 have hen:=fun (e:En) (he:e∈l)=>aentry_m (G:=G) hG e rfl (hf.all e he)
 have hsm:=fun (h:aclOk l=true)=>sxmay_m (G:=G) hG (aclV l) rfl (by
  have hw:=hf.wt
  rw [show l.map enV=l.map En.val from List.map_congr_left fun e he=>enV_ok ((aclOk_iff.1 h).2 e he)] at hw
  unfold aclV
  rw [wt_listT,List.map_cons,List.sum_cons,wt_atomT]
  have:wAcl.length=3:=rfl
  omega)
 have hlen:=hf.len
 have hno:aclOk l=false→aclMay l=false:=fun h=>by rw [aclMay,h];rfl
 have hyes:aclOk l=true→aclMay l=(aclV l).may:=fun h=>by rw [aclMay,h];rfl
 unfold aputD
 obtain ⟨RC,hRC⟩: ∃ RC,treeC (if aclMay l=true then aclV l else zeroT)=RC:=⟨_,rfl⟩
 obtain ⟨RE,hRE⟩: ∃ RE:Int,(if aclMay l=true then (0:Int) else 3)=RE:=⟨_,rfl⟩
 rw [hRC,hRE]
 have hz:=zeroT_C
 have hbad:aclOk l=false→RC=[.v (.bool false),.v (.bool false),.sl 0 [],.sl 0 [],.sl 0 []]∧RE=3:=fun h=>by
  rw [← hRC,← hRE,hno h,if_neg (by decide),if_neg (by decide),hz]
  exact ⟨rfl,rfl⟩
 rw [hA] at a0 hlo
 unfold wAcl at a0 hlo
 simp only [bD,bytesD] at a0 hlo
 refine spec_of Tryz.func22 rfl rfl rfl (by kernel_rfl) rfl fun K=>?_
 (repeat' (first|with_reducible (first|refine zA fun Kn hK=>?_|refine zU ?_|refine Nx.go ?_|go_step)|refine ⟨none,?_⟩|refine ⟨_,a0,?_⟩|refine ⟨_,hlo,?_⟩|with_reducible (first|refine zI ?_|refine zV ?_)|simp (maxSteps:=9^9) (disch:=omega) only [wq]|with_reducible refine zM (fun hb=>?_) (fun hb=>?_)<;>try simp only [hb]|with_reducible refine And.intro (by first|omega|(simp;done)|(simp;omega)) ?_|simp (maxSteps:=9^9) -implicitDefEqProofs only [go_sem,rep1,true_and]))
 refine sound_loopR (fun x:{k:Nat // k≤l.length∧k≤16∧ ∀ e∈l.take k,e.ok=true}=>⟨[(2,vP 2 0),(4,vP 4 0),(12,vD (.sl l.length (l.flatMap enC))),(13,vI l.length),(14,vI x.1)],[(2,some ⟨45,zeroOf Tryz.prog 45,true,false⟩),(4,some ⟨45,[.d (.v (.bool true)),.d (.v (.bool false)),.nil,.nil,.row 1000 5 0 (1+x.1) .grow],true,false⟩),(1000,some ⟨45,(treeC (atomT wAcl)++(l.take x.1).flatMap fun e=>treeC (enV e)).map C.d,false,false⟩)]⟩) (fun x=>l.length-x.1) ⟨0,by simp⟩ [(1000,11)] (by (iterate 2 ((try simp (maxSteps:=9^9) -implicitDefEqProofs only [go_sem,bD,bytesD,List.take_zero,List.flatMap_nil,List.map_nil,List.append_nil]);(try simp (maxSteps:=9^9) (disch:=omega) only [wq])));try simp;first|done|(rw [hA];rfl)|(refine ⟨?_,?_⟩<;>first|(rw [hA];rfl)|simp)) (fun ⟨k,hk,hk16,hall⟩=>?_)
 by_cases hlt:k<l.length
 ·obtain ⟨x,hx⟩: ∃ x,l[k]?=some x:=⟨_,List.getElem?_eq_getElem hlt⟩
  have hb:decide ((k:Int)<(l.length:Int))=true:=by simpa using hlt
  have hm:=List.mem_of_getElem? hx
  have hxv:=hen x hm
  have hfl:=flat_at enC_len hx
  obtain ⟨s0,s1,s2,s3,s4,s5,t0,t1,t2,t3,t4,t5,t6,t7,t8,t9,_,_,hct⟩:=en_lit x
  rw [hct] at hxv hfl
  have ht:treeC (atomT wAcl)++(l.take (k+1)).flatMap (fun e=>treeC (enV e))=treeC (atomT wAcl)++(l.take k).flatMap (fun e=>treeC (enV e))++treeC (enV x):=by
   rw [List.take_add_one,hx,List.flatMap_append,List.append_assoc]
   simp
  have hlenW:(treeC (atomT wAcl)++(l.take k).flatMap fun e=>treeC (enV e)).length=(1+k)*5:=by
   rw [List.length_append,treeC_len,show ((l.take k).flatMap fun e=>treeC (enV e))=((l.take k).map enV).flatMap treeC from by rw [List.flatMap_map],treeC_flen,List.length_map,List.length_take,Nat.min_eq_left hk]
   omega
  have d16:decide (((1+k:Nat):Int)>16)= !decide (k<16):=by
   rw [← decide_not,decide_eq_decide]
   omega
  clear hsm hno hyes hRC hRE hen
  cases hok:x.ok with
  | false =>
   have hbad:=hbad (by
    cases hq:aclOk l with
    | false=>rfl
    | true=>rw [(aclOk_iff.1 hq).2 x hm] at hok;cases hok)
   rw [hok] at hxv
   generalize enV x=V at *
   rw [treeC_eq V] at hxv
   generalize treeC (atomT wAcl)++(l.take k).flatMap (fun e=>treeC (enV e))=W at *
   simp only [bD,bytesD] at hxv
   (repeat' (first|with_reducible (first|refine zA fun Kn hK=>?_|refine zU ?_|refine Nx.go ?_|go_step)|refine ⟨_,hxv,?_⟩|with_reducible (first|refine zI ?_|refine zV ?_)|simp (maxSteps:=9^9) (disch:=omega) only [wq]|with_reducible refine zM (fun hb=>?_) (fun hb=>?_)<;>try simp only [hb]|with_reducible refine And.intro (by first|omega|(simp;done)|(simp;omega)) ?_|simp (maxSteps:=9^9) -implicitDefEqProofs only [go_sem,hb,hfl,enC_flen,d16,decide_true,bne,Bool.not_true,Bool.not_false]))
   all_goals (rw [hbad.1,hbad.2];try rfl)
  | true =>
   rw [hok] at hxv
   by_cases h16:k<16
   ·rw [decide_eq_true h16] at d16
    have hnew:=tk_none (f:=fun e:En=>e.ok) hx hok hall
    generalize enV x=V at *
    rw [treeC_eq V] at hxv ht
    generalize treeC (atomT wAcl)++(l.take k).flatMap (fun e=>treeC (enV e))=W at *
    simp only [bD,bytesD] at hxv ht
    clear hbad
    (repeat' (first|with_reducible (first|refine zA fun Kn hK=>?_|refine zU ?_|refine Nx.go ?_|go_step)|refine ⟨_,hxv,?_⟩|(refine ⟨[(1000,36)],⟨k+1,hlt,h16,hnew⟩,?_⟩;rw [ht])|with_reducible (first|refine zI ?_|refine zV ?_)|simp (maxSteps:=9^9) (disch:=omega) only [wq]|with_reducible refine zM (fun hb=>?_) (fun hb=>?_)<;>try simp only [hb]|with_reducible refine And.intro (by first|omega|(simp;done)|(simp;omega)) ?_|simp (maxSteps:=9^9) -implicitDefEqProofs only [go_sem,hb,hfl,enC_flen,d16,rep1,hlenW,List.length_map,true_and,Nat.le_refl,List.append_nil,decide_true,bne,Bool.not_true,Bool.not_false]))
    all_goals first|omega|(simp only [ijq,true_and,and_true];first|done|omega|(split<;>omega)|(simp;done)|(simp;omega))
   ·rw [decide_eq_false h16] at d16
    have hbad:=hbad (by
     cases hq:aclOk l with
     | false=>rfl
     | true=>have:=(aclOk_iff.1 hq).1;omega)
    generalize enV x=V at *
    rw [treeC_eq V] at hxv
    generalize treeC (atomT wAcl)++(l.take k).flatMap (fun e=>treeC (enV e))=W at *
    simp only [bD,bytesD] at hxv
    (repeat' (first|with_reducible (first|refine zA fun Kn hK=>?_|refine zU ?_|refine Nx.go ?_|go_step)|refine ⟨_,hxv,?_⟩|with_reducible (first|refine zI ?_|refine zV ?_)|simp (maxSteps:=9^9) (disch:=omega) only [wq]|with_reducible refine zM (fun hb=>?_) (fun hb=>?_)<;>try simp only [hb]|with_reducible refine And.intro (by first|omega|(simp;done)|(simp;omega)) ?_|simp (maxSteps:=9^9) -implicitDefEqProofs only [go_sem,hb,hfl,enC_flen,d16,decide_true,bne,Bool.not_true,Bool.not_false]))
    all_goals (rw [hbad.1,hbad.2];try rfl)
 ·have hb:decide ((k:Int)<(l.length:Int))=false:=by simpa using hlt
  obtain rfl:k=l.length:=by omega
  simp only [List.take_length] at hall ⊢
  have hok:aclOk l=true:=aclOk_iff.2 ⟨hk16,hall⟩
  have hsm:=hsm hok
  have hy:=hyes hok
  have hcell:treeC (aclV l)=[.v (.bool true),.v (.bool false),.sl 0 [],.sl 0 [],.sl (1+l.length) (treeC (atomT wAcl)++l.flatMap fun e=>treeC (enV e))]:=by
   unfold aclV
   rw [show listT (atomT wAcl::l.map En.val)= .mk true false [] [] (atomT wAcl::l.map En.val) from rfl,treeC_mk,List.flatMap_cons,List.flatMap_map,List.length_cons,List.length_map,Nat.add_comm l.length 1]
   rw [show (l.flatMap fun e=>treeC (enV e))=l.flatMap fun e=>treeC e.val from by
    rw [← List.flatMap_map enV treeC,← List.flatMap_map En.val treeC]
    rw [show l.map enV=l.map En.val from List.map_congr_left fun e he=>enV_ok (hall e he)]]
   rfl
  have hlenW:(treeC (atomT wAcl)++l.flatMap fun e=>treeC (enV e)).length=(1+l.length)*5:=by
   rw [List.length_append,treeC_len,show (l.flatMap fun e=>treeC (enV e))=(l.map enV).flatMap treeC from by rw [List.flatMap_map],treeC_flen,List.length_map]
   omega
  rw [hcell] at hsm
  generalize treeC (atomT wAcl)++l.flatMap (fun e=>treeC (enV e))=W at *
  rw [hy] at hRC hRE
  clear hen hbad hno hyes hok hy
  cases hmv:(aclV l).may with
  | false =>
   rw [hmv] at hsm hRC hRE
   rw [if_neg (by decide),hz] at hRC
   rw [if_neg (by decide)] at hRE
   (repeat' (first|with_reducible (first|refine zA fun Kn hK=>?_|refine zU ?_|refine Nx.go ?_|go_step)|refine ⟨none,?_⟩|refine ⟨_,hsm,?_⟩|with_reducible (first|refine zI ?_|refine zV ?_)|simp (maxSteps:=9^9) (disch:=omega) only [wq]|with_reducible refine zM (fun hb=>?_) (fun hb=>?_)<;>try simp only [hb]|with_reducible refine And.intro (by first|omega|(simp;done)|(simp;omega)) ?_|simp (maxSteps:=9^9) -implicitDefEqProofs only [go_sem,hb,hlenW,List.length_map,decide_true,bne,Bool.not_true,Bool.not_false]))
   all_goals (rw [← hRC,← hRE];try rfl)
  | true =>
   rw [hmv] at hsm hRC hRE
   rw [if_pos rfl,hcell] at hRC
   rw [if_pos rfl] at hRE
   (repeat' (first|with_reducible (first|refine zA fun Kn hK=>?_|refine zU ?_|refine Nx.go ?_|go_step)|refine ⟨none,?_⟩|refine ⟨_,hsm,?_⟩|with_reducible (first|refine zI ?_|refine zV ?_)|simp (maxSteps:=9^9) (disch:=omega) only [wq]|with_reducible refine zM (fun hb=>?_) (fun hb=>?_)<;>try simp only [hb]|with_reducible refine And.intro (by first|omega|(simp;done)|(simp;omega)) ?_|simp (maxSteps:=9^9) -implicitDefEqProofs only [go_sem,hb,hlenW,List.length_map,decide_true,bne,Bool.not_true,Bool.not_false]))
   all_goals (rw [← hRC,← hRE];try rfl)
end
end Go.Proofs.YtfammdfpgccnfaaGreatDoor
