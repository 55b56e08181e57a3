/- Parts of the proof, laid together. -/
import Derived.Test.YtfammdfpgccnfaaGreatDoorG7
set_option linter.unusedVariables false
set_option linter.unusedSimpArgs false
set_option maxRecDepth 100000
set_option maxHeartbeats 8000000
namespace Go.Proofs.YtfammdfpgccnfaaGreatDoor
open Go.RowKit
def datC:C→C
 | .nil=> .d (.sl 0 [])
 | c=>c
theorem datC_nil:datC .nil= .d (.sl 0 []):=rfl
theorem datC_d (x:D):datC (.d x)= .d x:=rfl
theorem rc_dat {w:World} {S:Nat→Prop} {m:NM} {dom:Nat→Prop} {c:C} {u:Value} (h:RC w S m dom c u):RC w S m dom (datC c) u:=by
 cases c with
 | nil =>
  have hu:u= .slice none 0 0:=h
  subst hu
  exact (show RD w S (.sl 0 []) (.slice none 0 0) from .nil none 0 (by decide))
 | _=>exact h
theorem sound_dataO {P:Program} {G:Nat→Option (List D)} {K:Ctx G} {F:Fr} {Q:Exit→FSt→Prop} {s:FSt} {c:Code} (r:Nat) {o:AObj} (h1:s.ob r=some (some o)) (hne:0<o.cs.length) (hfr:o.fr=false)
  (h:Sound P K F c Q ⟨s.sl,upd s.ob r (some (some { o with cs:=o.cs.map datC }))⟩):Sound P K F c Q s:=fun m a w hr=>by
 refine h m a w ?_
 have hvd:m.vd r=false:=by
  rcases (hr.heap.obj r o h1).row with ⟨_,hcs,_⟩|⟨hv,_⟩
  ·rw [hcs] at hne
   cases hne
  ·exact hv
 have t:Turn K m m s.ob (upd s.ob r (some (some { o with cs:=o.cs.map datC }))) w w (fun x=>x=r):=by
  refine ⟨fun r' hr'=>upd_ne hr',fun r' hr'=>?_,fun _ _=>rfl,fun _ _=>rfl,fun _ _=>rfl,Ev.refl _ _,fun r' hr' ⟨o',h1',h2⟩ hv'=> .inl ⟨r,rfl,⟨o,h1,hfr⟩,hvd,by rw [hr']⟩,fun r1 r2 hr hr' _ _ _ _ _=>hr.trans hr'.symm⟩
  show upd s.ob r _ r'≠none
  unfold upd
  split
  ·simp
  ·exact hr'
 have k:=t.keep hr.heap
 have hh:HRel K m (upd s.ob r (some (some { o with cs:=o.cs.map datC }))) w:=t.rel hr.heap (fun r' o' hr' ho'=>by
   subst hr'
   rw [upd_same] at ho'
   injection ho' with ho'
   injection ho' with ho'
   subst ho'
   rcases (hr.heap.obj r' o h1).row with ⟨hv,_⟩|⟨hv,arr,g1,g2,g3,g4,g5⟩
   ·rw [hvd] at hv
    cases hv
   ·refine ⟨.inr ⟨hv,arr,g1,g2,fun he=>by simpa using g3 he,by simpa using g4,fun j x hx=>?_⟩⟩
    have hx:(o.cs.map datC)[j]?=some x:=hx
    rw [List.getElem?_map,Option.map_eq_some_iff] at hx
    obtain ⟨y,hy,rfl⟩:=hx
    obtain ⟨u,hu,hrc⟩:=g5 j y hy
    exact ⟨u,hu,rc_dat (k.rc hrc)⟩) (fun r' o' hr' ho' hf _=>by
   subst hr'
   rw [upd_same] at ho'
   injection ho' with ho'
   injection ho' with ho'
   subst ho'
   rw [show o.fr=true from hf] at hfr
   cases hfr)
 exact hr.turn (dst:=none) (v:= .bot) (u:=undef) t hh (fun d hd=>by cases hd) trivial
theorem getSb_fit {v:Tree} {s:Sb} (h:getSb v=some s):s.fit:=by
 have h1:=((getS_eq v).1 s h).1
 have hm:v.may=true:=by
  unfold getSb at h
  split at h
  ·assumption
  ·cases h
 rw [← h1]
 exact readS_fit v 1 (may_sm hm)
theorem noneSb_fit:Sb.none.fit:=by
 rw [Sb.fit_eq]
 exact ⟨⟨Nat.zero_le _,Nat.zero_le _,Nat.zero_le _,fun n hn=>by cases hn⟩,fun x hx=>by cases hx⟩
theorem getTg_sz {v:Tree} {t:Tg} (h:getTg v=some t):t.wt≤v.wt∧t.nodes≤512:=by
 obtain ⟨a,b⟩:=getTg_of h
 have hm:v.may=true:=by
  unfold getTg at h
  split at h
  ·assumption
  ·cases h
 rw [tMay,Bool.and_eq_true] at a
 have h1:=wt_val t a.1
 have h2:=val_nodes t a.1
 rw [b] at h1 h2
 have h3:=(may_sm hm).2.1
 exact ⟨h1,by omega⟩
theorem zeroTg_sz:zeroTg.wt=1∧zeroTg.nodes=1:=by
 unfold zeroTg
 rw [Tg.wt_eq,Tg.nodes_eq]
 exact ⟨rfl,rfl⟩
section
variable {G:Nat→Option (List D)}
end
section
variable {G:Nat→Option (List D)}
end
section
variable {G:Nat→Option (List D)}
end
section
variable {G:Nat→Option (List D)}
end
@[go_sem] def sbK (s:Sb):List C:=[.d (bD s.kind),.d (.v (.bool s.ks)),.d (bytesD s.kd),.d (.sl s.names.length (s.names.map bytesD)),.d (.v (.int .i64 s.k)),.d (.sl s.kids.length (s.kids.flatMap sbC))]
theorem tk_none {α:Type} {f:α→Bool} {l:List α} {x:α} {k:Nat} (hx:l[k]?=some x) (hq:f x=true) (hall: ∀ y∈l.take k,f y=true): ∀ y∈l.take (k+1),f y=true:=by
 intro y hy
 rw [List.take_add_one,hx] at hy
 rcases List.mem_append.1 hy with hy|hy
 ·exact hall y hy
 ·simp at hy
  rw [hy]
  exact hq
section
variable {G:Nat→Option (List D)}
end
section
variable {G:Nat→Option (List D)}
end
section
variable {G:Nat→Option (List D)}
end
section
variable {G:Nat→Option (List D)}
end
section
variable {G:Nat→Option (List D)}
end
def Sb.great (s:Sb) (k:Nat):Bool:=decide (6<k)||(decide (12<s.kids.length)||(decide (12<s.names.length)||(decide (200<s.kd.length)||((s.names.any fun n=>decide (5000<n.length))||s.kids.attach.any fun x=>Sb.great x.1 (k+1)))))
termination_by SizeOf.sizeOf s
decreasing_by exact Sb.kid_lt x.2
theorem Sb.great_eq (s:Sb) (k:Nat):s.great k=(decide (6<k)||(decide (12<s.kids.length)||(decide (12<s.names.length)||(decide (200<s.kd.length)||((s.names.any fun n=>decide (5000<n.length))||s.kids.any fun x=>Sb.great x (k+1)))))):=by
 rw [Sb.great]
 simp
theorem Sb.fit_of: ∀ (s:Sb) (k:Nat),s.great k=false→s.fit:=by
 refine Sb.ind fun s ih k h=>?_
 rw [Sb.great_eq] at h
 simp only [Bool.or_eq_false_iff,decide_eq_false_iff_not,List.any_eq_false,decide_eq_true_eq,Bool.not_eq_true] at h
 obtain ⟨_,h2,h3,h4,h5,h6⟩:=h
 rw [Sb.fit_eq]
 exact ⟨⟨by omega,by omega,by omega,fun n hn=>by have:=h5 n hn;omega⟩,fun x hx=>ih x hx (k+1) (h6 x hx)⟩
section
variable {G:Nat→Option (List D)}
theorem rsgreat_m: ∀ s:Sb,∀ (cs:List D) (k:Nat),sbC s=cs→k≤7→Spec Tryz.prog G 35 [.g cs,.c (.v (.int .i64 (k:Int)))] (.one (.c (.v (.bool (s.great k))))):=Sb.ind fun s ih cs k hcs hk=>by
 subst hcs
 have hv:=s.great_eq k
 have d0:decide ((k:Int)>6)=decide (6<k):=by rw [decide_eq_decide];omega
 have d1:decide ((s.kids.length:Int)>12)=decide (12<s.kids.length):=by rw [decide_eq_decide];omega
 have d2:decide ((s.names.length:Int)>12)=decide (12<s.names.length):=by rw [decide_eq_decide];omega
 have d3:decide ((s.kd.length:Int)>200)=decide (200<s.kd.length):=by rw [decide_eq_decide];omega
 rw [sbC_eq]
 obtain ⟨R,hR⟩: ∃ R,s.great k=R:=⟨_,rfl⟩
 rw [hR] at hv ⊢
 clear hR
 generalize hy0:decide (6<k)=y0 at *
 generalize hy1:decide (12<s.kids.length)=y1 at *
 generalize hy2:decide (12<s.names.length)=y2 at *
 generalize decide (200<s.kd.length)=y3 at *
 have five:y0=true∨(y0=false∧y1=true)∨(y0=false∧y1=false∧y2=true)∨(y0=false∧y1=false∧y2=false∧y3=true)∨(y0=false∧y1=false∧y2=false∧y3=false):=by cases y0<;>cases y1<;>cases y2<;>cases y3<;>simp
 have four:(y0||(y1||(y2||y3)))=true∨(y0=false∧y1=false∧y2=false∧y3=false):=by cases y0<;>cases y1<;>cases y2<;>cases y3<;>simp
 rcases four with hbad|⟨rfl,rfl,rfl,rfl⟩
 ·have hR:R=true:=by
   rw [hv]
   clear five hv d0 d1 d2 d3 hy0 hy1 hy2
   revert hbad
   cases y0<;>cases y1<;>cases y2<;>cases y3<;>simp
  subst hR
  clear hv ih hy0 hy1 hy2
  simp only [bD,bytesD] at *
  rcases five with rfl|⟨rfl,rfl⟩|⟨rfl,rfl,rfl⟩|⟨rfl,rfl,rfl,rfl⟩|⟨rfl,rfl,rfl,rfl⟩
  case inr.inr.inr.inr=>exact absurd hbad (by decide)
  all_goals
   refine spec_of Tryz.func35 rfl rfl rfl (by kernel_rfl) rfl fun K=>?_
   (repeat' (first|with_reducible (first|refine zA fun Kn hK=>?_|refine zU ?_|refine Nx.go ?_|go_step)|with_reducible (first|refine zI ?_|refine zV ?_)|simp (maxSteps:=9^9) (disch:=omega) only [wq]|with_reducible refine zM (fun hb=>?_) (fun hb=>?_)<;>try simp only [hb]|with_reducible refine And.intro (by first|omega|(simp;done)|(simp;omega)) ?_|simp (maxSteps:=9^9) -implicitDefEqProofs only [go_sem,d0,d1,d2,d3,decide_true]))
 ·clear five
  simp only [Bool.false_or] at hv
  have k6: ¬ 6<k:=of_decide_eq_false hy0
  have k12: ¬ 12<s.kids.length:=of_decide_eq_false hy1
  have n12: ¬ 12<s.names.length:=of_decide_eq_false hy2
  clear hy0 hy1 hy2
  simp only [bD,bytesD] at *
  refine spec_of Tryz.func35 rfl rfl rfl (by kernel_rfl) rfl fun K=>?_
  (repeat' (first|with_reducible (first|refine zA fun Kn hK=>?_|refine zU ?_|refine Nx.go ?_|go_step)|with_reducible (first|refine zI ?_|refine zV ?_)|simp (maxSteps:=9^9) (disch:=omega) only [wq]|with_reducible refine zM (fun hb=>?_) (fun hb=>?_)<;>try simp only [hb]|with_reducible refine And.intro (by first|omega|(simp;done)|(simp;omega)) ?_|simp (maxSteps:=9^9) -implicitDefEqProofs only [go_sem,d0,d1,d2,d3,decide_true]))
  refine sound_loopR (fun x:{j:Nat // j≤s.names.length∧ ∀ y∈s.names.take j,(!decide (5000<y.length))=true}=>⟨[(1,vI k),(2,vP 2 0),(30,vI s.names.length),(31,vI x.1)],[(2,some ⟨28,sbK s,true,false⟩)]⟩) (fun x=>s.names.length-x.1) ⟨0,by simp⟩ [] (by (iterate 2 ((try simp (maxSteps:=9^9) -implicitDefEqProofs only [go_sem,bD,bytesD]);(try simp (maxSteps:=9^9) (disch:=omega) only [wq])));try simp) (fun ⟨j,hj,hall⟩=>?_)
  by_cases hlt:j<s.names.length
  ·obtain ⟨x,hx⟩: ∃ x,s.names[j]?=some x:=⟨_,List.getElem?_eq_getElem hlt⟩
   have hb:decide ((j:Int)<(s.names.length:Int))=true:=by simpa using hlt
   have hr:=row_at hx
   have hlx:decide ((x.length:Int)>5000)=decide (5000<x.length):=by rw [decide_eq_decide];omega
   simp only [bytesD] at hr
   cases hq:decide (5000<x.length) with
   | true =>
    have hyes:(s.names.any fun n=>decide (5000<n.length))=true:=List.any_eq_true.2 ⟨x,List.mem_of_getElem? hx,hq⟩
    rw [hq] at hlx
    rw [hyes,Bool.true_or] at hv
    (repeat' (first|with_reducible (first|refine zA fun Kn hK=>?_|refine zU ?_|refine Nx.go ?_|go_step)|with_reducible (first|refine zI ?_|refine zV ?_)|simp (maxSteps:=9^9) (disch:=omega) only [wq]|with_reducible refine zM (fun hb=>?_) (fun hb=>?_)<;>try simp only [hb]|with_reducible refine And.intro (by first|omega|(simp;done)|(simp;omega)) ?_|simp (maxSteps:=9^9) -implicitDefEqProofs only [go_sem,hb,hr,hlx,List.length_map,bD,bytesD]))
    all_goals rw [hv]
   | false =>
    rw [hq] at hlx
    (repeat' (first|with_reducible (first|refine zA fun Kn hK=>?_|refine zU ?_|refine Nx.go ?_|go_step)|(refine ⟨[],⟨j+1,hlt,tk_none hx (by rw [hq];rfl) hall⟩,?_⟩)|with_reducible (first|refine zI ?_|refine zV ?_)|simp (maxSteps:=9^9) (disch:=omega) only [wq]|with_reducible refine zM (fun hb=>?_) (fun hb=>?_)<;>try simp only [hb]|with_reducible refine And.intro (by first|omega|(simp;done)|(simp;omega)) ?_|simp (maxSteps:=9^9) -implicitDefEqProofs only [go_sem,hb,hr,hlx,List.length_map,bD,bytesD]))
    all_goals omega
  ·have hb:decide ((j:Int)<(s.names.length:Int))=false:=by simpa using hlt
   obtain rfl:j=s.names.length:=by omega
   rw [List.take_length] at hall
   have hno:(s.names.any fun n=>decide (5000<n.length))=false:=by
    rw [List.any_eq_false]
    intro n hn
    have:=hall n hn
    simpa using this
   rw [hno,Bool.false_or] at hv
   (repeat' (first|with_reducible (first|refine zA fun Kn hK=>?_|refine zU ?_|refine Nx.go ?_|go_step)|with_reducible (first|refine zI ?_|refine zV ?_)|simp (maxSteps:=9^9) (disch:=omega) only [wq]|with_reducible refine zM (fun hb=>?_) (fun hb=>?_)<;>try simp only [hb]|with_reducible refine And.intro (by first|omega|(simp;done)|(simp;omega)) ?_|simp (maxSteps:=9^9) -implicitDefEqProofs only [go_sem,hb,bD,bytesD]))
   refine sound_loopR (fun x:{j:Nat // j≤s.kids.length∧ ∀ y∈s.kids.take j,(!y.great (k+1))=true}=>⟨[(1,vI k),(2,vP 2 0),(44,vI s.kids.length),(45,vI x.1)],[(2,some ⟨28,sbK s,true,false⟩)]⟩) (fun x=>s.kids.length-x.1) ⟨0,by simp⟩ [] (by (iterate 2 ((try simp (maxSteps:=9^9) -implicitDefEqProofs only [go_sem,bD,bytesD]);(try simp (maxSteps:=9^9) (disch:=omega) only [wq])));try simp) (fun ⟨j,hj,hall⟩=>?_)
   by_cases hlt:j<s.kids.length
   ·obtain ⟨x,hx⟩: ∃ x,s.kids[j]?=some x:=⟨_,List.getElem?_eq_getElem hlt⟩
    have hb:decide ((j:Int)<(s.kids.length:Int))=true:=by simpa using hlt
    have hm:=List.mem_of_getElem? hx
    have hxv:=ih x hm _ (k+1) rfl (by omega)
    have hf:=flat_at sbC_len hx
    rw [sbC_eq x] at hxv hf
    rw [show ((k+1:Nat):Int)=(k:Int)+1 from by omega] at hxv
    simp only [bD,bytesD] at hxv hf
    cases hq:x.great (k+1) with
    | true =>
     have hyes:(s.kids.any fun x=>x.great (k+1))=true:=List.any_eq_true.2 ⟨x,hm,hq⟩
     rw [hq] at hxv
     rw [hyes] at hv
     clear ih
     (repeat' (first|with_reducible (first|refine zA fun Kn hK=>?_|refine zU ?_|refine Nx.go ?_|go_step)|refine ⟨_,hxv,?_⟩|with_reducible (first|refine zI ?_|refine zV ?_)|simp (maxSteps:=9^9) (disch:=omega) only [wq]|with_reducible refine zM (fun hb=>?_) (fun hb=>?_)<;>try simp only [hb]|with_reducible refine And.intro (by first|omega|(simp;done)|(simp;omega)) ?_|simp (maxSteps:=9^9) -implicitDefEqProofs only [go_sem,hb,hf,bD,bytesD]))
     all_goals rw [hv]
    | false =>
     rw [hq] at hxv
     clear ih
     (repeat' (first|with_reducible (first|refine zA fun Kn hK=>?_|refine zU ?_|refine Nx.go ?_|go_step)|refine ⟨_,hxv,?_⟩|(refine ⟨[],⟨j+1,hlt,tk_none (f:=fun x=> !x.great (k+1)) hx (by rw [hq];rfl) hall⟩,?_⟩)|with_reducible (first|refine zI ?_|refine zV ?_)|simp (maxSteps:=9^9) (disch:=omega) only [wq]|with_reducible refine zM (fun hb=>?_) (fun hb=>?_)<;>try simp only [hb]|with_reducible refine And.intro (by first|omega|(simp;done)|(simp;omega)) ?_|simp (maxSteps:=9^9) -implicitDefEqProofs only [go_sem,hb,hf,bD,bytesD]))
     all_goals omega
   ·have hb:decide ((j:Int)<(s.kids.length:Int))=false:=by simpa using hlt
    obtain rfl:j=s.kids.length:=by omega
    rw [List.take_length] at hall
    have hno:(s.kids.any fun x=>x.great (k+1))=false:=by
     rw [List.any_eq_false]
     intro n hn
     have:=hall n hn
     simpa using this
    rw [hno] at hv
    (repeat' (first|with_reducible (first|refine zA fun Kn hK=>?_|refine zU ?_|refine Nx.go ?_|go_step)|with_reducible (first|refine zI ?_|refine zV ?_)|simp (maxSteps:=9^9) (disch:=omega) only [wq]|with_reducible refine zM (fun hb=>?_) (fun hb=>?_)<;>try simp only [hb]|with_reducible refine And.intro (by first|omega|(simp;done)|(simp;omega)) ?_|simp (maxSteps:=9^9) -implicitDefEqProofs only [go_sem,hb,bD,bytesD]))
    all_goals rw [hv]
end
section
variable {G:Nat→Option (List D)}
end
section
variable {G:Nat→Option (List D)}
end
section
variable {G:Nat→Option (List D)}
end
section
variable {G:Nat→Option (List D)}
end
section
variable {G:Nat→Option (List D)}
end
theorem wt_form: ∀ t:Tree,t.clean=true→t.wt≤t.form.length:=by
 refine Tree.ind fun t ih h=>?_
 rw [Tree.clean_eq,Bool.and_eq_true,List.all_eq_true] at h
 rw [Tree.wt_eq,Tree.form_eq]
 split
 ·rename_i hl
  have: ∀ l:List Tree,(∀ x∈l,x.wt≤x.form.length)→(l.map Tree.wt).sum≤(l.map Tree.form).flatten.length:=by
   intro l
   induction l with
   | nil=>simp
   | cons x l ih =>
    intro h
    have h0:=h x (by simp)
    have:=ih fun y hy=>h y (by simp [hy])
    simp only [List.map_cons,List.sum_cons,List.flatten_cons,List.length_append]
    omega
  have:=this t.kids fun x hx=>ih x hx (h.2 x hx)
  have hf:=h.1
  unfold Tree.fair at hf
  rw [if_pos hl] at hf
  simp only [Bool.and_eq_true,beq_iff_eq] at hf
  simp only [List.length_append,List.length_singleton]
  omega
 ·rename_i hl
  have hf:=h.1
  unfold Tree.fair at hf
  rw [if_neg hl] at hf
  simp only [Bool.and_eq_true,beq_iff_eq,Bool.or_eq_true] at hf
  have hk:t.kids=[]:=List.length_eq_zero_iff.1 hf.1
  have hp:=dec_pos t.data.length
  rw [hk]
  unfold Tree.atomF textB
  rcases hf.2 with h2|h2
  ·rw [if_pos h2]
   simp only [List.map_nil,List.sum_nil,List.length_append,List.length_singleton]
   omega
  ·simp only [List.map_nil,List.sum_nil,List.length_append,List.length_singleton]
   omega
theorem may_wt {t:Tree} (h:t.may=true):t.wt≤4096:=by
 simp only [Tree.may,Bool.and_eq_true,decide_eq_true_eq] at h
 have:=wt_form t h.1.1.1
 omega
section
variable {G:Nat→Option (List D)}
end
def Wd.big (w:Wd):Nat:=if (-9223372036854775808≤w.frm∧w.frm≤9223372036854775807)∧(-9223372036854775808≤w.to∧w.to≤9223372036854775807) then 0 else 10000000
theorem big_64 {w:Wd} (h:w.big≤2000000):w.in64:=by
 unfold Wd.big at h
 split at h
 ·assumption
 ·omega
section
variable {G:Nat→Option (List D)}
end
section
variable {G:Nat→Option (List D)}
theorem list_o (l:List Tree) (h0:0<l.length) (hl:l.length≤100000000):Spec Tryz.prog G 51 [.c (.sl l.length (l.flatMap treeC))] (.obj 4 (.a (.agg [.d (.v (.bool true)),.d (.v (.bool false)),.nil,.nil,.row 4 5 0 l.length .grow])) ⟨45,(l.flatMap treeC).map C.d,false,false⟩):=by
 have h:=sclone_o (G:=G) l hl
 refine specO_go Tryz.func51 rfl rfl rfl (by kernel_rfl) (by (iterate 2 ((try simp (maxSteps:=9^9) -implicitDefEqProofs only [go_sem,true_and]);(try simp (maxSteps:=9^9) (disch:=omega) only [wq])))) (by (iterate 2 ((try simp (maxSteps:=9^9) -implicitDefEqProofs only [go_sem,List.all_cons,List.all_nil]);(try simp (maxSteps:=9^9) (disch:=omega) only [wq])))) fun K m=>?_
 (repeat' (first|with_reducible (first|refine zA fun Kn hK=>?_|refine zU ?_|refine Nx.go ?_|go_step)|refine ⟨_,h,?_⟩|refine raw_t (by rfl) (by rfl) (by rfl)|with_reducible (first|refine zI ?_|refine zK ?_ ?_|refine zL ?_ ?_|refine zV ?_)|simp (maxSteps:=9^9) (disch:=omega) only [wq]|with_reducible refine zM (fun hb=>?_) (fun hb=>?_)<;>try simp only [hb]|with_reducible refine And.intro (by first|omega|(simp;done)|(simp;omega)) ?_|simp (maxSteps:=9^9) -implicitDefEqProofs only [go_sem,true_and]))
end
structure En.fit (c:En):Prop where
 sub:c.sub.fit
 wt:c.tag.wt≤2000000
 nodes:c.tag.nodes≤1000
 win:c.win.in64
noncomputable def enV (e:En):Tree:=listT (atomT wEntry::pairT wSubject (if e.sub.may=true then e.sub.val else zeroT)::((if e.dlg=true then [propT] else [])++(pairT wTagW (if tMay e.tag=true then e.tag.val else zeroT)::winO e.win)))
theorem enV_ok {e:En} (h:e.ok=true):enV e=e.val:=by
 obtain ⟨h1,h2,h3⟩:=okE h
 unfold enV En.val tailV winO winL
 rw [if_pos h1,if_pos h2,if_pos h3]
theorem en_lit (e:En): ∃ s0 s1 s2 s3 s4 s5 t0 t1 t2 t3 t4 t5 t6 t7 t8 t9:D,sbC e.sub=[s0,s1,s2,s3,s4,s5]∧tagC e.tag=[t0,t1,t2,t3,t4,t5,t6,t7,t8,t9]∧enC e=[s0,s1,s2,s3,s4,s5,.v (.bool e.dlg),t0,t1,t2,t3,t4,t5,t6,t7,t8,t9,.v (.bool e.win.aft),.v (.int .i64 e.win.frm),.v (.bool e.win.unt),.v (.int .i64 e.win.to)]:=by
 obtain ⟨s1,s2,s3,s4,s5,hs⟩:=sb_cells e.sub
 obtain ⟨t0,t1,t2,t3,t4,t5,t6,t7,t8,t9,ht⟩:=tag_cells e.tag
 refine ⟨_,_,_,_,_,_,_,_,_,_,_,_,_,_,_,_,hs,ht,?_⟩
 unfold enC wdC
 rw [hs,ht]
 rfl
section
variable {G:Nat→Option (List D)}
theorem apair_m (w:List UInt8) (v:Tree) {cs:List D} (hcs:treeC v=cs) (hw:w.length≤1000):Spec Tryz.prog G 96 [.c (.v (.string ⟨w.toArray⟩)),.g cs] (.one (.g (treeC (pairT w v)))):=by
 subst hcs
 have a0:=atom_m (G:=G) w (by omega)
 have hl:=list_m (G:=G) [atomT w,v] (by simp)
 rw [show treeC (pairT w v)=treeC (.mk true false [] [] [atomT w,v]) from rfl]
 have hL:=treeC_eq (.mk true false [] [] [atomT w,v])
 generalize treeC (.mk true false [] [] [atomT w,v])=O at *
 rw [hL] at hl
 rw [List.flatMap_cons,List.flatMap_cons,List.flatMap_nil,List.append_nil] at hl
 unfold atomT at hl
 rw [treeC_mk] at a0
 rw [treeC_mk] at hl
 rw [treeC_eq v] at hl ⊢
 simp only [List.cons_append,List.nil_append] at hl
 simp only [bD,bytesD] at *
 refine spec_of Tryz.func96 rfl rfl rfl (by kernel_rfl) rfl fun K=>?_
 (repeat' (first|with_reducible (first|refine zA fun Kn hK=>?_|refine zU ?_|refine Nx.go ?_|go_step)|refine ⟨none,?_⟩|refine ⟨_,a0,?_⟩|refine ⟨_,hl,?_⟩|with_reducible (first|refine zI ?_|refine zV ?_)|simp (maxSteps:=9^9) (disch:=omega) only [wq]|with_reducible refine zM (fun hb=>?_) (fun hb=>?_)<;>try simp only [hb]|with_reducible refine And.intro (by first|omega|(simp;done)|(simp;omega)) ?_|simp (maxSteps:=9^9) -implicitDefEqProofs only [go_sem,true_and,rep1]))
 all_goals (rw [hL];try rfl)
theorem aentry_m (hG:G 0=some powD) (e:En) {cs:List D} (hcs:enC e=cs) (hf:e.fit):Spec Tryz.prog G 53 [.g cs] (.many [.g (treeC (enV e)),.c (.v (.bool e.ok))]):=by
 subst hcs
 have h1:=sbput_m (G:=G) hG e.sub rfl hf.sub
 have h2:=tput_m (G:=G) hG e.tag rfl (by have:=hf.wt;omega) (by have:=hf.nodes;omega)
 have h3:=wput_m (G:=G) e.win
 obtain ⟨s0,s1,s2,s3,s4,s5,t0,t1,t2,t3,t4,t5,t6,t7,t8,t9,hs,ht,hct⟩:=en_lit e
 unfold sputD at h1
 unfold wputD wdC at h3
 rw [hs] at h1
 rw [ht] at h2
 rw [hct]
 have k1:=win_key hf.win
 have k2:=win_key none_64
 have hok:e.ok=(e.sub.may&&(tMay e.tag&&e.win.may)):=rfl
 have hv:enV e=listT (atomT wEntry::pairT wSubject (if e.sub.may=true then e.sub.val else zeroT)::((if e.dlg=true then [propT] else [])++(pairT wTagW (if tMay e.tag=true then e.tag.val else zeroT)::winO e.win))):=rfl
 rw [hv,hok]
 clear hv hok hs ht hct hf
 have hwo:winO e.win=if e.win=Wd.none then [] else [if e.win.may=true then e.win.val else zeroT]:=rfl
 rw [hwo]
 clear hwo
 obtain ⟨SV,SE,hS1,hS2,hS3⟩: ∃ (V:Tree) (E:Int),(if e.sub.may=true then e.sub.val else zeroT)=V∧(if e.sub.may=true then (0:Int) else 7)=E∧(E==0)=e.sub.may:=⟨_,_,rfl,rfl,by cases e.sub.may<;>rfl⟩
 rw [hS1,hS2] at h1
 rw [hS1]
 obtain ⟨TV,TE,h4,hT1,hT2⟩: ∃ (V:Tree) (E:Int),Spec Tryz.prog G 95 [.g [t0,t1,t2,t3,t4,t5,t6,t7,t8,t9]] (.many [.g (treeC V),.c (.v (.int .i64 E))])∧(if tMay e.tag=true then e.tag.val else zeroT)=V∧(E==0)=tMay e.tag:=by
  cases hq:tMay e.tag with
  | true =>
   rw [hq,if_pos rfl] at h2
   exact ⟨_,_,h2,if_pos rfl,rfl⟩
  | false =>
   rw [hq,if_neg (by decide)] at h2
   refine ⟨zeroT,13,?_,if_neg (by decide),rfl⟩
   rw [zeroT_C]
   exact h2
 rw [hT1]
 obtain ⟨WV,WE,h5,hW1,hW2⟩: ∃ (V:Tree) (E:Int),Spec Tryz.prog G 87 [.g [.v (.bool e.win.aft),.v (.int .i64 e.win.frm),.v (.bool e.win.unt),.v (.int .i64 e.win.to)]] (.many [.g (treeC V),.c (.v (.int .i64 E))])∧(if e.win.may=true then e.win.val else zeroT)=V∧(E==0)=e.win.may:=by
  cases hq:e.win.may with
  | true =>
   rw [hq,if_pos rfl] at h3
   exact ⟨_,_,h3,if_pos rfl,rfl⟩
  | false =>
   rw [hq,if_neg (by decide)] at h3
   refine ⟨zeroT,11,?_,if_neg (by decide),rfl⟩
   rw [zeroT_C]
   exact h3
 rw [hW1]
 clear h2 h3 hS1 hS2 hT1 hW1
 generalize e.sub.may=z1 at *
 generalize tMay e.tag=z2 at *
 generalize e.win.may=z3 at *
 obtain ⟨zd,hzd⟩: ∃ z,e.dlg=z:=⟨_,rfl⟩
 rw [hzd]
 generalize e.win=w at *
 have a0:=atom_m (G:=G) wEntry (by decide)
 have a1:=atom_m (G:=G) wProp (by decide)
 have p1:=apair_m (G:=G) wSubject SV rfl (by decide)
 have p2:=apair_m (G:=G) wTagW TV rfl (by decide)
 have hlo:=list_o (G:=G) [atomT wEntry,pairT wSubject SV] (by simp) (by simp)
 have hpp:=list_m (G:=G) [atomT wProp] (by simp)
 rw [show treeC (.mk true false [] [] [atomT wProp])=treeC propT from rfl] at hpp
 have hA:treeC (atomT wEntry)=[.v (.bool false),.v (.bool false),bytesD [],bytesD wEntry,.sl 0 []]:=by
  unfold atomT
  rw [treeC_mk]
  rfl
 have hP:treeC (atomT wProp)=[.v (.bool false),.v (.bool false),bytesD [],bytesD wProp,.sl 0 []]:=by
  unfold atomT
  rw [treeC_mk]
  rfl
 have hl: ∀ l:List Tree,treeC (listT l)=[.v (.bool true),.v (.bool false),bytesD [],bytesD [],.sl l.length (l.flatMap treeC)]:=fun l=>treeC_mk _ _ _ _ _
 rw [hl]
 rw [show treeC (.mk false false [] wEntry [])=treeC (atomT wEntry) from rfl] at a0
 rw [show treeC (.mk false false [] wProp [])=treeC (atomT wProp) from rfl] at a1
 rw [hA] at a0
 rw [hP] at a1
 simp only [List.flatMap_cons,List.flatMap_nil,List.append_nil,hA,hP] at hlo hpp
 generalize pairT wSubject SV=P1 at *
 generalize pairT wTagW TV=P2 at *
 rw [treeC_eq SV] at h1 p1
 rw [treeC_eq TV] at h4 p2
 rw [treeC_eq WV] at h5
 rw [treeC_eq P1] at p1 hlo
 rw [treeC_eq P2] at p2
 rw [treeC_eq propT] at hpp
 clear hl hP
 by_cases hw:w=Wd.none
 ·rw [if_pos hw]
  cases zd
  all_goals
   simp only [if_true,Bool.false_eq_true,if_false,List.nil_append,List.cons_append,List.flatMap_cons,List.flatMap_nil,List.append_nil,hA,treeC_eq P1,treeC_eq P2,treeC_eq WV,treeC_eq propT,List.length_cons,List.length_nil]
   unfold wEntry wSubject wTagW wProp at *
   simp only [bD,bytesD,List.cons_append,List.nil_append,List.length_cons,List.length_nil] at *
   have hh:(true=true↔wdLit w=wdLit Wd.none):=win_key_eq (by rw [decide_eq_true hw])
   clear hw
   cases z1<;>cases z2
   all_goals
    refine spec_of Tryz.func53 rfl rfl rfl (by kernel_rfl) rfl fun K=>?_
    (repeat' (first|with_reducible (first|refine zA fun Kn hK=>?_|refine zU ?_|refine Nx.go ?_|go_step)|refine ⟨none,?_⟩|refine ⟨_,h1,?_⟩|refine ⟨_,h4,?_⟩|refine ⟨_,h5,?_⟩|refine ⟨_,a0,?_⟩|refine ⟨_,a1,?_⟩|refine ⟨_,p1,?_⟩|refine ⟨_,p2,?_⟩|refine ⟨_,hlo,?_⟩|refine ⟨_,hpp,?_⟩|(refine run_agg_neq (by kernel_rfl) k1 k2 hh ?_)|with_reducible (first|refine zI ?_|refine zV ?_)|simp (maxSteps:=9^9) (disch:=omega) only [wq]|with_reducible refine zM (fun hb=>?_) (fun hb=>?_)<;>try simp only [hb]|with_reducible refine And.intro (by first|omega|(simp;done)|(simp;omega)) ?_|simp (maxSteps:=9^9) -implicitDefEqProofs only [go_sem,rep1,hzd,hS3,hT2,hW2,decide_true,bne,Bool.not_true,Bool.not_false]))
    all_goals rfl
 ·rw [if_neg hw]
  cases zd
  all_goals
   simp only [if_true,Bool.false_eq_true,if_false,List.nil_append,List.cons_append,List.flatMap_cons,List.flatMap_nil,List.append_nil,hA,treeC_eq P1,treeC_eq P2,treeC_eq WV,treeC_eq propT,List.length_cons,List.length_nil]
   unfold wEntry wSubject wTagW wProp at *
   simp only [bD,bytesD,List.cons_append,List.nil_append,List.length_cons,List.length_nil] at *
   have hh:(false=true↔wdLit w=wdLit Wd.none):=win_key_eq (by rw [decide_eq_false hw])
   clear hw
   cases z1<;>cases z2
   all_goals
    refine spec_of Tryz.func53 rfl rfl rfl (by kernel_rfl) rfl fun K=>?_
    (repeat' (first|with_reducible (first|refine zA fun Kn hK=>?_|refine zU ?_|refine Nx.go ?_|go_step)|refine ⟨none,?_⟩|refine ⟨_,h1,?_⟩|refine ⟨_,h4,?_⟩|refine ⟨_,h5,?_⟩|refine ⟨_,a0,?_⟩|refine ⟨_,a1,?_⟩|refine ⟨_,p1,?_⟩|refine ⟨_,p2,?_⟩|refine ⟨_,hlo,?_⟩|refine ⟨_,hpp,?_⟩|(refine run_agg_neq (by kernel_rfl) k1 k2 hh ?_)|with_reducible (first|refine zI ?_|refine zV ?_)|simp (maxSteps:=9^9) (disch:=omega) only [wq]|with_reducible refine zM (fun hb=>?_) (fun hb=>?_)<;>try simp only [hb]|with_reducible refine And.intro (by first|omega|(simp;done)|(simp;omega)) ?_|simp (maxSteps:=9^9) -implicitDefEqProofs only [go_sem,rep1,hzd,hS3,hT2,hW2,decide_true,bne,Bool.not_true,Bool.not_false]))
    all_goals rfl
end
theorem enC_flen (l:List En):(l.flatMap enC).length=l.length*21:=flat_len enC_len l
structure AclFit (l:List En):Prop where
 all: ∀ e∈l,e.fit
 wt:((l.map enV).map Tree.wt).sum≤28000000
 len:l.length≤100000
section
variable {G:Nat→Option (List D)}
noncomputable def aputD (l:List En):DR:= .many [.g (treeC (if aclMay l=true then aclV l else zeroT)),.c (.v (.int .i64 (if aclMay l=true then 0 else 3)))]
theorem aput_m (hG:G 0=some powD) (l:List En) (hf:AclFit l):Spec Tryz.prog G 22 [.c (.sl l.length (l.flatMap enC))] (aputD l):=by
 have a0:=atom_m (G:=G) wAcl (by decide)
 have hlo:=list_o (G:=G) [atomT wAcl] (by simp) (by simp)
 have hA:treeC (atomT wAcl)=[.v (.bool false),.v (.bool false),bytesD [],bytesD wAcl,.sl 0 []]:=by
  unfold atomT
  rw [treeC_mk]
  rfl
 rw [show treeC (.mk false false [] wAcl [])=treeC (atomT wAcl) from rfl] at a0
 rw [List.flatMap_cons,List.flatMap_nil,List.append_nil] at hlo
 have hen:=fun (e:En) (he:e∈l)=>aentry_m (G:=G) hG e rfl (hf.all e he)
 have hsm:=fun (h:aclOk l=true)=>sxmay_m (G:=G) hG (aclV l) rfl (by
  have hw:=hf.wt
  rw [show l.map enV=l.map En.val from List.map_congr_left fun e he=>enV_ok ((aclOk_iff.1 h).2 e he)] at hw
  unfold aclV
  rw [wt_listT,List.map_cons,List.sum_cons,wt_atomT]
  have:wAcl.length=3:=rfl
  omega)
 have hlen:=hf.len
 have hno:aclOk l=false→aclMay l=false:=fun h=>by rw [aclMay,h];rfl
 have hyes:aclOk l=true→aclMay l=(aclV l).may:=fun h=>by rw [aclMay,h];rfl
 unfold aputD
 obtain ⟨RC,hRC⟩: ∃ RC,treeC (if aclMay l=true then aclV l else zeroT)=RC:=⟨_,rfl⟩
 obtain ⟨RE,hRE⟩: ∃ RE:Int,(if aclMay l=true then (0:Int) else 3)=RE:=⟨_,rfl⟩
 rw [hRC,hRE]
 have hz:=zeroT_C
 have hbad:aclOk l=false→RC=[.v (.bool false),.v (.bool false),.sl 0 [],.sl 0 [],.sl 0 []]∧RE=3:=fun h=>by
  rw [← hRC,← hRE,hno h,if_neg (by decide),if_neg (by decide),hz]
  exact ⟨rfl,rfl⟩
 rw [hA] at a0 hlo
 unfold wAcl at a0 hlo
 simp only [bD,bytesD] at a0 hlo
 refine spec_of Tryz.func22 rfl rfl rfl (by kernel_rfl) rfl fun K=>?_
 (repeat' (first|with_reducible (first|refine zA fun Kn hK=>?_|refine zU ?_|refine Nx.go ?_|go_step)|refine ⟨none,?_⟩|refine ⟨_,a0,?_⟩|refine ⟨_,hlo,?_⟩|with_reducible (first|refine zI ?_|refine zV ?_)|simp (maxSteps:=9^9) (disch:=omega) only [wq]|with_reducible refine zM (fun hb=>?_) (fun hb=>?_)<;>try simp only [hb]|with_reducible refine And.intro (by first|omega|(simp;done)|(simp;omega)) ?_|simp (maxSteps:=9^9) -implicitDefEqProofs only [go_sem,rep1,true_and]))
 refine sound_loopR (fun x:{k:Nat // k≤l.length∧k≤16∧ ∀ e∈l.take k,e.ok=true}=>⟨[(2,vP 2 0),(4,vP 4 0),(12,vD (.sl l.length (l.flatMap enC))),(13,vI l.length),(14,vI x.1)],[(2,some ⟨45,zeroOf Tryz.prog 45,true,false⟩),(4,some ⟨45,[.d (.v (.bool true)),.d (.v (.bool false)),.nil,.nil,.row 1000 5 0 (1+x.1) .grow],true,false⟩),(1000,some ⟨45,(treeC (atomT wAcl)++(l.take x.1).flatMap fun e=>treeC (enV e)).map C.d,false,false⟩)]⟩) (fun x=>l.length-x.1) ⟨0,by simp⟩ [(1000,11)] (by (iterate 2 ((try simp (maxSteps:=9^9) -implicitDefEqProofs only [go_sem,bD,bytesD,List.take_zero,List.flatMap_nil,List.map_nil,List.append_nil]);(try simp (maxSteps:=9^9) (disch:=omega) only [wq])));try simp;first|done|(rw [hA];rfl)|(refine ⟨?_,?_⟩<;>first|(rw [hA];rfl)|simp)) (fun ⟨k,hk,hk16,hall⟩=>?_)
 by_cases hlt:k<l.length
 ·obtain ⟨x,hx⟩: ∃ x,l[k]?=some x:=⟨_,List.getElem?_eq_getElem hlt⟩
  have hb:decide ((k:Int)<(l.length:Int))=true:=by simpa using hlt
  have hm:=List.mem_of_getElem? hx
  have hxv:=hen x hm
  have hfl:=flat_at enC_len hx
  obtain ⟨s0,s1,s2,s3,s4,s5,t0,t1,t2,t3,t4,t5,t6,t7,t8,t9,_,_,hct⟩:=en_lit x
  rw [hct] at hxv hfl
  have ht:treeC (atomT wAcl)++(l.take (k+1)).flatMap (fun e=>treeC (enV e))=treeC (atomT wAcl)++(l.take k).flatMap (fun e=>treeC (enV e))++treeC (enV x):=by
   rw [List.take_add_one,hx,List.flatMap_append,List.append_assoc]
   simp
  have hlenW:(treeC (atomT wAcl)++(l.take k).flatMap fun e=>treeC (enV e)).length=(1+k)*5:=by
   rw [List.length_append,treeC_len,show ((l.take k).flatMap fun e=>treeC (enV e))=((l.take k).map enV).flatMap treeC from by rw [List.flatMap_map],treeC_flen,List.length_map,List.length_take,Nat.min_eq_left hk]
   omega
  have d16:decide (((1+k:Nat):Int)>16)= !decide (k<16):=by
   rw [← decide_not,decide_eq_decide]
   omega
  clear hsm hno hyes hRC hRE hen
  cases hok:x.ok with
  | false =>
   have hbad:=hbad (by
    cases hq:aclOk l with
    | false=>rfl
    | true=>rw [(aclOk_iff.1 hq).2 x hm] at hok;cases hok)
   rw [hok] at hxv
   generalize enV x=V at *
   rw [treeC_eq V] at hxv
   generalize treeC (atomT wAcl)++(l.take k).flatMap (fun e=>treeC (enV e))=W at *
   simp only [bD,bytesD] at hxv
   (repeat' (first|with_reducible (first|refine zA fun Kn hK=>?_|refine zU ?_|refine Nx.go ?_|go_step)|refine ⟨_,hxv,?_⟩|with_reducible (first|refine zI ?_|refine zV ?_)|simp (maxSteps:=9^9) (disch:=omega) only [wq]|with_reducible refine zM (fun hb=>?_) (fun hb=>?_)<;>try simp only [hb]|with_reducible refine And.intro (by first|omega|(simp;done)|(simp;omega)) ?_|simp (maxSteps:=9^9) -implicitDefEqProofs only [go_sem,hb,hfl,enC_flen,d16,decide_true,bne,Bool.not_true,Bool.not_false]))
   all_goals (rw [hbad.1,hbad.2];try rfl)
  | true =>
   rw [hok] at hxv
   by_cases h16:k<16
   ·rw [decide_eq_true h16] at d16
    have hnew:=tk_none (f:=fun e:En=>e.ok) hx hok hall
    generalize enV x=V at *
    rw [treeC_eq V] at hxv ht
    generalize treeC (atomT wAcl)++(l.take k).flatMap (fun e=>treeC (enV e))=W at *
    simp only [bD,bytesD] at hxv ht
    clear hbad
    (repeat' (first|with_reducible (first|refine zA fun Kn hK=>?_|refine zU ?_|refine Nx.go ?_|go_step)|refine ⟨_,hxv,?_⟩|(refine ⟨[(1000,36)],⟨k+1,hlt,h16,hnew⟩,?_⟩;rw [ht])|with_reducible (first|refine zI ?_|refine zV ?_)|simp (maxSteps:=9^9) (disch:=omega) only [wq]|with_reducible refine zM (fun hb=>?_) (fun hb=>?_)<;>try simp only [hb]|with_reducible refine And.intro (by first|omega|(simp;done)|(simp;omega)) ?_|simp (maxSteps:=9^9) -implicitDefEqProofs only [go_sem,hb,hfl,enC_flen,d16,rep1,hlenW,List.length_map,true_and,Nat.le_refl,List.append_nil,decide_true,bne,Bool.not_true,Bool.not_false]))
    all_goals first|omega|(simp only [ijq,true_and,and_true];first|done|omega|(split<;>omega)|(simp;done)|(simp;omega))
   ·rw [decide_eq_false h16] at d16
    have hbad:=hbad (by
     cases hq:aclOk l with
     | false=>rfl
     | true=>have:=(aclOk_iff.1 hq).1;omega)
    generalize enV x=V at *
    rw [treeC_eq V] at hxv
    generalize treeC (atomT wAcl)++(l.take k).flatMap (fun e=>treeC (enV e))=W at *
    simp only [bD,bytesD] at hxv
    (repeat' (first|with_reducible (first|refine zA fun Kn hK=>?_|refine zU ?_|refine Nx.go ?_|go_step)|refine ⟨_,hxv,?_⟩|with_reducible (first|refine zI ?_|refine zV ?_)|simp (maxSteps:=9^9) (disch:=omega) only [wq]|with_reducible refine zM (fun hb=>?_) (fun hb=>?_)<;>try simp only [hb]|with_reducible refine And.intro (by first|omega|(simp;done)|(simp;omega)) ?_|simp (maxSteps:=9^9) -implicitDefEqProofs only [go_sem,hb,hfl,enC_flen,d16,decide_true,bne,Bool.not_true,Bool.not_false]))
    all_goals (rw [hbad.1,hbad.2];try rfl)
 ·have hb:decide ((k:Int)<(l.length:Int))=false:=by simpa using hlt
  obtain rfl:k=l.length:=by omega
  simp only [List.take_length] at hall ⊢
  have hok:aclOk l=true:=aclOk_iff.2 ⟨hk16,hall⟩
  have hsm:=hsm hok
  have hy:=hyes hok
  have hcell:treeC (aclV l)=[.v (.bool true),.v (.bool false),.sl 0 [],.sl 0 [],.sl (1+l.length) (treeC (atomT wAcl)++l.flatMap fun e=>treeC (enV e))]:=by
   unfold aclV
   rw [show listT (atomT wAcl::l.map En.val)= .mk true false [] [] (atomT wAcl::l.map En.val) from rfl,treeC_mk,List.flatMap_cons,List.flatMap_map,List.length_cons,List.length_map,Nat.add_comm l.length 1]
   rw [show (l.flatMap fun e=>treeC (enV e))=l.flatMap fun e=>treeC e.val from by
    rw [← List.flatMap_map enV treeC,← List.flatMap_map En.val treeC]
    rw [show l.map enV=l.map En.val from List.map_congr_left fun e he=>enV_ok (hall e he)]]
   rfl
  have hlenW:(treeC (atomT wAcl)++l.flatMap fun e=>treeC (enV e)).length=(1+l.length)*5:=by
   rw [List.length_append,treeC_len,show (l.flatMap fun e=>treeC (enV e))=(l.map enV).flatMap treeC from by rw [List.flatMap_map],treeC_flen,List.length_map]
   omega
  rw [hcell] at hsm
  generalize treeC (atomT wAcl)++l.flatMap (fun e=>treeC (enV e))=W at *
  rw [hy] at hRC hRE
  clear hen hbad hno hyes hok hy
  cases hmv:(aclV l).may with
  | false =>
   rw [hmv] at hsm hRC hRE
   rw [if_neg (by decide),hz] at hRC
   rw [if_neg (by decide)] at hRE
   (repeat' (first|with_reducible (first|refine zA fun Kn hK=>?_|refine zU ?_|refine Nx.go ?_|go_step)|refine ⟨none,?_⟩|refine ⟨_,hsm,?_⟩|with_reducible (first|refine zI ?_|refine zV ?_)|simp (maxSteps:=9^9) (disch:=omega) only [wq]|with_reducible refine zM (fun hb=>?_) (fun hb=>?_)<;>try simp only [hb]|with_reducible refine And.intro (by first|omega|(simp;done)|(simp;omega)) ?_|simp (maxSteps:=9^9) -implicitDefEqProofs only [go_sem,hb,hlenW,List.length_map,decide_true,bne,Bool.not_true,Bool.not_false]))
   all_goals (rw [← hRC,← hRE];try rfl)
  | true =>
   rw [hmv] at hsm hRC hRE
   rw [if_pos rfl,hcell] at hRC
   rw [if_pos rfl] at hRE
   (repeat' (first|with_reducible (first|refine zA fun Kn hK=>?_|refine zU ?_|refine Nx.go ?_|go_step)|refine ⟨none,?_⟩|refine ⟨_,hsm,?_⟩|with_reducible (first|refine zI ?_|refine zV ?_)|simp (maxSteps:=9^9) (disch:=omega) only [wq]|with_reducible refine zM (fun hb=>?_) (fun hb=>?_)<;>try simp only [hb]|with_reducible refine And.intro (by first|omega|(simp;done)|(simp;omega)) ?_|simp (maxSteps:=9^9) -implicitDefEqProofs only [go_sem,hb,hlenW,List.length_map,decide_true,bne,Bool.not_true,Bool.not_false]))
   all_goals (rw [← hRC,← hRE];try rfl)
end
end Go.Proofs.YtfammdfpgccnfaaGreatDoor
