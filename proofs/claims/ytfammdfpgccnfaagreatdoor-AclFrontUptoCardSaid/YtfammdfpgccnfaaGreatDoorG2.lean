/- Parts of the proof, laid together. -/
import Derived.Test.YtfammdfpgccnfaaGreatDoorG1
set_option linter.unusedVariables false
set_option linter.unusedSimpArgs false
set_option maxRecDepth 100000
set_option maxHeartbeats 8000000
namespace Go.Proofs.YtfammdfpgccnfaaGreatDoor
open Go.RowKit
section
variable {G:Nat→Option (List D)} {P:Program} {K:Ctx G} {F:Fr} {s:FSt} {o:Oper} {a:Act} {w w':World} {m:NM}
theorem RC.ren {S S':Nat→Prop} {m m':NM} {dom dom':Nat→Prop} {ρ:Nat→Nat} (hS: ∀ b,S b→S' b) (hd: ∀ r,dom r→dom' (ρ r)∧m'.g (ρ r)=m.g r∧m'.N (ρ r)=m.N r∧m'.vd (ρ r)=m.vd r) {x:C} {u:Value} (h:RC w S m dom x u):RC w S' m' dom' (x.ren ρ) u:=by
 cases x with
 | d x=>exact RD.mono hS (fun _ _=>rfl) h
 | nil=>exact h
 | ptr r off =>
  obtain ⟨h1,h2,h3⟩:=h
  obtain ⟨k1,k2,k3,k4⟩:=hd r h1
  exact ⟨k1,by rw [k4];exact h2,by rw [k2];exact h3⟩
 | row r sz off n cap =>
  obtain ⟨h1,A,c,e,h2,h3,h4⟩:=h
  obtain ⟨k1,k2,k3,k4⟩:=hd r h1
  exact ⟨k1,A,c,e,h2,h3,by rw [k2,k3,k4];exact h4⟩
 | fn f caps =>
  obtain ⟨h1,h2⟩:=h
  refine ⟨?_,fun p hp=>?_⟩
  ·rw [h1]
   congr 2
   simp only [List.map_map]
   exact List.map_congr_left fun p hp=>by rw [Function.comp_apply,(hd p.1 (h2 p hp).1).2.1]
  ·obtain ⟨q,hq,rfl⟩:=List.mem_map.1 hp
   obtain ⟨k1,k2,k3,k4⟩:=hd q.1 (h2 q hq).1
   exact ⟨k1,by rw [k4];exact (h2 q hq).2⟩
theorem RA.ren {S S':Nat→Prop} {m m':NM} {dom dom':Nat→Prop} {ρ:Nat→Nat} (hS: ∀ b,S b→S' b) (hd: ∀ r,dom r→dom' (ρ r)∧m'.g (ρ r)=m.g r∧m'.N (ρ r)=m.N r∧m'.vd (ρ r)=m.vd r) {x:AV} {u:Value} (h:RA w S m dom x u):RA w S' m' dom' (x.ren ρ) u:=by
 cases x with
 | c x=>exact RC.ren hS hd h
 | agg cs =>
  obtain ⟨us,e,hl,hc⟩:=h
  refine ⟨us,e,by simpa using hl,fun i x v hx hv=>?_⟩
  rw [List.getElem?_map] at hx
  cases hq:cs[i]? with
  | none=>rw [hq] at hx;cases hx
  | some q =>
   rw [hq] at hx
   simp at hx
   subst hx
   exact RC.ren hS hd (hc i q v hq hv)
theorem RS.ren {S S':Nat→Prop} {m m':NM} {dom dom':Nat→Prop} {ρ:Nat→Nat} (hS: ∀ b,S b→S' b) (hd: ∀ r,dom r→dom' (ρ r)∧m'.g (ρ r)=m.g r∧m'.N (ρ r)=m.N r∧m'.vd (ρ r)=m.vd r) {x:SV} {u:Value} (h:RS w S m dom x u):RS w S' m' dom' (x.ren ρ) u:=by
 cases x with
 | bot=>trivial
 | undef=>exact h
 | a x=>exact RA.ren hS hd h
 | tup l =>
  obtain ⟨us,e,hl,hc⟩:=h
  refine ⟨us,e,by simpa using hl,fun i x v hx hv=>?_⟩
  rw [List.getElem?_map] at hx
  cases hq:l[i]? with
  | none=>rw [hq] at hx;cases hx
  | some q =>
   rw [hq] at hx
   simp at hx
   subst hx
   exact RA.ren hS hd (hc i q v hq hv)
theorem call_turn {os:List (Nat × Nat × AObj)} {H':List (Nat × Option AObj)} {d:Nat} {m1:NM} (hR:HRel K m s.ob w) (hos:OsOk s os) (hf:s.ob d=none) (n1:(os.map fun p=>p.2.1).Nodup) (n2:(os.map fun p=>p.1).Nodup)
  (hdat: ∀ p∈H',∀ x,p.2=some x→(dOnly x.cs).isSome=true) (n3:(H'.map fun p=>renN (os.map fun p=>(p.1,p.2.1)) d p.1).Nodup)
  (hH:HRel (⟨w,Vis K m s.ob w,fun b=> ∃ p∈os,m.vd p.2.1=false∧m.g p.2.1=b⟩:Ctx G) m1 (lkO H') w')
  (hag: ∀ p∈os,lkO H' p.1≠none∧m1.g p.1=m.g p.2.1∧m1.N p.1=m.N p.2.1∧m1.vd p.1=m.vd p.2.1) :
  ∃ m2,Turn K m m2 s.ob (updO s.ob (H'.map fun p=>(renN (os.map fun p=>(p.1,p.2.1)) d p.1,p.2))) w w' (fun r=> ∃ p∈H',renN (os.map fun p=>(p.1,p.2.1)) d p.1=r) ∧
   HRel K m2 (updO s.ob (H'.map fun p=>(renN (os.map fun p=>(p.1,p.2.1)) d p.1,p.2))) w' ∧
   (∀ b,Vis (⟨w,Vis K m s.ob w,fun b=> ∃ p∈os,m.vd p.2.1=false∧m.g p.2.1=b⟩:Ctx G) m1 (lkO H') w' b→Vis K m2 (updO s.ob (H'.map fun p=>(renN (os.map fun p=>(p.1,p.2.1)) d p.1,p.2))) w' b) ∧
   ∀ r,(lkO H').dom r→(updO s.ob (H'.map fun p=>(renN (os.map fun p=>(p.1,p.2.1)) d p.1,p.2))).dom (renN (os.map fun p=>(p.1,p.2.1)) d r)∧m2.g (renN (os.map fun p=>(p.1,p.2.1)) d r)=m1.g r∧m2.N (renN (os.map fun p=>(p.1,p.2.1)) d r)=m1.N r∧m2.vd (renN (os.map fun p=>(p.1,p.2.1)) d r)=m1.vd r:=by
 have hren: ∀ p∈os,renN (os.map fun p=>(p.1,p.2.1)) d p.1=p.2.1:=fun p hp=>renN_mem (x:=p.2.2) n2 hp
 have hrenN: ∀ i,(∃ p∈os,p.1=i)∨renN (os.map fun p=>(p.1,p.2.1)) d i=d:=fun i=>by
  by_cases h: ∃ p∈os,p.1=i
  ·exact .inl h
  ·exact .inr (renN_none fun p hp e=>h ⟨p,hp,e⟩)
 generalize hρ:renN (os.map fun p=>(p.1,p.2.1)) d=ρ at *
 generalize hK':(⟨w,Vis K m s.ob w,fun b=> ∃ p∈os,m.vd p.2.1=false∧m.g p.2.1=b⟩:Ctx G)=K' at *
 have hKS:K'.S=Vis K m s.ob w:=by rw [← hK']
 have hKB: ∀ b,K'.B b↔ ∃ p∈os,m.vd p.2.1=false∧m.g p.2.1=b:=fun b=>by rw [← hK']
 have hKw:K'.w0=w:=by rw [← hK']
 clear hK'
 have hne: ∀ r,s.ob.dom r→r≠d:=fun r hr e=>hr (by rw [e];exact hf)
 have hosd: ∀ p∈os,s.ob.dom p.2.1:=fun p hp=>by simp [Hp.dom,(hos p hp).1]
 have hoso: ∀ p∈os,s.ob.own p.2.1:=fun p hp=>⟨_,(hos p hp).1,(hos p hp).2.1⟩
 generalize hU:H'.map (fun p=>(ρ p.1,p.2))=U at *
 have hUn:(U.map (·.1)).Nodup:=by
  rw [← hU,List.map_map]
  exact n3
 have hUin: ∀ p∈H',(ρ p.1,p.2)∈U:=fun p hp=>by
  rw [← hU]
  exact List.mem_map_of_mem hp
 have hUat: ∀ p∈H',updO s.ob U (ρ p.1)=some p.2:=fun p hp=>updO_mem (hUin p hp) hUn
 have hinj: ∀ p∈H',∀ q∈H', ρ p.1=ρ q.1→p=q:=fun p hp q hq e=>by
  have h1: ∀ l:List (Nat × Option AObj),(l.map fun p=>ρ p.1).Nodup→ ∀ p∈l,∀ q∈l, ρ p.1=ρ q.1→p=q:=by
   intro l
   induction l with
   | nil => intro _ p hp
            cases hp
   | cons x l ih =>
    intro hn p hp q hq e
    rw [List.map_cons,List.nodup_cons] at hn
    rcases List.mem_cons.1 hp with hp'|hp'<;>rcases List.mem_cons.1 hq with hq'|hq'
    ·rw [hp',hq']
    ·exact absurd (by rw [← hp',e];exact List.mem_map_of_mem (f:=fun p:Nat × Option AObj=>ρ p.1) hq') hn.1
    ·exact absurd (by rw [← hq',← e];exact List.mem_map_of_mem (f:=fun p:Nat × Option AObj=>ρ p.1) hp') hn.1
    ·exact ih hn.2 p hp' q hq' e
  exact h1 H' n3 p hp q hq e
 have hHn:(H'.map (·.1)).Nodup:=by
  have h1: ∀ l:List (Nat × Option AObj),(l.map fun p=>ρ p.1).Nodup→(l.map (·.1)).Nodup:=by
   intro l
   induction l with
   | nil=>intro _;simp
   | cons x l ih =>
    intro hn
    rw [List.map_cons,List.nodup_cons] at hn ⊢
    refine ⟨fun h=>hn.1 ?_,ih hn.2⟩
    obtain ⟨q,hq,e⟩:=List.mem_map.1 h
    exact List.mem_map.2 ⟨q,hq,by rw [e]⟩
  exact h1 H' n3
 have hlk: ∀ p∈H',lkO H' p.1=some p.2:=fun p hp=>lkO_nodup hHn hp
 have hj: ∃ j,∀ p∈H', ρ p.1=d→p.1=j:=by
  by_cases h: ∃ p∈H', ρ p.1=d
  ·obtain ⟨p,hp,e⟩:=h
   exact ⟨p.1,fun q hq e2=>by rw [hinj q hq p hp (e2.trans e.symm)]⟩
  ·exact ⟨0,fun p hp e=>absurd ⟨p,hp,e⟩ h⟩
 obtain ⟨j,hj⟩:=hj
 have hm2: ∀ p∈H',(m.set d (m1.g j) (m1.N j) (m1.vd j)).g (ρ p.1)=m1.g p.1∧(m.set d (m1.g j) (m1.N j) (m1.vd j)).N (ρ p.1)=m1.N p.1∧(m.set d (m1.g j) (m1.N j) (m1.vd j)).vd (ρ p.1)=m1.vd p.1:=fun p hp=>by
  rcases hrenN p.1 with ⟨q,hq,e⟩|e
  ·have e2:=hren q hq
   rw [e] at e2
   have h3:=hag q hq
   rw [e] at h3
   have h4:=NM.set_other (m:=m) (d:=d) (g:=m1.g j) (N:=m1.N j) (vd:=m1.vd j) (hne _ (hosd q hq))
   rw [e2]
   exact ⟨h4.1.trans h3.2.1.symm,h4.2.1.trans h3.2.2.1.symm,h4.2.2.trans h3.2.2.2.symm⟩
  ·rw [e,← hj p hp e]
   exact NM.set_same
 generalize hmm:m.set d (m1.g j) (m1.N j) (m1.vd j)=m2 at *
 have hm0: ∀ r,s.ob.dom r→m2.g r=m.g r∧m2.N r=m.N r∧m2.vd r=m.vd r:=fun r hr=>by
  rw [← hmm]
  exact NM.set_other (hne r hr)
 have hun: ∀ r,¬ (∃ p∈H', ρ p.1=r)→updO s.ob U r=s.ob r:=fun r hr=>updO_names fun q hq e=>by
  rw [← hU] at hq
  obtain ⟨p,hp,rfl⟩:=List.mem_map.1 hq
  exact hr ⟨p,hp,e⟩
 have hown: ∀ r,(∃ p∈H', ρ p.1=r)→(updO s.ob U).own r→ ∃ p∈H', ρ p.1=r∧(lkO H').own p.1:=fun r ⟨p,hp,e⟩ ⟨x,h1,h2⟩=>by
  rw [← e,hUat p hp] at h1
  injection h1 with h1
  exact ⟨p,hp,e,x,by rw [hlk p hp,h1],h2⟩
 have t:Turn K m m2 s.ob (updO s.ob U) w w' (fun r=> ∃ p∈H', ρ p.1=r):=by
  refine ⟨hun,fun r hr=>updO_old hr,fun r hr=>(hm0 r hr).1,fun r hr=>(hm0 r hr).2.1,fun r hr=>(hm0 r hr).2.2,⟨by rw [hH.ev.os,hKw],by rw [hH.ev.tape,hKw],by rw [hH.ev.output,hKw],by rw [← hKw];exact hH.ev.size,fun k hk hn=>?_⟩,fun r hU' ho hv=>?_,fun r r' hU1 hU2 ho1 ho2 hv1 hv2 e=>?_⟩
  ·rw [← hKw]
   refine hH.ev.block k (by rw [hKw];exact hk) fun hB=>hn ?_
   obtain ⟨p,hp,h1,h2⟩:=(hKB k).1 hB
   obtain ⟨x,hx⟩:=Option.ne_none_iff_exists'.1 (hag p hp).1
   exact ⟨p.2.1,⟨(p.1,x),lkO_mem hx,hren p hp⟩,hoso p hp,h1,h2⟩
  ·obtain ⟨p,hp,e,ho'⟩:=hown r hU' ho
   obtain ⟨k1,k2,k3⟩:=hm2 p hp
   rw [e] at k1 k3
   rw [k3] at hv
   rw [k1]
   rcases hH.loc p.1 ho' hv with hB|hlt
   ·obtain ⟨q,hq,h1,h2⟩:=(hKB _).1 hB
    obtain ⟨x,hx⟩:=Option.ne_none_iff_exists'.1 (hag q hq).1
    exact .inl ⟨q.2.1,⟨(q.1,x),lkO_mem hx,hren q hq⟩,hoso q hq,h1,h2⟩
   ·rw [hKw] at hlt
    exact .inr hlt
  ·obtain ⟨p,hp,e1,ho1'⟩:=hown r hU1 ho1
   obtain ⟨q,hq,e2,ho2'⟩:=hown r' hU2 ho2
   obtain ⟨k1,k2,k3⟩:=hm2 p hp
   obtain ⟨l1,l2,l3⟩:=hm2 q hq
   rw [e1] at k1 k3
   rw [e2] at l1 l3
   have:=hH.dist p.1 q.1 ho1' ho2' (by rw [← k3];exact hv1) (by rw [← l3];exact hv2) (by rw [← k1,← l1];exact e)
   rw [← e1,← e2,this]
 have hvis: ∀ b,Vis K' m1 (lkO H') w' b→Vis K m2 (updO s.ob U) w' b:=fun b ⟨h1,h2,h3⟩=>by
  rw [hKS,hKw] at h1
  rcases h1 with h1|h1|h1
  ·exact t.vis hR h1
  ·obtain ⟨p,hp,g1,g2⟩:=(hKB b).1 h1
   refine ⟨(hR.loc p.2.1 (hoso p hp) g1).elim (fun h=> .inr (.inl (by rw [← g2];exact h))) (fun h=> .inr (.inr (by rw [← g2];exact h))),h2,fun r ho hv e=>?_⟩
   by_cases hr: ∃ p∈H', ρ p.1=r
   ·obtain ⟨q,hq,e2,ho'⟩:=hown r hr ho
    obtain ⟨k1,k2,k3⟩:=hm2 q hq
    rw [e2] at k1 k3
    exact h3 q.1 ho' (by rw [← k3];exact hv) (by rw [← k1];exact e)
   ·have ho':=t.back hr ho
    have hv':=(hm0 r ho'.dom).2.2
    have hg':=(hm0 r ho'.dom).1
    have:=hR.dist r p.2.1 ho' (hoso p hp) (by rw [← hv'];exact hv) g1 (by rw [← hg',e,g2])
    obtain ⟨x,hx⟩:=Option.ne_none_iff_exists'.1 (hag p hp).1
    exact hr ⟨(p.1,x),lkO_mem hx,by rw [this];exact hren p hp⟩
  ·refine ⟨.inr (.inr (Nat.le_trans hR.ev.size h1)),h2,fun r ho hv e=>?_⟩
   by_cases hr: ∃ p∈H', ρ p.1=r
   ·obtain ⟨q,hq,e2,ho'⟩:=hown r hr ho
    obtain ⟨k1,k2,k3⟩:=hm2 q hq
    rw [e2] at k1 k3
    exact h3 q.1 ho' (by rw [← k3];exact hv) (by rw [← k1];exact e)
   ·have ho':=t.back hr ho
    have hv':=(hm0 r ho'.dom).2.2
    have hg':=(hm0 r ho'.dom).1
    have:=hR.lt ho' (by rw [← hv'];exact hv)
    omega
 refine ⟨m2,t,t.rel hR (fun r x ⟨p,hp,e⟩ hx=>?_) (fun r x ⟨p,hp,e⟩ hx hfr hv=>?_),hvis,fun r hr=>?_⟩
 ·rw [← e,hUat p hp] at hx
  injection hx with hx
  obtain ⟨k1,k2,k3⟩:=hm2 p hp
  rw [e] at k1 k2 k3
  exact (hH.obj p.1 x (by rw [hlk p hp,hx])).data (hdat p hp x hx) hvis k1 k2 k3
 ·rw [← e,hUat p hp] at hx
  injection hx with hx
  obtain ⟨k1,k2,k3⟩:=hm2 p hp
  rw [e] at k1 k2 k3
  rw [k1]
  exact hvis _ (hH.fz p.1 x (by rw [hlk p hp,hx]) hfr (by rw [← k3];exact hv))
 ·obtain ⟨x,hx⟩:=Option.ne_none_iff_exists'.1 hr
  have hp:=lkO_mem hx
  refine ⟨?_,hm2 _ hp⟩
  show updO s.ob U (ρ r)≠none
  rw [hUat _ hp]
  simp
theorem callO_tail {f:FuncId} {d:Nat} {avs:List AV} {os:List (Nat × Nat × AObj)} {U:List (Nat × Option AObj)} {vs:List Value} {r:OutO} (hR:Rel K F m s a w) (hd: ∀ d,o.dst=some d→d<F.n)
  (hexec:(execOp a.eval o).run P w= .ok (.enter f vs.toArray) w) (hos:OsOk s os) (hcv:CvOk K m s w U (fun S=>vs.length=avs.length∧ ∀ (i:Nat) x v,avs[i]?=some x→vs[i]?=some v→AvR w m os S x v)) (hf:s.ob d=none)
  (hspec:SpecO P G f avs (os.map fun p=>(p.1,p.2.2)) r) (n1:(os.map fun p=>p.2.1).Nodup) (n2:(os.map fun p=>p.1).Nodup) (n4':offN (os.map fun p=>p.2.1) U) (hdat':hpOk r.hp) (n3:(r.hp.map fun p=>renN (os.map fun p=>(p.1,p.2.1)) d p.1).Nodup) (hdd:o.dst=some d) :
  QOk P K F s o a w (match r with
   | .ret v H'=> .done (v.ren (renN (os.map fun p=>(p.1,p.2.1)) d)) (U++H'.map fun p=>(renN (os.map fun p=>(p.1,p.2.1)) d p.1,p.2))
   | .pan v H'=> .pan v (U++H'.map fun p=>(renN (os.map fun p=>(p.1,p.2.1)) d p.1,p.2))):=by
 have n4:=offN_ok n4'
 have hdat:=hpOk_ok hdat'
 obtain ⟨hf1,hf2⟩:=hcv
 obtain ⟨g1,g2,g3,_⟩:=Rel.freezeAll (s:=s) U s hR rfl (fun r x hx=> .inl hx) hf1 (fun b hb=>hb)
 obtain ⟨hl,hav⟩:=hf2 _ g1.heap g2 g3
 have hos1:OsOk ⟨s.sl,updO s.ob U⟩ os:=fun p hp=>by
  obtain ⟨h1,h2,h3⟩:=hos p hp
  refine ⟨?_,h2,h3⟩
  show updO s.ob U p.2.1=_
  rw [updO_names fun q hq e=>n4 q hq (by rw [e];exact List.mem_map_of_mem (f:=fun p:Nat × Nat × AObj=>p.2.1) hp)]
  exact h1
 have hf':updO s.ob U d=none:=by
  rw [updO_names fun q hq e=>?_]
  ·exact hf
  ·obtain ⟨x,hx,_⟩:=hf1 q hq
   rw [e,hf] at hx
   cases hx
 generalize hs1:(⟨s.sl,updO s.ob U⟩:FSt)=s1 at *
 have hs1o:s1.ob=updO s.ob U:=by rw [← hs1]
 have hs1s:s1.sl=s.sl:=by rw [← hs1]
 rw [← hs1o] at hf' g3
 have hmem: ∀ i x,lkO (someO (os.map fun p=>(p.1,p.2.2))) i=some x→ ∃ r y,x=some y∧(i,r,y)∈os:=fun i x hx=>by
  obtain ⟨y,rfl,hy⟩:=someO_mem hx
  obtain ⟨p,hp,e⟩:=List.mem_map.1 hy
  injection e with e1 e2
  subst e1 e2
  exact ⟨p.2.1,p.2.2,rfl,hp⟩
 have hget: ∀ p∈os,lkO (someO (os.map fun p=>(p.1,p.2.2))) p.1=some (some p.2.2):=fun p hp=>by
  have:=lkO_nodup (l:=someO (os.map fun p=>(p.1,p.2.2))) (p:=(p.1,some p.2.2)) (by
   unfold someO
   rw [List.map_map,List.map_map]
   exact n2) (by
   unfold someO
   rw [List.map_map]
   exact List.mem_map_of_mem (f:=fun p:Nat × Nat × AObj=>(p.1,some p.2.2)) hp)
  exact this
 have hρ: ∀ p∈os,renN (os.map fun p=>(p.1,p.2.1)) d p.1=p.2.1:=fun p hp=>renN_mem (x:=p.2.2) n2 hp
 let K':Ctx G:=⟨w,Vis K m s1.ob w,fun b=> ∃ p∈os,m.vd p.2.1=false∧m.g p.2.1=b⟩
 let mc:NM:=⟨fun i=>m.g (renN (os.map fun p=>(p.1,p.2.1)) d i),fun i=>m.N (renN (os.map fun p=>(p.1,p.2.1)) d i),fun i=>m.vd (renN (os.map fun p=>(p.1,p.2.1)) d i)⟩
 have hmc: ∀ p∈os,mc.g p.1=m.g p.2.1∧mc.N p.1=m.N p.2.1∧mc.vd p.1=m.vd p.2.1:=fun p hp=>⟨by show m.g _=_;rw [hρ p hp],by show m.N _=_;rw [hρ p hp],by show m.vd _=_;rw [hρ p hp]⟩
 have hoso: ∀ p∈os,s1.ob.own p.2.1:=fun p hp=>⟨_,(hos1 p hp).1,(hos1 p hp).2.1⟩
 have hvis: ∀ b,Vis K m s1.ob w b→Vis K' mc (lkO (someO (os.map fun p=>(p.1,p.2.2)))) w b:=fun b hb=>⟨.inl hb,hb.2.1,fun i ⟨x,hx,_⟩ hv e=>by
  obtain ⟨r,y,h1,h2⟩:=hmem i _ hx
  obtain ⟨k1,k2,k3⟩:=hmc _ h2
  exact hb.2.2 r (hoso _ h2) (by rw [← k3];exact hv) (by rw [← k1];exact e)⟩
 have hH0:HRel K' mc (lkO (someO (os.map fun p=>(p.1,p.2.2)))) w:=by
  refine ⟨fun i x hx=>?_,fun i i' ⟨x,hx,_⟩ ⟨x',hx',_⟩ hv hv' e=>?_,fun i ⟨x,hx,_⟩ hv=> .inl ?_,fun i x hx hfr=>?_,Ev.refl _ _,fun g cs hg=>(g1.heap.glob g cs hg).mono hvis (fun _ _=>rfl)⟩
  ·obtain ⟨r,y,h1,h2⟩:=hmem i _ hx
   injection h1 with h1
   subst h1
   obtain ⟨k1,k2,k3⟩:=hmc _ h2
   exact (g1.heap.obj r x (hos1 _ h2).1).data (hos1 _ h2).2.2 hvis k1 k2 k3
  ·obtain ⟨r, y,_,h2⟩:=hmem i _ hx
   obtain ⟨r',y',_,h2'⟩:=hmem i' _ hx'
   obtain ⟨k1,k2,k3⟩:=hmc _ h2
   obtain ⟨l1,l2,l3⟩:=hmc _ h2'
   have er:=g1.heap.dist r r' (hoso _ h2) (hoso _ h2') (by rw [← k3];exact hv) (by rw [← l3];exact hv') (by rw [← k1,← l1];exact e)
   subst er
   have h1: ∀ l:List (Nat × Nat × AObj),(l.map fun p=>p.2.1).Nodup→ ∀ p∈l,∀ q∈l,p.2.1=q.2.1→p=q:=by
    intro l
    induction l with
    | nil => intro _ p hp
             cases hp
    | cons x l ih =>
     intro hn p hp q hq e
     rw [List.map_cons,List.nodup_cons] at hn
     rcases List.mem_cons.1 hp with hp'|hp'<;>rcases List.mem_cons.1 hq with hq'|hq'
     ·rw [hp',hq']
     ·exact absurd (by rw [← hp',e];exact List.mem_map_of_mem (f:=fun p:Nat × Nat × AObj=>p.2.1) hq') hn.1
     ·exact absurd (by rw [← hq',← e];exact List.mem_map_of_mem (f:=fun p:Nat × Nat × AObj=>p.2.1) hp') hn.1
     ·exact ih hn.2 p hp' q hq' e
   have:=h1 os n1 _ h2 _ h2' rfl
   injection this
  ·obtain ⟨r,y,_,h2⟩:=hmem i _ hx
   obtain ⟨k1,k2,k3⟩:=hmc _ h2
   exact ⟨_,h2,by rw [← k3];exact hv,by rw [← k1]⟩
  ·obtain ⟨r,y,h1,h2⟩:=hmem i _ hx
   injection h1 with h1
   subst h1
   rw [(hos1 _ h2).2.1] at hfr
   cases hfr
 have hB: ∀ b,K'.B b→ ∃ i,(lkO (someO (os.map fun p=>(p.1,p.2.2)))).own i∧mc.vd i=false∧mc.g i=b:=fun b ⟨p,hp,h1,h2⟩=>by
  obtain ⟨k1,k2,k3⟩:=hmc p hp
  exact ⟨p.1,⟨_,hget p hp,(hos1 p hp).2.1⟩,by rw [k3];exact h1,by rw [k1];exact h2⟩
 have hargs: ∀ (i:Nat) x v,avs[i]?=some x→vs[i]?=some v→RA w (Vis K' mc (lkO (someO (os.map fun p=>(p.1,p.2.2)))) w) mc (lkO (someO (os.map fun p=>(p.1,p.2.2)))).dom x v:=by
  intro i x v hx hv
  have h1:=hav i x v hx hv
  unfold AvR at h1
  split at h1
  ·obtain ⟨r,y,h2,h3,rfl⟩:=h1
   obtain ⟨k1,k2,k3⟩:=hmc _ h2
   exact ⟨by show lkO _ _≠none;rw [hget _ h2];simp,by rw [k3];exact h3,by rw [k1]⟩
  ·obtain ⟨r,y,h2,A,c,rfl,h3,h4,h5⟩:=h1
   obtain ⟨k1,k2,k3⟩:=hmc _ h2
   exact ⟨by show lkO _ _≠none;rw [hget _ h2];simp,A,c,rfl,h3,h4,by rw [k1,k2,k3];exact h5⟩
  ·exact RD.mono hvis (fun _ _=>rfl) h1
  ·obtain ⟨ds,rfl,h2⟩:=h1
   refine ra_of_drd (x:= .g ds) ?_
   obtain ⟨us',e,hl',hcc⟩:=h2
   exact ⟨us',e,hl',fun i x v hx hv=>RD.mono hvis (fun _ _=>rfl) (hcc i x v hx hv)⟩
  ·exact h1.elim
 have hc:=hspec K' mc vs (fun b hb=>hb.2.1) hB hH0 hl hargs
 have fin: ∀ (H':List (Nat × Option AObj)) (w1:World) (m1:NM),(∀ p∈H',∀ x,p.2=some x→(dOnly x.cs).isSome=true)→(H'.map fun p=>renN (os.map fun p=>(p.1,p.2.1)) d p.1).Nodup→HRel K' m1 (lkO H') w1 →
   (∀ i,(lkO (someO (os.map fun p=>(p.1,p.2.2)))).dom i→(lkO H').dom i∧m1.g i=mc.g i∧m1.N i=mc.N i∧m1.vd i=mc.vd i)→_:=fun H' w1 m1 h1 h2 h3 h4 =>
  call_turn (K:=K) (s:=s1) (m:=m) (d:=d) (H':=H') (m1:=m1) g1.heap hos1 hf' n1 n2 h1 h2 h3 fun p hp=>by
   obtain ⟨k0,k1,k2,k3⟩:=h4 p.1 (by show lkO _ _≠none;rw [hget p hp];simp)
   obtain ⟨l1,l2,l3⟩:=hmc p hp
   exact ⟨k0,k1.trans l1,k2.trans l2,k3.trans l3⟩
 cases r with
 | ret v H' =>
  refine .done fun Q=>?_
  unfold Oper.wp
  rw [hexec,Oper.upon_enter]
  refine hc.mono fun en w1 ⟨m1,hH1,hag,u,hen,hv⟩=>?_
  subst hen
  obtain ⟨m2,t,hrel,hvv,hnm⟩:=fin H' w1 m1 hdat n3 hH1 hag
  refine ⟨m2,?_⟩
  have:=g1.turn (dst:=o.dst) t hrel hd (hv.ren hvv hnm)
  rw [hs1s,hs1o] at this
  show Rel K F m2 ⟨putS s.sl o.dst _,updO s.ob (U++_)⟩ _ _
  rw [updO_append]
  exact this
 | pan v H' =>
  refine .pan ?_
  show o.wp P a w _ _
  unfold Oper.wp
  rw [hexec,Oper.upon_enter]
  refine hc.mono fun en w1 ⟨m1,hH1,hag,hen⟩=>?_
  have hen:en= .panicked [{ v,recovered:=false }]:=hen
  subst hen
  obtain ⟨m2,t,hrel,hvv,hnm⟩:=fin H' w1 m1 hdat n3 hH1 hag
  refine ⟨rfl,m2,?_⟩
  have:=g1.turn (dst:=none) (v:= .bot) (u:=undef) t hrel (fun _ e=>by cases e) trivial
  rw [hs1s,hs1o] at this
  rw [updO_append]
  exact this
theorem ok_callO {f:FuncId} {fo:Operand} {caps:List D} {us:List Value} {args:Array Operand} {tys:Array TypeId} {own:List Nat} (hR:Rel K F m s a w) (hd: ∀ d,o.dst=some d→d<F.n) (ho:o.op= .call { callee:= .value fo,args:=args,argTypes:=tys })
  (hca:args.all constOk=true) (hfn:funcOk P f=true) (hu:a.eval fo= .func (.func f) #[] us.toArray) (hcp:CapsR K m s w caps us):QOk P K F s o a w (callO P G o.dst f caps own (args.toList.map (evl G s.sl))):=by
 unfold callO
 split
 ·exact .fail
 rename_i d hdd
 refine ok_ownArgs (us:=args.toList.map a.eval) hR (by simp) (args_at hR hca) fun avs os U hos hcv=> .new fun hf=> .any fun r=> .need fun hspec=> .need fun ⟨n1,n2,n4',hdat',n3⟩=>?_
 refine callO_tail (vs:=args.toList.map a.eval++us) hR hd (run_enter ho hfn hu) hos ?_ hf hspec n1 n2 n4' hdat' n3 hdd
 have h9:=(hcv.and hcp.cv).mono (R':=fun S=>(args.toList.map a.eval++us).length=(avs++caps.map fun x=>AV.c (C.d x)).length∧ ∀ (i:Nat) x v,(avs++caps.map fun x=>AV.c (C.d x))[i]?=some x→(args.toList.map a.eval++us)[i]?=some v→AvR w m os S x v) fun S ⟨⟨hl,hav⟩,hcl,hcc⟩=>by
  refine ⟨by simp [← hl,hcp.1],fun i x v hx hv=>?_⟩
  rw [List.getElem?_append] at hx hv
  rw [hl] at hv
  split at hx
  ·rename_i hi
   rw [if_pos hi] at hv
   exact hav i x v hx hv
  ·rename_i hi
   rw [if_neg hi] at hv
   rw [List.getElem?_map] at hx
   cases hq:caps[i-avs.length]? with
   | none=>rw [hq] at hx;cases hx
   | some q =>
    rw [hq] at hx
    simp at hx
    subst hx
    exact av_data (y:= .c q) (hcc _ _ v (by rw [List.getElem?_map,hq];rfl) hv)
 rwa [List.append_nil] at h9
theorem goal_call {f:FuncId} {ds:List DV} {r:DR} {U:List (Nat × Option AObj)} {vs:List Value} (hR:Rel K F m s a w) (hd: ∀ d,o.dst=some d→d<F.n) (hexec:(execOp a.eval o).run P w= .ok (.enter f vs.toArray) w)
  (hspec:Spec P G f ds r) (hcv:CvOk K m s w U (fun S=>DArgs w S ds vs)):QOk P K F s o a w (r.out o.dst U):=by
 cases hr:r.plain with
 | true=>exact goal_call0 hR hd hexec hr (hspec.get0 hr) hcv
 | false =>
  cases r with
  | obj r0 v ob =>
   unfold DR.out
   dsimp only
   split
   ·rename_i d hdd
    refine .new fun hf=> .need fun hdat=>?_
    have h9:=callO_tail (os:=[]) (r:= .ret v [(r0,some ob)]) (d:=d) hR hd hexec (fun p hp=>by cases hp) (hcv.mono fun S ⟨h1,h2⟩=>⟨by rw [List.length_map];exact h1,fun i x v hx hv=>by
     rw [List.getElem?_map] at hx
     cases hq:ds[i]? with
     | none=>rw [hq] at hx;cases hx
     | some q =>
      rw [hq] at hx
      simp at hx
      subst hx
      exact av_data (h2 i q v hq hv)⟩) hf hspec List.nodup_nil List.nodup_nil (by
      have: ∀ l:List (Nat × Option AObj),offN [] l:=fun l=>by
       induction l with
       | nil=>trivial
       | cons p l ih=>exact ⟨rfl,ih⟩
      exact this U) ⟨hdat,trivial⟩ (List.nodup_cons.2 ⟨fun h=>by simp [OutO.hp] at h,by simp [OutO.hp]⟩) hdd
    exact h9
   ·exact .fail
  | _=>cases hr
theorem ok_callP {f:FuncId} {fo:Operand} {caps:List D} {us:List Value} {args:Array Operand} {tys:Array TypeId} (hR:Rel K F m s a w) (hd: ∀ d,o.dst=some d→d<F.n) (ho:o.op= .call { callee:= .value fo,args:=args,argTypes:=tys })
  (hca:args.all constOk=true) (hfn:funcOk P f=true) (hu:a.eval fo= .func (.func f) #[] us.toArray) (hcp:CapsR K m s w caps us):QOk P K F s o a w (callP P G o.dst f caps (args.toList.map (evl G s.sl))):=by
 refine ok_cvArgs (us:=args.toList.map a.eval) hR (by simp) (args_at hR hca) fun ds U hcv=> .any fun r=> .need fun hspec=>?_
 refine goal_call hR hd (run_enter ho hfn hu) hspec ?_
 have:=(hcv.and hcp.cv).mono (R':=fun S=>DArgs w S (ds++caps.map DV.c) (args.toList.map a.eval++us)) fun S ⟨h1,h2⟩=>h1.app h2
 rwa [List.append_nil] at this
theorem flat_rd {w w1:World} {S S':Nat→Prop} {x:D} {u:Value} (hx:x.flat=true) (h:RD w S x u):RD w1 S' x u:=by
 cases h with
 | v u h=>exact .v u h
 | _=>cases hx
theorem flat_drd {w w1:World} {S S':Nat→Prop} {x:DV} {u:Value} (hx:x.flat=true) (h:DRd w S x u):DRd w1 S' x u:=by
 cases x with
 | c x=>exact flat_rd hx h
 | g cs =>
  obtain ⟨us,rfl,hl,hc⟩:=h
  exact ⟨us,rfl,hl,fun i x v hi hv=>flat_rd (List.all_eq_true.1 hx x (List.mem_of_getElem? hi)) (hc i x v hi hv)⟩
theorem goal_lend0 {f:FuncId} {ds:List DV} {r:DR} {U:List (Nat × Option AObj)} {vs:List Value} (hR:Rel K F m s a w) (hd: ∀ d,o.dst=some d→d<F.n) (hexec:(execOp a.eval o).run P w= .ok (.enter f vs.toArray) w)
  (hp:r.plain=true) (hspec:Spec0 P G f ds r) (hfl:r.flat=true) (hcv:CvOk K m s w U (fun S=>DArgs w S ds vs)):QOk P K F s o a w (r.out o.dst []):=by
 obtain ⟨hf1,hf2⟩:=hcv
 obtain ⟨g1,g2,g3,_⟩:=Rel.freezeAll (s:=s) U s hR rfl (fun r x hx=> .inl hx) hf1 (fun b hb=>hb)
 have hargs:=hf2 _ g1.heap g2 g3
 have hc:=hspec w (Vis K m (updO s.ob U) w) vs (fun b hb=>hb.2.1) (fun g cs hg=>g1.heap.glob g cs hg) hargs
 clear g1 g2 g3 hargs
 have ret: ∀ (v:SV) (u:Value) (w1:World),Ev (fun _=>False) w w1→RS w1 (Vis K m s.ob w1) m s.ob.dom v u→ ∃ m',Rel K F m' (s.app o.dst v []) (a.put o.dst u) w1:=fun v u w1 he hv=>⟨m,hR.later he hd hv⟩
 cases r with
 | one x =>
  refine .done fun Q=>?_
  unfold Oper.wp
  rw [hexec,Oper.upon_enter]
  refine hc.mono fun en w1 ⟨he,u,hen,hx⟩=>?_
  subst hen
  exact ret _ u w1 he (ra_of_drd (flat_drd hfl hx))
 | many l =>
  refine .done fun Q=>?_
  unfold Oper.wp
  rw [hexec,Oper.upon_enter]
  refine hc.mono fun en w1 ⟨he,us,hen,hl,hx⟩=>?_
  subst hen
  refine ret _ _ w1 he ⟨us,rfl,by simpa using hl,fun i x v hx' hv=>?_⟩
  rw [List.getElem?_map] at hx'
  cases hq:l[i]? with
  | none=>rw [hq] at hx';cases hx'
  | some q =>
   rw [hq] at hx'
   simp at hx'
   subst hx'
   exact ra_of_drd (flat_drd (List.all_eq_true.1 hfl q (List.mem_of_getElem? hq)) (hx i q v hq hv))
 | pan v =>
  refine .pan ?_
  show o.wp P a w _ _
  unfold Oper.wp
  rw [hexec,Oper.upon_enter]
  refine hc.mono fun en w1 ⟨he,hen⟩=>?_
  have hen:en= .panicked [{ v,recovered:=false }]:=hen
  subst hen
  obtain ⟨m',hr⟩:=(⟨m,hR.later (dst:=none) (v:= .bot) (u:=undef) he (fun _ e=>by cases e) trivial⟩: ∃ m',Rel K F m' (s.app none .bot []) (a.put none undef) w1)
  exact ⟨rfl,m',hr⟩
 | obj=>cases hp
theorem goal_lend {f:FuncId} {ds:List DV} {r:DR} {U:List (Nat × Option AObj)} {vs:List Value} (hR:Rel K F m s a w) (hd: ∀ d,o.dst=some d→d<F.n) (hexec:(execOp a.eval o).run P w= .ok (.enter f vs.toArray) w)
  (hspec:Spec P G f ds r) (hfl:r.flat=true) (hcv:CvOk K m s w U (fun S=>DArgs w S ds vs)):QOk P K F s o a w (r.out o.dst []):=by
 cases hr:r.plain with
 | true=>exact goal_lend0 hR hd hexec hr (hspec.get0 hr) hfl hcv
 | false =>
  cases r with
  | obj r0 v ob =>
   unfold DR.out
   dsimp only
   split
   ·rename_i d hdd
    refine .new fun hf=> .need fun hdat=>?_
    simp only [DR.flat,Bool.and_eq_true,Bool.not_eq_true'] at hfl
    obtain ⟨hvr,hfr,hcl⟩:=hfl
    obtain ⟨hf1,hf2⟩:=hcv
    obtain ⟨g1,g2,g3,_⟩:=Rel.freezeAll (s:=s) U s hR rfl (fun r x hx=> .inl hx) hf1 (fun b hb=>hb)
    obtain ⟨hl,hA⟩:=hf2 _ g1.heap g2 g3
    let K':Ctx G:=⟨w,Vis K m (updO s.ob U) w,fun _=>False⟩
    have hvis: ∀ b,Vis K m (updO s.ob U) w b→Vis K' m (lkO (someO [])) w b:=fun b hb=>⟨.inl hb,hb.2.1,fun i ⟨x,hx,_⟩=>by cases hx⟩
    have hH0:HRel K' m (lkO (someO [])) w:=⟨fun i x hx=>(by cases hx),fun i i' ⟨x,hx,_⟩=>(by cases hx),fun i ⟨x,hx,_⟩=>(by cases hx),fun i x hx=>(by cases hx),Ev.refl _ _,fun g cs hg=>(g1.heap.glob g cs hg).mono hvis (fun _ _=>rfl)⟩
    have hc:=(show SpecO P G f (ds.map DV.av) [] (.ret v [(r0,some ob)]) from hspec) K' m vs (fun b hb=>hb.2.1) (fun b hb=>hb.elim) hH0 (by rw [List.length_map];exact hl) (fun i x u hx hu=>by
     rw [List.getElem?_map] at hx
     cases hq:ds[i]? with
     | none=>rw [hq] at hx;cases hx
     | some q =>
      rw [hq] at hx
      simp at hx
      subst hx
      have h1:=hA i q u hq hu
      refine ra_of_drd ?_
      cases q with
      | c q=>exact RD.mono hvis (fun _ _=>rfl) h1
      | g cs =>
       obtain ⟨us,e,hl2,hcc⟩:=h1
       exact ⟨us,e,hl2,fun j y z hy hz=>RD.mono hvis (fun _ _=>rfl) (hcc j y z hy hz)⟩)
    clear hA hf2 g2 g3
    refine .done fun Q=>?_
    unfold Oper.wp
    rw [hexec,Oper.upon_enter]
    refine hc.mono fun en w1 ⟨m1,hH1,_,u,hen,hv⟩=>?_
    subst hen
    have hown: ∀ r,(lkO [(r0,some ob)]).own r→r=r0:=fun r ⟨x,hx,_⟩=>by
     have:=lkO_mem hx
     simp at this
     exact this.1
    have hlt: ∀ r,(lkO [(r0,some ob)]).own r→m1.vd r=false→w.heap.size≤m1.g r:=fun r hr hv=>(hH1.loc r hr hv).resolve_left id
    have hH2:HRel (⟨w,Vis K m s.ob w,fun b=> ∃ p∈([]:List (Nat × Nat × AObj)),m.vd p.2.1=false∧m.g p.2.1=b⟩:Ctx G) m1 (lkO [(r0,some ob)]) w1:=by
     refine ⟨fun r x hx=>?_,hH1.dist,fun r hr hv=> .inr (hlt r hr hv),fun r x hx hf'=>?_,⟨hH1.ev.os,hH1.ev.tape,hH1.ev.output,hH1.ev.size,fun k hk _=>hH1.ev.block k hk id⟩,fun g cs hg=>(hR.heap.glob g cs hg).mono (fun b hb=>⟨.inl hb,Nat.lt_of_lt_of_le hb.2.1 hH1.ev.size,fun r hr hv e=>?_⟩) (fun b hb=>hH1.ev.block b hb.2.1 id)⟩
     ·have hx2:=lkO_mem hx
      simp at hx2
      obtain ⟨rfl,rfl⟩:=hx2
      rcases (hH1.obj r x hx).row with h1|⟨h1,arr,h2,h3,h4,h5,h6⟩
      ·exact ⟨.inl h1⟩
      ·refine ⟨.inr ⟨h1,arr,h2,h3,h4,h5,fun i y hy=>?_⟩⟩
       obtain ⟨z,hz,hyz⟩:=h6 i y hy
       refine ⟨z,hz,?_⟩
       have hfy:=List.all_eq_true.1 hcl y (List.mem_of_getElem? hy)
       cases y with
       | d y=>exact flat_rd hfy hyz
       | _=>cases hfy
     ·have hx2:=lkO_mem hx
      simp at hx2
      obtain ⟨rfl,rfl⟩:=hx2
      rw [hfr] at hf'
      cases hf'
     ·have:=hlt r hr hv
      have:=hb.2.1
      omega
    have hv2:RS w1 (Vis (⟨w,Vis K m s.ob w,fun b=> ∃ p∈([]:List (Nat × Nat × AObj)),m.vd p.2.1=false∧m.g p.2.1=b⟩:Ctx G) m1 (lkO [(r0,some ob)]) w1) m1 (lkO [(r0,some ob)]).dom v u:=by
     cases v with
     | a x =>
      cases x with
      | c x =>
       cases x with
       | ptr r off=>exact hv
       | row r sz off n cap=>exact hv
       | _=>cases hvr
      | agg cs=>cases hvr
     | _=>cases hvr
    obtain ⟨m2,t,hrel,hvv,hnm⟩:=call_turn (K:=K) (s:=s) (m:=m) (d:=d) (os:=[]) (H':=[(r0,some ob)]) (m1:=m1) hR.heap (fun p hp=>by cases hp) hf List.nodup_nil List.nodup_nil (fun p hp x hx=>by
     simp at hp
     subst hp
     cases hx
     exact hdat) (List.nodup_cons.2 ⟨fun h=>by simp at h,by simp⟩) hH2 (fun p hp=>by cases hp)
    refine ⟨m2,?_⟩
    have:=hR.turn (dst:=o.dst) t hrel hd (hv2.ren hvv hnm)
    exact this
   ·exact .fail
  | _=>cases hr
theorem ok_callL {f:FuncId} {fo:Operand} {caps:List D} {us:List Value} {args:Array Operand} {tys:Array TypeId} (hR:Rel K F m s a w) (hd: ∀ d,o.dst=some d→d<F.n) (ho:o.op= .call { callee:= .value fo,args:=args,argTypes:=tys })
  (hca:args.all constOk=true) (hfn:funcOk P f=true) (hu:a.eval fo= .func (.func f) #[] us.toArray) (hcp:CapsR K m s w caps us):QOk P K F s o a w (callL P G o.dst f caps (args.toList.map (evl G s.sl))):=by
 refine ok_cvArgs (us:=args.toList.map a.eval) hR (by simp) (args_at hR hca) fun ds U hcv=> .any fun r=> .need fun hspec=> .need fun hfl=>?_
 refine goal_lend (U:=U++[]) hR hd (run_enter ho hfn hu) hspec hfl ?_
 exact (hcv.and hcp.cv).mono (R':=fun S=>DArgs w S (ds++caps.map DV.c) (args.toList.map a.eval++us)) fun S ⟨h1,h2⟩=>h1.app h2
theorem ok_callX {f:FuncId} {fo:Operand} {caps:List D} {us:List Value} {args:Array Operand} {tys:Array TypeId} (hR:Rel K F m s a w) (hd: ∀ d,o.dst=some d→d<F.n) (ho:o.op= .call { callee:= .value fo,args:=args,argTypes:=tys })
  (hca:args.all constOk=true) (hfn:funcOk P f=true) (hu:a.eval fo= .func (.func f) #[] us.toArray) (hcp:CapsR K m s w caps us):QOk P K F s o a w (callX P G o.dst f caps (args.toList.map (evl G s.sl))):=by
 unfold callX
 split
 ·refine .any fun own=>?_
  split
  ·split
   ·exact ok_callL hR hd ho hca hfn hu hcp
   ·exact ok_callO hR hd ho hca hfn hu hcp
  ·exact ok_callP hR hd ho hca hfn hu hcp
 ·exact ok_callP hR hd ho hca hfn hu hcp
theorem plain_ok {S:Nat→Prop} {dom:Nat→Prop}: ∀ {xs:List SV} {vs us:List Value},plainS xs=some vs→us.length=xs.length→(∀ (i:Nat) x v,xs[i]?=some x→us[i]?=some v→RS w S m dom x v)→us=vs
 | [],vs,us,h,hl,_=>by
  cases us with
  | nil=>injection h
  | cons=>cases hl
 | x :: xs,vs,us,h,hl,hv=>by
  cases us with
  | nil=>cases hl
  | cons u us =>
   have key: ∀ u',x= .a (.c (.d (.v u')))→u::us=vs:=by
    rintro u' rfl
    simp only [plainS] at h
    obtain ⟨ws,hw,rfl⟩:=Option.map_eq_some_iff.1 h
    have h1:=rs_v (hv 0 _ u rfl rfl)
    have h2:us=ws:=plain_ok hw (by simpa using hl) fun i x v hx hv'=>hv (i+1) x v (by simpa using hx) (by simpa using hv')
    rw [h1,h2]
   cases x with
   | a y =>
    cases y with
    | c z =>
     cases z with
     | d t =>
      cases t with
      | v u'=>exact key u' rfl
      | _=>simp [plainS] at h
     | _=>simp [plainS] at h
    | _=>simp [plainS] at h
   | _=>simp [plainS] at h
theorem ok_ext {f:FuncId} {fo:Operand} {args:Array Operand} {tys:Array TypeId} (hR:Rel K F m s a w) (hd: ∀ d,o.dst=some d→d<F.n) (ho:o.op= .call { callee:= .value fo,args:=args,argTypes:=tys })
  (hca:args.all constOk=true) (hu:a.eval fo= .func (.func f) #[] #[]):QOk P K F s o a w (extQ P f (args.toList.map (evl G s.sl))):=by
 unfold extQ
 split
 ·rename_i vs hp
  refine .any fun us=> .need fun ⟨h1,h2⟩=> .done fun Q=>?_
  have hvs:args.toList.map a.eval=vs:=plain_ok hp (by simp) (args_at hR hca)
  have hrun:(execOp a.eval o).run P w= .ok (.value (.tuple us.toArray)) w:=by
   have e:(args.toList.map a.eval).toArray=args.map a.eval:=by simp [← Array.toList_map]
   rw [← h2 w,← hvs,e]
   simp only [execOp,ho,resolve,Deferred.ofValue,hu,Sem.run_bind,Sem.run_pure,Result.andThen_ok,invoke]
   try simp
  unfold Oper.wp
  rw [hrun]
  refine ⟨m,hR.put hd ⟨us,rfl,by simp,fun i x v hx hv=>?_⟩⟩
  rw [List.getElem?_map] at hx
  cases hq:us[i]? with
  | none=>rw [hq] at hx;cases hx
  | some q =>
   rw [hq] at hx hv
   simp at hx hv
   subst hx hv
   exact RD.v _ (List.all_eq_true.1 h1 _ (List.mem_of_getElem? hq))
 ·exact .fail
theorem ok_call {f:Operand} {args:Array Operand} {tys:Array TypeId} (hR:Rel K F m s a w) (hd: ∀ d,o.dst=some d→d<F.n) (ho:o.op= .call { callee:= .value f,args:=args,argTypes:=tys }) (hcf:constOk f=true) (hca:args.all constOk=true) :
  QOk P K F s o a w (callQ P G o.dst (evl G s.sl f) (args.toList.map (evl G s.sl))):=by
 have hv:=evl_ok hR f hcf
 unfold callQ
 split
 ·rename_i fn x0 y0 e
  rw [e] at hv
  have hu:=rs_v hv
  split
  ·rename_i hfn
   refine .need fun ⟨hx0,hy0⟩=>?_
   subst hx0 hy0
   exact ok_callX (us:=[]) hR hd ho hca hfn hu ⟨rfl,fun i x u hx=>by simp at hx⟩
  ·refine .need fun ⟨hx0,hy0⟩=>?_
   subst hx0 hy0
   exact ok_ext hR hd ho hca hu
 ·rename_i fn caps e
  rw [e] at hv
  have hv:RD w (Vis K m s.ob w) (.fn fn caps) (a.eval f):=hv
  generalize hq:a.eval f=u at hv
  cases hv with
  | fn _ _ us hl h=>exact .need fun hfn=>ok_callX hR hd ho hca hfn hq ⟨hl,h⟩
 ·rename_i fn caps e
  rw [e] at hv
  obtain ⟨hu,hn⟩:RC w (Vis K m s.ob w) m s.ob.dom (.fn fn caps) (a.eval f):=hv
  refine .need fun hfn=>ok_cvCaps hR hn fun cs V hcs=>ok_cvArgs (us:=args.toList.map a.eval) hR (by simp) (args_at hR hca) fun ds U hcv=> .any fun r=> .need fun hspec=>?_
  refine goal_call hR hd (run_enter ho hfn hu) hspec ?_
  refine (hcs.and hcv).mono fun S ⟨⟨h1,h2⟩,h3⟩=>h3.app ⟨by simp [h1],fun i x v hx hv=>?_⟩
  rw [List.getElem?_map] at hx hv
  cases hq:cs[i]? with
  | none=>rw [hq] at hx;cases hx
  | some q =>
   cases hq2:caps[i]? with
   | none=>rw [hq2] at hv;cases hv
   | some p =>
    rw [hq] at hx
    rw [hq2] at hv
    simp at hx hv
    subst hx hv
    exact h2 i q p hq hq2
 ·exact .fail
end
section
variable {G:Nat→Option (List D)} {P:Program} {K:Ctx G} {F:Fr} {s:FSt} {o:Oper} {a:Act} {w w':World} {m:NM}
theorem mapM_some {α β:Type} {f:α→Option β}: ∀ {l:List α} {ys:List β},l.mapM f=some ys→ys.length=l.length∧ ∀ (i:Nat) x y,l[i]?=some x→ys[i]?=some y→f x=some y
 | [],ys,h=>by
  simp at h
  subst h
  exact ⟨rfl,fun i x y hx=>by simp at hx⟩
 | x :: l,ys,h=>by
  simp only [List.mapM_cons,Option.bind_eq_bind,Option.pure_def] at h
  cases hx:f x with
  | none=>rw [hx] at h;cases h
  | some y =>
   rw [hx] at h
   cases hl:l.mapM f with
   | none=>rw [hl] at h;cases h
   | some zs =>
    rw [hl] at h
    simp at h
    subst h
    obtain ⟨h1,h2⟩:=mapM_some hl
    refine ⟨by simp [h1],fun i a b ha hb=>?_⟩
    cases i with
    | zero =>
     simp at ha hb
     subst ha hb
     exact hx
    | succ i=>exact h2 i a b (by simpa using ha) (by simpa using hb)
theorem ok_makeFn {f:FuncId} {caps:Array Operand} (hR:Rel K F m s a w) (hd: ∀ d,o.dst=some d→d<F.n) (hx:execOp a.eval o=(do pure (Next.value (← Instr.makeFunc (.func f) #[] (caps.map a.eval))))) (hca:caps.all constOk=true):QOk P K F s o a w (makeFnQ f (caps.toList.map (evl G s.sl))):=by
 have hv:=args_at hR hca
 have hr:(Instr.makeFunc (.func f) #[] (caps.map a.eval)).run P w= .ok (.func (.func f) #[] (caps.toList.map a.eval).toArray) w:=by
  have e:caps.map a.eval=(caps.toList.map a.eval).toArray:=by
   apply Array.ext'
   simp
  rw [e]
  rfl
 unfold makeFnQ
 split
 ·rename_i ps hps
  obtain ⟨h1,h2⟩:=mapM_some hps
  have key: ∀ (i:Nat) p u,ps[i]?=some p→(caps.toList.map a.eval)[i]?=some u→s.ob.dom p.1∧m.vd p.1=false∧u= .pointer (some ⟨m.g p.1,p.2,none⟩):=fun i p u hp hu=>by
   have hlt:i<(caps.toList.map (evl G s.sl)).length:=by
    rw [← h1]
    exact (List.getElem?_eq_some_iff.1 hp).1
   have hx:=List.getElem?_eq_getElem hlt
   generalize (caps.toList.map (evl G s.sl))[i]=x at hx
   have h3:=h2 i x p hx hp
   have h4:=hv i x u hx hu
   split at h3
   ·injection h3 with h3
    subst h3
    exact rs_ptr h4
   ·cases h3
  refine ok_val hR hd hx hr ⟨?_,fun p hp=>?_⟩
  ·congr 2
   apply List.ext_getElem?
   intro i
   rw [List.getElem?_map (l:=ps)]
   cases hp:ps[i]? with
   | none =>
    have:(caps.toList.map a.eval).length≤i:=by
     have:=List.getElem?_eq_none_iff.1 hp
     simp at h1 ⊢
     omega
    rw [List.getElem?_eq_none this]
    rfl
   | some p =>
    have hlt:i<(caps.toList.map a.eval).length:=by
     have:=(List.getElem?_eq_some_iff.1 hp).1
     simp at h1 ⊢
     omega
    rw [List.getElem?_eq_getElem hlt,(key i p _ hp (List.getElem?_eq_getElem hlt)).2.2]
    rfl
  ·obtain ⟨i,hi⟩:=List.getElem?_of_mem hp
   have hlt:i<(caps.toList.map a.eval).length:=by
    have:=(List.getElem?_eq_some_iff.1 hi).1
    simp at h1 ⊢
    omega
   obtain ⟨k1,k2,_⟩:=key i p _ hi (List.getElem?_eq_getElem hlt)
   exact ⟨k1,k2⟩
 ·split
  ·rename_i ds hds
   obtain ⟨h1,h2⟩:=mapM_some hds
   refine ok_val hR hd hx hr (RD.fn f ds _ (by simp at h1 ⊢;omega) fun i y u hy hu=>?_)
   have hlt:i<(caps.toList.map (evl G s.sl)).length:=by
    rw [← h1]
    exact (List.getElem?_eq_some_iff.1 hy).1
   have hx:=List.getElem?_eq_getElem hlt
   generalize (caps.toList.map (evl G s.sl))[i]=x at hx
   have h3:=h2 i x y hx hy
   have h4:=hv i x u hx hu
   split at h3
   ·injection h3 with h3
    subst h3
    exact h4
   ·cases h3
  ·exact .fail
end
section
variable {G:Nat→Option (List D)} {P:Program} {K:Ctx G} {F:Fr} {s:FSt} {o:Oper} {a:Act} {w w':World} {m:NM}
theorem constOk_any (x:Operand) (h: ∀ us,x≠ .const (.agg us)):constOk x=true:=by
 cases x with
 | const v=>cases v<;>first|rfl|exact absurd rfl (h _)
 | _=>rfl
theorem const_or (x:Operand):constOk x=true∨ ∃ us,x= .const (.agg us):=by
 by_cases h: ∃ us,x= .const (.agg us)
 ·exact .inr h
 ·exact .inl (constOk_any x fun us e=>h ⟨us,e⟩)
theorem evl_agg (us:Array Value):evl G s.sl (.const (.agg us))= .a (.agg (us.toList.map cvC)):=rfl
theorem run_iface {t:TypeId} {u:Value} (h:nonIface P t=true):(Instr.makeInterface t u).run P w= .ok (.iface t u) w:=by
 unfold nonIface at h
 unfold Instr.makeInterface
 cases hu:P.underlying t with
 | none=>rw [hu] at h;cases h
 | some k =>
  rw [hu] at h
  rw [Sem.run_bind,run_underlying hu]
  cases k<;>first|rfl|cases h
theorem ok_iface {t:TypeId} {x:Operand} (hR:Rel K F m s a w) (hd: ∀ d,o.dst=some d→d<F.n) (hx:execOp a.eval o=(do pure (Next.value (← Instr.makeInterface t (a.eval x))))) (hcx:constOk x=true):QOk P K F s o a w (ifaceQ P t (evl G s.sl x)):=by
 have hv:=evl_ok hR x hcx
 unfold ifaceQ
 split
 ·rename_i u e
  rw [e] at hv
  refine .need fun h=>?_
  have hu:a.eval x=u:=rs_v hv
  rw [hu] at hx
  exact ok_val hR hd hx (run_iface h) (.v _ rfl)
 ·rename_i cs e
  rw [e] at hv
  split
  ·rename_i us hus
   refine .need fun h=>?_
   obtain ⟨vs,hu,hl,hc⟩:=hv
   have hvs:=valsOf_rc hus hl hc
   subst hvs
   rw [hu] at hx
   exact ok_val hR hd hx (run_iface h) (.v _ rfl)
  ·exact .fail
 ·exact .fail
theorem ok_panic {x:Operand} (hR:Rel K F m s a w) (hx:execOp a.eval o=(do pure (Next.value (← Instr.panic (a.eval x))))) (hcx:constOk x=true):QOk P K F s o a w (panicQ (evl G s.sl x)):=by
 have hv:=evl_ok hR x hcx
 unfold panicQ
 split
 ·rename_i t u e
  rw [e] at hv
  have hu:a.eval x= .iface t u:=rs_v hv
  rw [hu] at hx
  refine .pan ?_
  show o.wp P a w _ _
  unfold Oper.wp
  rw [hx]
  exact ⟨rfl,m,hR⟩
 ·exact .fail
theorem aop_sound (hR:Rel K F m s a w) (hd: ∀ d,o.dst=some d→d<F.n):QOk P K F s o a w (aop P G (evl G s.sl) o):=by
 obtain ⟨dst,op,type,pos,after,guard⟩:=o
 have agg: ∀ (x:Operand) (q:SV→Q),(∀ us,q (.a (.agg us))= .fail)→(constOk x=true→QOk P K F s ⟨dst,op,type,pos,after,guard⟩ a w (q (evl G s.sl x)))→QOk P K F s ⟨dst,op,type,pos,after,guard⟩ a w (q (evl G s.sl x)):=fun x q h1 h2=>by
  rcases const_or x with h|⟨us,rfl⟩
  ·exact h2 h
  ·rw [evl_agg,h1]
   exact .fail
 unfold aop
 cases op
 case move x=>exact .need fun h=>ok_move hR hd rfl h
 case assign x=>exact .need fun h=>ok_move hR hd rfl h
 case pick c x y =>
  dsimp only
  split
  ·rename_i e
   refine .need fun h=>?_
   have hc:constOk c=true:=(const_or c).elim id fun ⟨us,h⟩=>by rw [h,evl_agg] at e;cases e
   have hv:=evl_ok hR c hc
   rw [e] at hv
   refine ok_move hR hd ?_ h
   simp only [execOp,rs_v hv,asBool]
   rfl
  ·rename_i e
   refine .need fun h=>?_
   have hc:constOk c=true:=(const_or c).elim id fun ⟨us,h⟩=>by rw [h,evl_agg] at e;cases e
   have hv:=evl_ok hR c hc
   rw [e] at hv
   refine ok_move hR hd ?_ h
   simp only [execOp,rs_v hv,asBool]
   rfl
  ·exact .fail
 case alloc t=>exact .need fun h=>ok_alloc hR hd rfl h
 case box t x=>exact .need fun h=>ok_box hR hd rfl h
 case build t parts=>exact .need fun h=>ok_build hR hd rfl h
 case buildSlice t len parts=>exact .need fun h=>ok_buildSlice hR hd rfl h
 case load t x=>exact agg x (loadQ P t) (fun _=>rfl) fun h=>ok_load hR hd rfl h
 case store t x y=>exact .need fun h=>agg x (fun v=>storeQ P t v (evl G s.sl y)) (fun us=>by unfold storeQ;split<;>first|rfl|(rename_i e _;cases e)) fun hx=>ok_store hR hd rfl hx h
 case nilCheck x=>exact agg x nilCheckQ (fun _=>rfl) fun h=>ok_nilCheck hR hd rfl h
 case binOp op t x y t2=>exact .need fun ⟨h1,h2⟩=>ok_binOp hR hd rfl h1 h2
 case unOp op t x=>exact agg x (unQ op) (fun us=>by cases op<;>rfl) fun h=>ok_unOp hR hd rfl h
 case convert sr ds x=>exact agg x (convQ P sr ds) (fun _=>rfl) fun h=>ok_conv hR hd rfl h
 case sliceToArrayPointer t x=>exact agg x (arrPtrQ P t) (fun us=>by unfold arrPtrQ;split<;>first|rfl|(rename_i e;cases e)) fun h=>ok_arrPtr hR hd rfl h
 case makeFunc fn first caps =>
  cases fn with
  | func f =>
   refine .need fun ⟨h1,h2⟩=>?_
   subst h1
   exact ok_makeFn hR hd (by simp only [execOp,List.map_toArray,List.map_nil]) h2
  | _=>exact .fail
 case makeSlice t l c=>exact agg l (fun v=>makeQ P dst t v (evl G s.sl c)) (fun _=>rfl) fun h1=>agg c (fun v=>makeQ P dst t (evl G s.sl l) v) (fun us=>by unfold makeQ;split<;>first|rfl|(rename_i _ e;cases e)) fun h2=>ok_make hR hd rfl h1 h2
 case slice t x lo hi mx =>
  cases mx with
  | some y=>exact .fail
  | none =>
   refine agg x (fun v=>sliceQ P t v (lo.map (evl G s.sl)) (hi.map (evl G s.sl))) (fun _=>rfl) fun h=>?_
   have bad: ∀ (y:Option Operand) us,y=some (.const (.agg us))→ ∀ d k,bndQ (y.map (evl G s.sl)) d k= .fail:=by
    rintro y us rfl d k
    rfl
   by_cases hl: ∃ us,lo=some (.const (.agg us))
   ·obtain ⟨us,rfl⟩:=hl
    have:sliceQ P t (evl G s.sl x) (Option.map (evl G s.sl) (some (.const (.agg us)))) (hi.map (evl G s.sl))= .fail:=by
     unfold sliceQ
     split<;>first|rfl|(split<;>rfl)
    rw [this]
    exact .fail
   ·have hcl: ∀ y,lo=some y→constOk y=true:=fun y e=>constOk_any y fun us e2=>hl ⟨us,by rw [e,e2]⟩
    by_cases hh: ∃ us,hi=some (.const (.agg us))
    ·obtain ⟨us,rfl⟩:=hh
     unfold sliceQ
     split<;>first
      | exact .fail
      | (exact ok_bnd hR hcl fun l hl=> .fail)
      | (split<;>first|exact .fail|(exact ok_bnd hR hcl fun l hl=> .fail))
    ·exact ok_slice hR hd rfl h hcl fun y e=>constOk_any y fun us e2=>hh ⟨us,by rw [e,e2]⟩
 case fieldAddr t x f=>exact agg x (fun v=>fieldAddrQ P t v f) (fun _=>rfl) fun h=>ok_fieldAddr hR hd rfl h
 case field t x f=>exact .need fun h=>ok_field hR hd rfl h
 case indexAddr t x i=>exact agg i (fun v=>indexAddrQ P t (evl G s.sl x) v) (fun _=>rfl) fun h1=>agg x (fun v=>indexAddrQ P t v (evl G s.sl i)) (fun us=>by unfold indexAddrQ;split<;>first|rfl|(split<;>first|rfl|(rename_i e;cases e))) fun h2=>ok_indexAddr hR hd rfl h2 h1
 case index t x i=>exact .need fun h=>agg i (fun v=>indexQ P t (evl G s.sl x) v) (fun us=>by unfold indexQ;split<;>first|rfl|(rename_i e _;cases e)) fun h1=>ok_index hR hd rfl h h1
 case extract x i=>exact agg x (fun v=>extractQ v i) (fun _=>rfl) fun h=>ok_extract hR hd rfl h
 case makeInterface t x=>exact .need fun h=>ok_iface hR hd rfl h
 case panic x=>exact .need fun h=>ok_panic hR rfl h
 case call c =>
  obtain ⟨callee,⟨args⟩,⟨tys⟩⟩:=c
  dsimp only
  unfold callAop
  split
  ·exact .need fun h=>ok_len (ty:=type) hR hd (by simp only [execOp,resolve,List.map_toArray,List.map_cons,List.map_nil];rfl) h
  ·exact .need fun ⟨h1,h2⟩=>ok_append (ty:=type) hR hd (by simp only [execOp,resolve,List.map_toArray,List.map_cons,List.map_nil];rfl) h1 h2
  ·exact .need fun ⟨h1,h2⟩=>ok_copy (ty:=type) hR hd (by simp only [execOp,resolve,List.map_toArray,List.map_cons,List.map_nil];rfl) h1 h2
  ·exact .need fun ⟨h1,h2⟩=>ok_minmax (mx:=false) hR hd (by simp only [execOp,resolve,List.map_toArray,List.map_cons,List.map_nil];rfl) h1 h2
  ·exact .need fun ⟨h1,h2⟩=>ok_minmax (mx:=true) hR hd (by simp only [execOp,resolve,List.map_toArray,List.map_cons,List.map_nil];rfl) h1 h2
  ·exact .need fun ⟨h1,h2⟩=>ok_call hR hd rfl h1 (by simpa using h2)
  ·exact .fail
 all_goals exact .fail
end
def wantA (ops:Array Oper) (f:Nat→SV) (o:Oper):Option Bool:=
 match o.guard with
 | none=>some true
 | some (j,b)=>match (ops[j]?).bind (·.dst) with
  | some t=>match f t with
   | .a (.c (.d (.v (.bool c))))=>some (c==b)
   | .undef=>some false
   | _=>none
  | none=>none
def rch (ops:Array Oper) (i:Nat):Nat→Nat→Bool
 | 0,_=>false
 | n+1,j=>match ops[j]? with
  | some oj=>oj.after.any fun e=>Region.binds .any e&&(e.on==i||(decide (i<e.on)&&rch ops i n e.on))
  | none=>false
def pairOk (ops:Array Oper) (i j:Nat) (x y:List Nat × List Nat):Bool:=
 match ops[i]?,ops[j]? with
 | some oi,some oj=>(oi.apart ops oj&&x.2.all (fun r=> !y.1.contains r&& !y.2.contains r)&&y.2.all fun r=> !x.1.contains r)||rch ops i 5 j
 | _,_=>false
def logOk (ops:Array Oper) (log:List (List Nat × List Nat)):Bool:=
 (List.range log.length).all (fun j=>(List.range j).all (fun i=>pairOk ops i j (log.getD i ([],[])) (log.getD j ([],[])))&&((ops[j]?).map fun o=>o.after.all fun e=> !Region.binds .any e||decide (e.on<j)).getD false)
def astep (P:Program) (G:Nat→Option (List D)) (ops:Array Oper) (o:Oper) (s:FSt) (K:List Nat→Out→Prop):Prop:=
 match wantA ops s.sl o with
 | some true=>(aop P G (evl G s.sl) o).run s.ob [] K
 | some false=>K [] (.val .undef [])
 | none=>False
def deadA (Z:List Nat) (o:Oper):Bool:=o.after.any fun e=>Region.binds .any e&&Z.contains e.on
def arunZ (P:Program) (G:Nat→Option (List D)) (ops:Array Oper) (Qp:Value→FSt→Prop):List Nat→List Oper→FSt→List (List Nat × List Nat)→Prop
 | _,[],_,log=>logOk ops log.reverse=true
 | Z,o::rest,s,log=>(deadA Z o=true∧arunZ P G ops Qp (log.length::Z) rest (s.app o.dst .bot []) (([],[])::log)) ∨
  astep P G ops o s fun rs out=>match out with
   | .val v U=>arunZ P G ops Qp Z rest (s.app o.dst v U) ((rs,U.map (·.1))::log)
   | .pan v U=>U=[]∧(∀ s',Qp v s')∧arunZ P G ops Qp (log.length::Z) rest (s.app o.dst .bot []) ((rs,[])::log)
def arun (P:Program) (G:Nat→Option (List D)) (ops:Array Oper) (draw:Bool) (Qp:Value→FSt→Prop):List Oper→FSt→List (List Nat × List Nat)→(FSt→Prop)→Prop
 | [],s,log,K=>(draw=true→logOk ops log.reverse=true)∧K s
 | o :: rest,s,log,K=>astep P G ops o s fun rs out=>match out with
  | .val v U=>arun P G ops draw Qp rest (s.app o.dst v U) ((rs,U.map (·.1))::log) K
  | .pan v U=>match draw with
   | false=>Qp v ⟨s.sl,updO s.ob U⟩
   | true=>U=[]∧(∀ s',Qp v s')∧arunZ P G ops Qp [log.length] rest (s.app o.dst .bot []) ((rs,[])::log)
def dstOk (n:Nat) (ops:Array Oper):Bool:=ops.all fun o=>match o.dst with
 | some d=>decide (d<n)
 | none=>true
theorem Q.run_elim {H:Hp} {Kc:List Nat→Out→Prop}: ∀ {q:Q} {rs:List Nat},q.run H rs Kc→ ∃ rd out,Kc rd out∧q.run H rs (fun x y=>x=rd∧y=out):=by
 intro q
 induction q with
 | done v U=>exact fun h=>⟨_,_,h,rfl,rfl⟩
 | pan v U=>exact fun h=>⟨_,_,h,rfl,rfl⟩
 | obj r k ih =>
  intro rs h
  simp only [Q.run] at h ⊢
  split at h
  ·exact ih _ h
  ·exact h.elim
 | new r k ih =>
  intro rs h
  obtain ⟨rd,out,h1,h2⟩:=ih h.2
  exact ⟨rd,out,h1,h.1,h2⟩
 | need p k ih =>
  intro rs h
  obtain ⟨rd,out,h1,h2⟩:=ih h.2
  exact ⟨rd,out,h1,h.1,h2⟩
 | any α k ih =>
  rintro rs ⟨x,h⟩
  obtain ⟨rd,out,h1,h2⟩:=ih x h
  exact ⟨rd,out,h1,x,h2⟩
 | fail=>exact fun h=>h.elim
theorem Q.run_sub {H:Hp} {rd:List Nat} {out:Out}: ∀ {q:Q} {rs:List Nat},q.run H rs (fun x y=>x=rd∧y=out)→ ∀ r∈rs,r∈rd:=by
 intro q
 induction q with
 | done v U=>exact fun h r hr=>by rw [← h.1];exact hr
 | pan v U=>exact fun h r hr=>by rw [← h.1];exact hr
 | obj r k ih =>
  intro rs h r' hr'
  simp only [Q.run] at h
  split at h
  ·exact ih _ h r' (List.mem_cons_of_mem _ hr')
  ·exact h.elim
 | new r k ih=>exact fun h r' hr'=>ih h.2 r' (List.mem_cons_of_mem _ hr')
 | need p k ih=>exact fun h=>ih h.2
 | any α k ih=>exact fun ⟨x,h⟩=>ih x h
 | fail=>exact fun h=>h.elim
theorem Q.run_local {H H':Hp} {rd:List Nat} {out:Out} (hH: ∀ r∈rd,H' r=H r): ∀ {q:Q} {rs:List Nat},q.run H rs (fun x y=>x=rd∧y=out)→q.run H' rs (fun x y=>x=rd∧y=out):=by
 intro q
 induction q with
 | done v U=>exact fun h=>h
 | pan v U=>exact fun h=>h
 | obj r k ih =>
  intro rs h
  simp only [Q.run] at h ⊢
  split at h
  ·rename_i o ho
   rw [hH r (Q.run_sub h r (List.mem_cons_self ..)),ho]
   exact ih _ h
  ·exact h.elim
 | new r k ih=>exact fun h=>⟨by rw [hH r (Q.run_sub h.2 r (List.mem_cons_self ..))];exact h.1,ih h.2⟩
 | need p k ih=>exact fun h=>⟨h.1,ih h.2⟩
 | any α k ih=>exact fun ⟨x,h⟩=>⟨x,ih x h⟩
 | fail=>exact fun h=>h
theorem aop_congr {P:Program} {G:Nat→Option (List D)} {ρ ρ':Operand→SV} {o:Oper} (h: ∀ x∈o.op.operands, ρ x=ρ' x):aop P G ρ o=aop P G ρ' o:=by
 obtain ⟨dst,op,type,pos,after,guard⟩:=o
 have pairs: ∀ ps:Array (Nat × Operand),(∀ x∈(ps.toList.map (·.2)).toArray, ρ x=ρ' x)→(ps.toList.map fun p=>(p.1, ρ p.2))=(ps.toList.map fun p=>(p.1, ρ' p.2)):=fun ps hp =>
  List.map_congr_left fun p hm=>by
   obtain ⟨i,x⟩:=p
   simp only [hp x (by simpa using ⟨i,by simpa using hm⟩)]
 cases op<;>simp only [Op.operands] at h<;>simp only [aop]
 case build t ps=>rw [pairs ps h]
 case buildSlice t n ps=>rw [pairs ps h]
 case makeFunc fn first caps =>
  cases fn with
  | func f =>
   have e:caps.toList.map ρ=caps.toList.map ρ':=List.map_congr_left fun x hx=>h x (by simp [show x∈caps by simpa using hx])
   simp only [e]
  | _=>rfl
 case slice t x lo hi mx=>cases lo<;>cases hi<;>cases mx<;>simp_all
 case call c =>
  obtain ⟨callee,⟨args⟩,⟨tys⟩⟩:=c
  have hargs:args.map ρ=args.map ρ':=List.map_congr_left fun x hx=>h x (by simp [Call.operands,hx])
  dsimp only
  cases callee with
  | value f =>
   have hf:ρ f=ρ' f:=h f (by simp [Call.operands])
   simp only [callAop,hargs,hf]
  | invoke r n=>rfl
  | builtin b =>
   have hm: ∀ x∈args, ρ x=ρ' x:=fun x hx=>h x (by simp [Call.operands,hx])
   clear h hargs pairs
   unfold callAop
   split<;>simp_all
 all_goals (first|rfl|(simp_all;done))
section
variable {G:Nat→Option (List D)} {P:Program} {ops:Array Oper} {Qp:Value→FSt→Prop} {Z:List Nat}
def CondAt (P:Program) (G:Nat→Option (List D)) (ops:Array Oper) (Qp:Value→FSt→Prop) (Z:List Nat) (i:Nat) (o:Oper) (s:FSt) (rd:List Nat) (v:SV) (U:List (Nat × Option AObj)):Prop:=
 (i ∉ Z∧astep P G ops o s (fun x y=>x=rd∧y= .val v U))∨(i∈Z∧U=[]∧((∃ pv,astep P G ops o s (fun x y=>x=rd∧y= .pan pv [])∧ ∀ s',Qp pv s')∨ ∃ e∈o.after,Region.binds .any e=true∧e.on∈Z))
def StepAt (P:Program) (G:Nat→Option (List D)) (ops:Array Oper) (Qp:Value→FSt→Prop) (Z:List Nat) (i:Nat) (s s':FSt) (rd wr:List Nat):Prop:=
 ∃ o v U,ops[i]?=some o∧CondAt P G ops Qp Z i o s rd v U∧wr=U.map (·.1)∧s'=s.app o.dst v U
theorem evl_put {f:Nat→SV} {d:Option Nat} {v:SV} {x:Operand} (h: ∀ t,d=some t→x≠ .tmp t):evl G (putS f d v) x=evl G f x:=by
 cases x with
 | tmp t =>
  cases d with
  | none=>rfl
  | some d=>exact upd_ne fun e=>h d rfl (by rw [e])
 | _=>rfl
theorem updO_ne {H:Hp}: ∀ {U:List (Nat × Option AObj)} {r:Nat},(∀ p∈U,p.1≠r)→updO H U r=H r
 | [],_,_=>rfl
 | (r',o)::U,r,h=>by
  rw [updO,updO_ne (H:=upd H r' (some o)) fun p hp=>h p (List.mem_cons_of_mem _ hp)]
  exact upd_ne fun e=>h _ (List.mem_cons_self ..) e.symm
theorem updO_same {H H':Hp}: ∀ {U:List (Nat × Option AObj)} {r:Nat},(∃ p∈U,p.1=r)→updO H U r=updO H' U r
 | [],_,h=>by obtain ⟨p,hp,_⟩:=h;cases hp
 | (r',o)::U,r,h=>by
  simp only [updO]
  by_cases hr: ∃ p∈U,p.1=r
  ·exact updO_same hr
  ·have hn: ∀ p∈U,p.1≠r:=fun p hp e=>hr ⟨p,hp,e⟩
   rw [updO_ne hn,updO_ne hn]
   obtain ⟨p,hp,e⟩:=h
   rcases List.mem_cons.1 hp with rfl|hp
   ·subst e
    rw [upd_same,upd_same]
   ·exact absurd e (hn p hp)
theorem updO_comm {H:Hp} {U V:List (Nat × Option AObj)} (h: ∀ p∈U,∀ q∈V,p.1≠q.1):updO (updO H U) V=updO (updO H V) U:=by
 funext r
 by_cases hV: ∃ q∈V,q.1=r
 ·have hU: ∀ p∈U,p.1≠r:=fun p hp e=>by
   obtain ⟨q,hq,e2⟩:=hV
   exact h p hp q hq (e.trans e2.symm)
  rw [updO_ne (H:=updO H V) hU]
  exact updO_same hV
 ·have hV': ∀ q∈V,q.1≠r:=fun q hq e=>hV ⟨q,hq,e⟩
  rw [updO_ne hV']
  by_cases hU: ∃ p∈U,p.1=r
  ·exact updO_same hU
  ·have hU': ∀ p∈U,p.1≠r:=fun p hp e=>hU ⟨p,hp,e⟩
   rw [updO_ne hU',updO_ne hU',updO_ne hV']
theorem putS_comm {f:Nat→SV} {d e:Option Nat} {u v:SV} (h: ∀ t,d=some t→e≠some t):putS (putS f d u) e v=putS (putS f e v) d u:=by
 cases d with
 | none=>rfl
 | some d =>
  cases e with
  | none=>rfl
  | some e=>exact upd_comm fun he=>h d rfl (by rw [he])
theorem astep_local {o:Oper} {s s':FSt} {d:Option Nat} {v:SV} {rd:List Nat} {out:Out} (hd: ∀ t,d=some t→t ∉ o.looksAt ops) (hs:s'.sl=putS s.sl d v) (ho: ∀ r∈rd,s'.ob r=s.ob r)
  (h:astep P G ops o s (fun x y=>x=rd∧y=out)):astep P G ops o s' (fun x y=>x=rd∧y=out):=by
 have h1: ∀ x∈o.op.operands,evl G s'.sl x=evl G s.sl x:=fun x hx=>by
  rw [hs]
  refine evl_put fun t ht e=>hd t ht ?_
  subst e
  exact List.mem_append_left _ (List.mem_filterMap.2 ⟨.tmp t,by simpa using hx,rfl⟩)
 have h2 : wantA ops s'.sl o=wantA ops s.sl o:=by
  unfold wantA
  cases hg:o.guard with
  | none=>rfl
  | some gw =>
   obtain ⟨g,want⟩:=gw
   dsimp only
   cases ht:(ops[g]?).bind (·.dst) with
   | none=>rfl
   | some t =>
    have:s'.sl t=s.sl t:=by
     have:=evl_put (G:=G) (f:=s.sl) (d:=d) (v:=v) (x:= .tmp t) fun t' ht' e=>hd t' ht' (by
      injection e with e
      subst e
      simp [Oper.looksAt,hg,ht])
     rw [hs]
     exact this
    simp only [this]
 unfold astep at h ⊢
 rw [h2]
 split at h
 ·rw [aop_congr h1]
  exact Q.run_local ho h
 ·exact h
 ·exact h
theorem astep_unlocal {o:Oper} {s s':FSt} {d:Option Nat} {v:SV} {rd:List Nat} {out:Out} (hd: ∀ t,d=some t→t ∉ o.looksAt ops) (hs:s'.sl=putS s.sl d v) (ho: ∀ r∈rd,s'.ob r=s.ob r)
  (h:astep P G ops o s' (fun x y=>x=rd∧y=out)):astep P G ops o s (fun x y=>x=rd∧y=out):=by
 have h1: ∀ x∈o.op.operands,evl G s'.sl x=evl G s.sl x:=fun x hx=>by
  rw [hs]
  refine evl_put fun t ht e=>hd t ht ?_
  subst e
  exact List.mem_append_left _ (List.mem_filterMap.2 ⟨.tmp t,by simpa using hx,rfl⟩)
 have h2 : wantA ops s'.sl o=wantA ops s.sl o:=by
  unfold wantA
  cases hg:o.guard with
  | none=>rfl
  | some gw =>
   obtain ⟨g,want⟩:=gw
   dsimp only
   cases ht:(ops[g]?).bind (·.dst) with
   | none=>rfl
   | some t =>
    have:s'.sl t=s.sl t:=by
     have:=evl_put (G:=G) (f:=s.sl) (d:=d) (v:=v) (x:= .tmp t) fun t' ht' e=>hd t' ht' (by
      injection e with e
      subst e
      simp [Oper.looksAt,hg,ht])
     rw [hs]
     exact this
    simp only [this]
 unfold astep at h ⊢
 rw [h2] at h
 split at h
 ·rw [aop_congr h1] at h
  exact Q.run_local (fun r hr=>(ho r hr).symm) h
 ·exact h
 ·exact h
theorem CondAt.fwd {i:Nat} {o:Oper} {s s':FSt} {d:Option Nat} {u v:SV} {rd:List Nat} {U:List (Nat × Option AObj)} (hd: ∀ t,d=some t→t ∉ o.looksAt ops) (hs:s'.sl=putS s.sl d u) (ho: ∀ r∈rd,s'.ob r=s.ob r) (h:CondAt P G ops Qp Z i o s rd v U):CondAt P G ops Qp Z i o s' rd v U:=by
 rcases h with ⟨h0,h⟩|⟨h1,h2,⟨pv,h3,h4⟩|h3⟩
 ·exact .inl ⟨h0,astep_local hd hs ho h⟩
 ·exact .inr ⟨h1,h2,.inl ⟨pv,astep_local hd hs ho h3,h4⟩⟩
 ·exact .inr ⟨h1,h2,.inr h3⟩
theorem CondAt.bwd {i:Nat} {o:Oper} {s s':FSt} {d:Option Nat} {u v:SV} {rd:List Nat} {U:List (Nat × Option AObj)} (hd: ∀ t,d=some t→t ∉ o.looksAt ops) (hs:s'.sl=putS s.sl d u) (ho: ∀ r∈rd,s'.ob r=s.ob r) (h:CondAt P G ops Qp Z i o s' rd v U):CondAt P G ops Qp Z i o s rd v U:=by
 rcases h with ⟨h0,h⟩|⟨h1,h2,⟨pv,h3,h4⟩|h3⟩
 ·exact .inl ⟨h0,astep_unlocal hd hs ho h⟩
 ·exact .inr ⟨h1,h2,.inl ⟨pv,astep_unlocal hd hs ho h3,h4⟩⟩
 ·exact .inr ⟨h1,h2,.inr h3⟩
def Apart (ops:Array Oper) (x y:Nat × List Nat × List Nat):Prop:=
 ∃ oi oj,ops[x.1]?=some oi∧ops[y.1]?=some oj∧oi.apart ops oj=true∧(∀ r∈x.2.2,r ∉ y.2.1∧r ∉ y.2.2)∧ ∀ r∈y.2.2,r ∉ x.2.1
theorem swap {i j:Nat} {s s1 s2:FSt} {rdi wri rdj wrj:List Nat} (hA:Apart ops (i,rdi,wri) (j,rdj,wrj)) (h1:StepAt P G ops Qp Z i s s1 rdi wri) (h2:StepAt P G ops Qp Z j s1 s2 rdj wrj) :
  ∃ s1',StepAt P G ops Qp Z j s s1' rdj wrj∧StepAt P G ops Qp Z i s1' s2 rdi wri:=by
 obtain ⟨oi,oj,hi,hj,hap,hx,hy⟩:=hA
 obtain ⟨a1,a2,a3⟩:=Oper.apart_spec hap
 obtain ⟨o1,v1,U1,e1,r1,w1,q1⟩:=h1
 obtain ⟨o2,v2,U2,e2,r2,w2,q2⟩:=h2
 rw [hi] at e1
 rw [hj] at e2
 injection e1 with e1
 injection e2 with e2
 subst o1 o2 q1
 subst q2
 subst w1 w2
 have n1: ∀ r∈rdj,updO s.ob U1 r=s.ob r:=fun r hr=>updO_ne fun p hp e=>(hx p.1 (List.mem_map_of_mem hp)).1 (by rw [e];exact hr)
 have n2: ∀ r∈rdi,updO s.ob U2 r=s.ob r:=fun r hr=>updO_ne fun p hp e=>hy p.1 (List.mem_map_of_mem hp) (by rw [e];exact hr)
 have n3: ∀ p∈U1,∀ q∈U2,p.1≠q.1:=fun p hp q hq e=>(hx p.1 (List.mem_map_of_mem hp)).2 (by rw [e];exact List.mem_map_of_mem hq)
 refine ⟨s.app oj.dst v2 U2,⟨oj,v2,U2,hj,CondAt.bwd a1 rfl n1 r2,rfl,rfl⟩,⟨oi,v1,U1,hi,CondAt.fwd a3 rfl n2 r1,rfl,?_⟩⟩
 show FSt.mk (putS (putS s.sl oi.dst v1) oj.dst v2) (updO (updO s.ob U1) U2)=FSt.mk (putS (putS s.sl oj.dst v2) oi.dst v1) (updO (updO s.ob U2) U1)
 rw [show putS (putS s.sl oi.dst v1) oj.dst v2=putS (putS s.sl oj.dst v2) oi.dst v1 from putS_comm fun t ht=>fun e=>a2 t ht e,updO_comm n3]
def RunL (P:Program) (G:Nat→Option (List D)) (ops:Array Oper) (Qp:Value→FSt→Prop) (Z:List Nat):List (Nat × List Nat × List Nat)→FSt→FSt→Prop
 | [],s,s'=>s=s'
 | x::l,s,s'=> ∃ s1,StepAt P G ops Qp Z x.1 s s1 x.2.1 x.2.2∧RunL P G ops Qp Z l s1 s'
theorem move_front {y:Nat × List Nat × List Nat} {l2:List (Nat × List Nat × List Nat)} {s':FSt}: ∀ {l1:List (Nat × List Nat × List Nat)} {s:FSt},(∀ x∈l1,Apart ops x y)→RunL P G ops Qp Z (l1++y::l2) s s'→RunL P G ops Qp Z (y::(l1++l2)) s s'
 | [],s,_,h=>h
 | x::l1,s,hA,h=>by
  obtain ⟨s1,h1,h2⟩:=h
  obtain ⟨s2,h3,h4⟩:=move_front (fun x hx=>hA x (List.mem_cons_of_mem _ hx)) h2
  obtain ⟨s3,h5,h6⟩:=swap (hA x (List.mem_cons_self ..)) h1 h3
  exact ⟨s3,h5,s2,h6,h4⟩
end
section
variable {G:Nat→Option (List D)} {P:Program} {K:Ctx G} {F:Fr} {Q:Exit→FSt→Prop} {s:FSt} {m:NM} {a:Act} {w:World} {ops:Array Oper}
theorem Oper.wp_monoQ {o:Oper} {N N':Act→World→Prop} {R R':Exit→Act→World→Prop} (hN: ∀ a w,N a w→N' a w) (hR: ∀ e a w,R e a w→R' e a w) (h:o.wp P a w N R):o.wp P a w N' R':=by
 have hL:LetsOut R→LetsOut R':=fun ⟨a,w,h⟩=>⟨a,w,hR _ _ _ h⟩
 unfold Oper.wp at *
 generalize (execOp a.eval o).run P w=r at *
 cases r with
 | ok n w' =>
  cases n<;>simp only [Oper.upon] at h ⊢ <;>
   first
    | exact hN _ _ h
    | exact Calls.mono h (fun e w'' he=>by cases e<;>first|exact hN _ _ he|exact hR _ _ _ he|exact hL he)
    | exact Rows.mono h (fun _ _ he=>hN _ _ he)
 | halt x w'=>cases x<;>simp only [Oper.upon] at h ⊢<;>first|exact hR _ _ _ h|exact h
theorem tmps_get {t:Nat} {b:Bool} (hs:a.tmps.size=F.n) (h:a.tmps.getD t Go.undef= .bool b):a.tmps[t]?=some (.bool b):=by
 rw [Array.getD_eq_getD_getElem?] at h
 cases hq:a.tmps[t]? with
 | none=>rw [hq] at h;cases h
 | some v =>
  rw [hq] at h
  simp at h
  rw [h]
theorem want_ok {o:Oper} {b:Bool} (hR:Rel K F m s a w) (h:wantA ops s.sl o=some b):Region.wanted o (yielded ops a.tmps)=b:=by
 unfold wantA at h
 unfold Region.wanted
 split at h
 ·rename_i hg
  rw [hg]
  injection h with h
 ·rename_i j want hg
  rw [hg]
  dsimp only
  split at h
  ·rename_i t ht
   have hsl:=hR.slot t
   split at h
   ·rename_i c e
    rw [e] at hsl
    injection h with h
    have hc:a.tmps.getD t Go.undef= .bool c:=rs_v hsl
    have hy:yielded ops a.tmps j=some c:=by
     unfold yielded
     rw [ht]
     simp only [Option.bind_some,tmps_get (F:=F) hR.size hc]
    rw [hy,← h]
    cases c<;>cases want<;>rfl
   ·rename_i e
    rw [e] at hsl
    injection h with h
    have hc:a.tmps.getD t Go.undef=Go.undef:=hsl
    have hy:yielded ops a.tmps j=none:=by
     unfold yielded
     rw [ht]
     simp only [Option.bind_some]
     rw [Array.getD_eq_getD_getElem?] at hc
     cases hq:a.tmps[t]? with
     | none=>rfl
     | some v =>
      rw [hq] at hc
      simp at hc
      subst hc
      rfl
    rw [hy,← h]
    rfl
   ·cases h
  ·cases h
theorem astep_ok {o:Oper} {Kc:List Nat→Out→Prop} (hR:Rel K F m s a w) (hd: ∀ d,o.dst=some d→d<F.n) (h:astep P G ops o s Kc) :
  (Region.wanted o (yielded ops a.tmps)=true∧ ∃ rd out,Kc rd out∧OpGoal P K F s o a w out)∨(Region.wanted o (yielded ops a.tmps)=false∧Kc [] (.val .undef [])∧Rel K F m (s.app o.dst .undef []) (a.put o.dst Go.undef) w):=by
 unfold astep at h
 split at h
 ·rename_i hw
  exact .inl ⟨want_ok hR hw,aop_sound hR hd [] _ h⟩
 ·rename_i hw
  exact .inr ⟨want_ok hR hw,h,hR.put hd rfl⟩
 ·exact h.elim
theorem Rel.panLift {v:Value} (h: ∃ m',Rel K F m' s a w) (hq:Q (.panic [{ v,recovered:=false }]) s):Lift K F Q (.panic [{ v,recovered:=false }]) a w:=by
 obtain ⟨m',h⟩:=h
 exact ⟨m',s,h,hq⟩
theorem arun_list: ∀ (l:List Oper) (s:FSt) (log:List (List Nat × List Nat)) (m:NM) (a:Act) (w:World),arun P G ops false (fun v s=>Q (.panic [{ v,recovered:=false }]) s) l s log (fun s=>Q .normal s)→Rel K F m s a w→(∀ o∈l,∀ d,o.dst=some d→d<F.n)→wpList P ops (Lift K F Q) l a w
 | [],s,log,m,a,w,h,hR,_=>⟨m,s,hR,h.2⟩
 | o :: rest,s,log,m,a,w,h,hR,hd=>by
  have ih:=fun s log m a w h hR=>arun_list rest s log m a w h hR fun o ho=>hd o (List.mem_cons_of_mem _ ho)
  unfold wpList
  rcases astep_ok hR (hd o (List.mem_cons_self ..)) h with ⟨hw,rd,out,hk,hg⟩|⟨hw,hk,hg⟩
  ·rw [if_pos hw]
   refine .inl ?_
   cases out with
   | val v U=>exact Oper.wp_mono (fun a' w' ⟨m',hr⟩=>ih _ _ m' a' w' hk hr) (hg (Lift K F Q))
   | pan v U=>exact Oper.wp_monoQ (fun _ _ h=>h.elim) (fun e a' w' ⟨he,hr⟩=>by subst he;exact Rel.panLift hr hk) hg
  ·rw [if_neg (by rw [hw];simp)]
   exact ih _ _ m _ w hk hg
theorem zB0 {id:Nat} (hd:dstOk F.n ops=true) (h:arun P G ops false (fun v s=>Q (.panic [{ v,recovered:=false }]) s) ops.toList s [] (fun s=>Q .normal s)):Sound P K F (.region id ops false) Q s:=fun m a w hR =>
 wp_region_list (arun_list _ _ _ m a w h hR fun o ho d e=>by
  unfold dstOk at hd
  rw [Array.all_eq_true'] at hd
  have:=hd o (by simpa using ho)
  rw [e] at this
  simpa using this)
theorem arunZ_runL {Qp:Value→FSt→Prop}: ∀ (l:List Oper) (k:Nat) (Z:List Nat) (s:FSt) (log:List (List Nat × List Nat)),log.length=k→(∀ z∈Z,z<k)→(∀ j,l[j]?=ops[k+j]?)→arunZ P G ops Qp Z l s log →
  ∃ R s' Z',RunL P G ops Qp Z' R s s'∧(∀ z∈Z,z∈Z')∧(∀ z∈Z',z∈Z∨z∈R.map (·.1))∧R.map (·.1)=List.range' k l.length∧logOk ops (log.reverse++R.map (·.2))=true
 | [],k,Z,s,log,hk,hzk,hl,h=>⟨[],s,Z,rfl,fun _ h=>h,fun _ h=> .inl h,rfl,by simpa [arunZ] using h⟩
 | o :: rest,k,Z,s,log,hk,hzk,hl,h=>by
  have h0:ops[k]?=some o:=by simpa using (hl 0).symm
  have hl': ∀ j,rest[j]?=ops[k+1+j]?:=fun j=>by have:=hl (j+1);simpa [Nat.add_assoc,Nat.add_comm 1 j] using this
  have fin: ∀ (rd:List Nat) (v:SV) (U:List (Nat × Option AObj)) (Z1:List Nat),(∀ Z',(∀ z∈Z1,z∈Z')→(k∈Z'→k∈Z1)→CondAt P G ops Qp Z' k o s rd v U)→(∀ z∈Z,z∈Z1)→(∀ z∈Z1,z∈Z∨z=k)→arunZ P G ops Qp Z1 rest (s.app o.dst v U) ((rd,U.map (·.1))::log) →
    ∃ R s' Z',RunL P G ops Qp Z' R s s'∧(∀ z∈Z,z∈Z')∧(∀ z∈Z',z∈Z∨z∈R.map (·.1))∧R.map (·.1)=List.range' k (o::rest).length∧logOk ops (log.reverse++R.map (·.2))=true:=fun rd v U Z1 hc hz1 hz2 h2=>by
   obtain ⟨R,s',Z',h3,h4,h5,h6,h7⟩:=arunZ_runL rest (k+1) Z1 _ _ (by simp [hk]) (fun z hz=>by
    rcases hz2 z hz with h|h
    ·have:=hzk z h
     omega
    ·omega) hl' h2
   refine ⟨(k,rd,U.map (·.1))::R,s',Z',⟨_,⟨o,v,U,h0,hc Z' h4 (fun hkz=>by
    rcases h5 k hkz with h|h
    ·exact h
    ·rw [h6,List.mem_range'_1] at h
     omega),rfl,rfl⟩,h3⟩,fun z hz=>h4 z (hz1 z hz),fun z hz=>?_,by simp [h6,List.range'_succ],by simpa using h7⟩
   rcases h5 z hz with h|h
   ·rcases hz2 z h with h|h
    ·exact .inl h
    ·exact .inr (by rw [h];simp)
   ·exact .inr (by simp only [List.map_cons];exact List.mem_cons_of_mem _ h)
  unfold arunZ at h
  rcases h with ⟨hd,h⟩|h
  ·rw [hk] at h
   refine fin [] .bot [] (k::Z) (fun Z' hz _=> .inr ⟨hz k (List.mem_cons_self ..),rfl,.inr ?_⟩) (fun z hz=>List.mem_cons_of_mem _ hz) (fun z hz=>(List.mem_cons.1 hz).symm) h
   unfold deadA at hd
   rw [Array.any_eq_true'] at hd
   obtain ⟨e,he,hb⟩:=hd
   rw [Bool.and_eq_true,List.contains_iff_mem] at hb
   exact ⟨e,he,hb.1,hz _ (List.mem_cons_of_mem _ hb.2)⟩
  ·have key:(∃ rd v U,astep P G ops o s (fun x y=>x=rd∧y= .val v U)∧arunZ P G ops Qp Z rest (s.app o.dst v U) ((rd,U.map (·.1))::log)) ∨
       ∃ rd v,astep P G ops o s (fun x y=>x=rd∧y= .pan v [])∧(∀ s',Qp v s')∧arunZ P G ops Qp (log.length::Z) rest (s.app o.dst .bot []) ((rd,[])::log):=by
    unfold astep at h ⊢
    split at h
    ·obtain ⟨rd,out,h1,h2⟩:=Q.run_elim h
     cases out with
     | val v U=>exact .inl ⟨rd,v,U,h2,h1⟩
     | pan v U =>
      obtain ⟨rfl,h3,h4⟩:=h1
      exact .inr ⟨rd,v,h2,h3,h4⟩
    ·exact .inl ⟨[],.undef,[],⟨rfl,rfl⟩,h⟩
    ·exact h.elim
   rcases key with ⟨rd,v,U,h1,h2⟩|⟨rd,pv,h1,h2,h3⟩
   ·exact fin rd v U Z (fun Z' _ hkz=> .inl ⟨fun hz=>by have:=hzk k (hkz hz);omega,h1⟩) (fun _ h=>h) (fun _ h=> .inl h) h2
   ·rw [hk] at h3
    exact fin rd .bot [] (k::Z) (fun Z' hz _=> .inr ⟨hz k (List.mem_cons_self ..),rfl,.inl ⟨pv,h1,h2⟩⟩) (fun z hz=>List.mem_cons_of_mem _ hz) (fun z hz=>(List.mem_cons.1 hz).symm) h3
theorem arun_runL {Qp:Value→FSt→Prop} {Kn:FSt→Prop}: ∀ (l:List Oper) (k:Nat) (s:FSt) (log:List (List Nat × List Nat)),log.length=k→(∀ j,l[j]?=ops[k+j]?)→arun P G ops true Qp l s log Kn →
  ∃ R s' Z,RunL P G ops Qp Z R s s'∧(Z=[]→Kn s')∧(∀ z∈Z,z∈R.map (·.1))∧R.map (·.1)=List.range' k l.length∧logOk ops (log.reverse++R.map (·.2))=true
 | [],k,s,log,hk,hl,h=>⟨[],s,[],rfl,fun _=>h.2,fun _ h=>h,rfl,by simpa using h.1 rfl⟩
 | o :: rest,k,s,log,hk,hl,h=>by
  have h0:ops[k]?=some o:=by simpa using (hl 0).symm
  have hl': ∀ j,rest[j]?=ops[k+1+j]?:=fun j=>by have:=hl (j+1);simpa [Nat.add_assoc,Nat.add_comm 1 j] using this
  have key:(∃ rd v U,astep P G ops o s (fun x y=>x=rd∧y= .val v U)∧arun P G ops true Qp rest (s.app o.dst v U) ((rd,U.map (·.1))::log) Kn) ∨
    ∃ rd v,astep P G ops o s (fun x y=>x=rd∧y= .pan v [])∧(∀ s',Qp v s')∧arunZ P G ops Qp [log.length] rest (s.app o.dst .bot []) ((rd,[])::log):=by
   unfold arun at h
   unfold astep at h ⊢
   split at h
   ·obtain ⟨rd,out,h1,h2⟩:=Q.run_elim h
    cases out with
    | val v U=>exact .inl ⟨rd,v,U,h2,h1⟩
    | pan v U =>
     obtain ⟨rfl,h3,h4⟩:=h1
     exact .inr ⟨rd,v,h2,h3,h4⟩
   ·exact .inl ⟨[],.undef,[],⟨rfl,rfl⟩,h⟩
   ·exact h.elim
  rcases key with ⟨rd,v,U,h1,h2⟩|⟨rd,pv,h1,h2,h3⟩
  ·obtain ⟨R,s',Z,h3,h4,h5,h6,h7⟩:=arun_runL rest (k+1) _ _ (by simp [hk]) hl' h2
   exact ⟨(k,rd,U.map (·.1))::R,s',Z,⟨_,⟨o,v,U,h0,.inl ⟨fun hz=>by
    have h9:=h5 k hz
    rw [h6,List.mem_range'_1] at h9
    omega,h1⟩,rfl,rfl⟩,h3⟩,h4,fun z hz=>by simp only [List.map_cons];exact List.mem_cons_of_mem _ (h5 z hz),by simp [h6,List.range'_succ],by simpa using h7⟩
  ·rw [hk] at h3
   obtain ⟨R,s',Z,h4,h5,h6,h7,h8⟩:=arunZ_runL rest (k+1) [k] _ _ (by simp [hk]) (fun z hz=>by simp at hz;omega) hl' h3
   refine ⟨(k,rd,[])::R,s',Z,⟨_,⟨o,.bot,[],h0,.inr ⟨h5 k (List.mem_cons_self ..),rfl,.inl ⟨pv,h1,h2⟩⟩,rfl,rfl⟩,h4⟩,fun e=>?_,fun z hz=>?_,by simp [h7,List.range'_succ],by simpa using h8⟩
   ·have:=h5 k (List.mem_cons_self ..)
    rw [e] at this
    cases this
   ·rcases h6 z hz with h|h
    ·simp at h
     rw [h]
     simp
    ·simp only [List.map_cons]
     exact List.mem_cons_of_mem _ h
theorem rch_listed {listed:Array Bool} (hcl: ∀ k,listed.getD k false=true→ ∀ o,ops[k]?=some o→ ∀ e∈o.after,Region.binds .any e=true→listed.getD e.on false=true) :
  ∀ (n i j:Nat) (o:Oper),ops[j]?=some o→(∀ e∈o.after,Region.binds .any e=true→listed.getD e.on false=true)→rch ops i n j=true→listed.getD i false=true
 | 0,_,_,_,_,_,h=>by cases h
 | n + 1,i,j,o,ho,hall,h=>by
  unfold rch at h
  rw [ho] at h
  simp only [Array.any_eq_true',Bool.and_eq_true,Bool.or_eq_true,beq_iff_eq] at h
  obtain ⟨e,he,hb,h|⟨_,h⟩⟩:=h
  ·rw [← h]
   exact hall e he hb
  ·have h1:=hall e he hb
   cases hq:ops[e.on]? with
   | none =>
    cases n with
    | zero=>cases h
    | succ n=>unfold rch at h;rw [hq] at h;cases h
   | some o'=>exact rch_listed hcl n i e.on o' hq (hcl e.on h1 o' hq) h
theorem any_of_run {Z:List Nat} (hdst:dstOk F.n ops=true): ∀ (fuel:Nat) (R:List (Nat × List Nat × List Nat)) (listed:Array Bool) (s s':FSt) (m:NM) (a:Act) (w:World),R.length≤fuel→listed.size=ops.size →
  (∀ i,i<ops.size→(listed.getD i true=false↔i∈R.map (·.1)))→(∀ i∈R.map (·.1),i<ops.size)→(R.map (·.1)).Pairwise (· < ·) →
  (R.Pairwise fun x y=>Apart ops x y∨rch ops x.1 5 y.1=true) →
  (∀ k,listed.getD k false=true→ ∀ o,ops[k]?=some o→ ∀ e∈o.after,Region.binds .any e=true→listed.getD e.on false=true) →
  (∀ x∈R,∀ o,ops[x.1]?=some o→ ∀ e∈o.after,Region.binds .any e=true→e.on<x.1) →
  RunL P G ops (fun v s=>Q (.panic [{ v,recovered:=false }]) s) Z R s s'→(Z=[]→Q .normal s')→(∀ z∈Z,z∈R.map (·.1))→Rel K F m s a w→wpAny P .any ops (Lift K F Q) fuel listed a w:=by
 intro fuel
 have ready: ∀ (R:List (Nat × List Nat × List Nat)) (listed:Array Bool) (i:Nat),(∀ i,i<ops.size→(listed.getD i true=false↔i∈R.map (·.1)))→i∈Region.ready .any ops listed→i∈R.map (·.1):=fun R listed i hl hi=>by
  obtain ⟨h1,o,ho,_⟩:=mem_ready.1 hi
  exact (hl i (Array.getElem?_eq_some_iff.1 ho).1).1 h1
 induction fuel with
 | zero =>
  intro R listed s s' m a w hlen hsz hl hb hp hA hcl hdep hrun hq hZ hR
  obtain rfl:R=[]:=List.eq_nil_of_length_eq_zero (by omega)
  have hs:s=s':=hrun
  subst hs
  refine ⟨?_,m,s,hR,hq (by
   cases Z with
   | nil=>rfl
   | cons z Z =>
    have:=hZ z (List.mem_cons_self ..)
    cases this)⟩
  cases hr:Region.ready .any ops listed with
  | nil=>rfl
  | cons i l =>
   have:=ready [] listed i hl (by rw [hr];exact List.mem_cons_self ..)
   simp at this
 | succ fuel ih =>
  intro R listed s s' m a w hlen hsz hl hb hp hA hcl hdep hrun hq hZ hR
  have hZ0:R=[]→Z=[]:=fun e=>by
   cases Z with
   | nil=>rfl
   | cons z Z =>
    have:=hZ z (List.mem_cons_self ..)
    rw [e] at this
    cases this
  refine ⟨fun hnil=>?_,fun i hi=>?_⟩
  ·cases R with
   | nil =>
    have hs:s=s':=hrun
    subst hs
    exact ⟨m,s,hR,hq (hZ0 rfl)⟩
   | cons x R =>
    exfalso
    have hx:=hb x.1 (by simp)
    have ho:ops[x.1]?=some ops[x.1]:=Array.getElem?_eq_getElem hx
    have:x.1∈Region.ready .any ops listed:=by
     refine mem_ready.2 ⟨(hl x.1 hx).2 (by simp),_,ho,fun e he hbd=>?_⟩
     have hlt:=hdep x (List.mem_cons_self ..) _ ho e he hbd
     cases hg:listed.getD e.on false with
     | true=>rfl
     | false =>
      have hg':listed.getD e.on true=false:=by
       have hin:e.on<listed.size:=by omega
       simp only [Array.getD_eq_getD_getElem?,Array.getElem?_eq_getElem hin,Option.getD_some] at hg ⊢
       exact hg
      have hm:=(hl e.on (by omega)).1 hg'
      rw [List.map_cons] at hp hm
      rcases List.mem_cons.1 hm with h|h
      ·omega
      ·have:=(List.pairwise_cons.1 hp).1 _ h
       omega
    rw [hnil] at this
    cases this
  ·have hmem:=ready R listed i hl hi
   obtain ⟨hun,o,ho,hall⟩:=mem_ready.1 hi
   obtain ⟨y,hy,rfl⟩:=List.mem_map.1 hmem
   obtain ⟨l1,l2,rfl⟩:=List.append_of_mem hy
   have hfront: ∀ x∈l1,Apart ops x y:=fun x hx=>by
    have h1:=(List.pairwise_append.1 hA).2.2 x hx y (List.mem_cons_self ..)
    rcases h1 with h1|h1
    ·exact h1
    ·exfalso
     have h2:=rch_listed hcl 5 x.1 y.1 o ho hall h1
     have hxb:=hb x.1 (by simp only [List.map_append];exact List.mem_append_left _ (List.mem_map_of_mem hx))
     have h3:=(hl x.1 hxb).2 (by simp only [List.map_append];exact List.mem_append_left _ (List.mem_map_of_mem hx))
     have hin:x.1<listed.size:=by omega
     simp only [Array.getD_eq_getD_getElem?,Array.getElem?_eq_getElem hin,Option.getD_some] at h2 h3
     rw [h2] at h3
     cases h3
   obtain ⟨s1,⟨o',v,U,ho',hst,hwr,hs1⟩,hrun'⟩:=move_front hfront hrun
   rw [ho] at ho'
   injection ho' with ho'
   subst ho'
   have hin:y.1<ops.size:=(Array.getElem?_eq_some_iff.1 ho).1
   have hsub:(l1++l2).Sublist (l1++y::l2):=List.Sublist.append (List.Sublist.refl _) (List.sublist_cons_self _ _)
   have hnd:y.1 ∉ (l1++l2).map (·.1):=fun h=>by
    rw [List.map_append,List.map_cons] at hp
    obtain ⟨p1,p2,p3⟩:=List.pairwise_append.1 hp
    rw [List.map_append] at h
    rcases List.mem_append.1 h with h|h
    ·have:=p3 _ h _ (List.mem_cons_self ..)
     omega
    ·have:=(List.pairwise_cons.1 p2).1 _ h
     omega
   have next:y.1 ∉ Z→ ∀ m' a' w',Rel K F m' s1 a' w'→wpAny P .any ops (Lift K F Q) fuel (listed.setIfInBounds y.1 true) a' w':=fun hyZ m' a' w' hR'=>by
    refine ih (l1++l2) _ s1 s' m' a' w' ?_ (by simpa using hsz) (fun k hk=>?_) (fun k hk=>hb k ?_) (hp.sublist (hsub.map _)) (hA.sublist hsub) (fun k hk o' ho' e he hbd=>?_) (fun x hx=>hdep x (hsub.subset hx)) hrun' hq (fun z hz=>?_) hR'
    ·simp only [List.length_append,List.length_cons] at hlen ⊢
     omega
    ·by_cases e:y.1=k
     ·subst e
      have h4:(listed.setIfInBounds y.1 true).getD y.1 true=true:=by
       simp [show y.1<listed.size by omega]
      rw [h4]
      exact ⟨(fun h=>by cases h),fun h=>absurd h hnd⟩
     ·rw [getD_set_ne true e,hl k hk]
      simp only [List.map_append,List.map_cons,List.mem_append,List.mem_cons]
      exact ⟨fun h=>h.elim .inl fun h=>h.elim (fun h=>absurd h.symm e) .inr,fun h=>h.elim .inl fun h=> .inr (.inr h)⟩
    ·exact (hsub.map _).subset hk
    ·have mono: ∀ k,listed.getD k false=true→(listed.setIfInBounds y.1 true).getD k false=true:=fun k h=>by
      by_cases e:y.1=k
      ·subst e
       simp [show y.1<listed.size by omega]
      ·rw [getD_set_ne false e]
       exact h
     refine mono _ ?_
     by_cases e':y.1=k
     ·subst e'
      rw [ho] at ho'
      injection ho' with ho'
      subst ho'
      exact hall e he hbd
     ·rw [getD_set_ne false e'] at hk
      exact hcl k hk o' ho' e he hbd
    ·have h1:=hZ z hz
     simp only [List.map_append,List.map_cons,List.mem_append,List.mem_cons] at h1 ⊢
     rcases h1 with h1|h1|h1
     ·exact .inl h1
     ·exact absurd (h1▸hz) hyZ
     ·exact .inr h1
   have hdo: ∀ d,o.dst=some d→d<F.n:=fun d e=>by
    unfold dstOk at hdst
    rw [Array.all_eq_true'] at hdst
    have:=hdst o (Array.mem_of_getElem? ho)
    rw [e] at this
    simpa using this
   have hlst: ∀ z∈Z,listed.getD z false=false:=fun z hz=>by
    have h1:=hZ z hz
    have h2:=hb z h1
    have h3:=(hl z h2).2 h1
    have hin:z<listed.size:=by omega
    simp only [Array.getD_eq_getD_getElem?,Array.getElem?_eq_getElem hin,Option.getD_some] at h3 ⊢
    exact h3
   unfold wpOp
   rw [ho]
   dsimp only
   by_cases hyZ:y.1∈Z
   ·-- it panics,for it cannot wait for one that does
    have hpan: ∃ pv,astep P G ops o s (fun x y'=>x=y.2.1∧y'= .pan pv [])∧ ∀ s',Q (.panic [{ v:=pv,recovered:=false }]) s':=by
     rcases hst with ⟨h1,_⟩|⟨_,_,h1|⟨e,he,hbd,hez⟩⟩
     ·exact absurd hyZ h1
     ·exact h1
     ·exfalso
      have h2:=hall e he hbd
      rw [hlst e.on hez] at h2
      cases h2
    obtain ⟨pv,h1,h2⟩:=hpan
    rcases astep_ok hR hdo h1 with ⟨hw,rd,out,⟨rfl,rfl⟩,hg⟩|⟨hw,⟨_,hk⟩,hg⟩
    ·rw [if_pos hw]
     exact .inl (Oper.wp_monoQ (fun _ _ h=>h.elim) (fun e a' w' ⟨he,hr⟩=>by subst he;exact Rel.panLift hr (h2 _)) hg)
    ·cases hk
   ·have h1:astep P G ops o s (fun x y'=>x=y.2.1∧y'= .val v U):=by
     rcases hst with ⟨_,h1⟩|⟨h1,_⟩
     ·exact h1
     ·exact absurd h1 hyZ
    rcases astep_ok hR hdo h1 with ⟨hw,rd,out,⟨rfl,rfl⟩,hg⟩|⟨hw,⟨_,hk⟩,hg⟩
    ·rw [if_pos hw]
     refine .inl (Oper.wp_mono (fun a' w' ⟨m',hr⟩=>next hyZ m' a' w' ?_) (hg (Lift K F Q)))
     rw [hs1]
     exact hr
    ·rw [if_neg (by rw [hw];simp)]
     injection hk with h1 h2
     subst h1 h2
     refine next hyZ m _ w ?_
     rw [hs1]
     exact hg
theorem Rel.drew (h:Rel K F m s a w):Rel K F m s a { w with drawn:=w.drawn+1 }:=by
 have:=h.later (dst:=none) (v:= .bot) (u:=Go.undef) (w':={ w with drawn:=w.drawn+1 }) ⟨rfl,rfl,rfl,Nat.le_refl _,fun _ _ _=>rfl⟩ (fun _ e=>by cases e) trivial
 exact this
theorem logOk_spec {R:List (Nat × List Nat × List Nat)} (hR:R.map (·.1)=List.range' 0 ops.size) (h:logOk ops (R.map (·.2))=true) :
  (R.Pairwise fun x y=>Apart ops x y∨rch ops x.1 5 y.1=true)∧ ∀ x∈R,∀ o,ops[x.1]?=some o→ ∀ e∈o.after,Region.binds .any e=true→e.on<x.1:=by
 have hlen:R.length=ops.size:=by
  have:=congrArg List.length hR
  simpa using this
 have hidx: ∀ (i:Nat) x,R[i]?=some x→x.1=i:=fun i x hx=>by
  have h1:(R.map (·.1))[i]?=some x.1:=by simp [hx]
  rw [hR,List.getElem?_range' (by have:=(List.getElem?_eq_some_iff.1 hx).1;omega)] at h1
  simpa using h1.symm
 unfold logOk at h
 simp only [List.all_eq_true,List.mem_range,Bool.and_eq_true,List.length_map] at h
 have hget: ∀ (i:Nat) x,R[i]?=some x→(R.map (·.2)).getD i ([],[])=x.2:=fun i x hx=>by simp [List.getD,hx]
 refine ⟨?_,fun x hx o ho e he hb=>?_⟩
 ·rw [List.pairwise_iff_getElem]
  intro i j hi hj hij
  have hxi:R[i]?=some R[i]:=List.getElem?_eq_getElem hi
  have hxj:R[j]?=some R[j]:=List.getElem?_eq_getElem hj
  have h1:=(h j hj).1 i hij
  rw [hget i _ hxi,hget j _ hxj] at h1
  have ei:=hidx i _ hxi
  have ej:=hidx j _ hxj
  generalize R[i]=x at *
  generalize R[j]=y at *
  subst ei ej
  unfold pairOk at h1
  split at h1
  ·rename_i oi oj e1 e2
   simp only [Bool.or_eq_true,Bool.and_eq_true,List.all_eq_true,Bool.not_eq_true'] at h1
   rcases h1 with ⟨⟨h1,h2⟩,h3⟩|h1
   ·exact .inl ⟨oi,oj,e1,e2,h1,fun r hr=>by
     have:=h2 r hr
     simpa [List.contains_iff_mem] using this,fun r hr=>by
     have:=h3 r hr
     simpa [List.contains_iff_mem] using this⟩
   ·exact .inr h1
  ·cases h1
 ·obtain ⟨j,hj⟩:=List.getElem?_of_mem hx
  have hlt:=(List.getElem?_eq_some_iff.1 hj).1
  have ej:=hidx j x hj
  have h1:=(h j hlt).2
  rw [ej] at ho
  rw [ho] at h1
  simp only [Option.map_some,Option.getD_some,Array.all_eq_true',Bool.or_eq_true,Bool.not_eq_true',decide_eq_true_eq] at h1
  have:=h1 e he
  rw [hb] at this
  rw [ej]
  exact this.resolve_left (by simp)
theorem zC0 {id:Nat} (hm:P.follows .mixedOrders=true) (hd:dstOk F.n ops=true) (h:arun P G ops true (fun v s=>Q (.panic [{ v,recovered:=false }]) s) ops.toList s [] (fun s=>Q .normal s)):Sound P K F (.region id ops true) Q s:=fun m a w hR=>by
 obtain ⟨R,s',Z,h1,h2,hZ,h3,h4⟩:=arun_runL ops.toList 0 s [] rfl (by simp) h
 rw [Array.length_toList] at h3
 simp only [List.reverse_nil,List.nil_append] at h4
 obtain ⟨h5,h6⟩:=logOk_spec h3 h4
 have hlen:R.length=ops.size:=by
  have:=congrArg List.length h3
  simpa using this
 have hmem: ∀ i,i∈R.map (·.1)↔i<ops.size:=fun i=>by
  rw [h3,List.mem_range'_1]
  omega
 refine wp_region_any hm (any_of_run hd ops.size R _ s s' m a _ (by omega) (by simp) (fun i hi=>?_) (fun i hi=>(hmem i).1 hi) ?_ h5 (fun k hk=>?_) h6 h1 h2 hZ hR.drew)
 ·rw [hmem]
  simp [hi]
 ·rw [h3]
  exact List.pairwise_lt_range'
 ·simp only [Array.getD_eq_getD_getElem?,Array.getElem?_replicate] at hk
  split at hk<;>cases hk
theorem zB {id:Nat} {dr:Bool} (hd:(dstOk F.n ops&&(!dr||P.follows .mixedOrders))=true) (h:arun P G ops dr (fun v s=>Q (.panic [{ v,recovered:=false }]) s) ops.toList s [] (fun s=>Q .normal s)):Sound P K F (.region id ops dr) Q s:=by
 cases dr with
 | false=>exact zB0 (by simpa using hd) h
 | true =>
  simp only [Bool.not_true,Bool.false_or,Bool.and_eq_true] at hd
  exact zC0 hd.2 hd.1 h
theorem zU {id:Nat} {dr:Bool} (h:arun P G ops dr (fun v s=>Q (.panic [{ v,recovered:=false }]) s) ops.toList s [] (fun s=>Q .normal s)) (hd:(dstOk F.n ops&&(!dr||P.follows .mixedOrders))=true:=by kernel_rfl):Sound P K F (.region id ops dr) Q s:=zB hd h
end
def resQ (P:Program) (f:Nat→SV):List ResultVar→(List SV→Q)→Q
 | [],k=>k []
 | .tmp t::l,k=>resQ P f l fun vs=>k (f t::vs)
 | .cell t ty::l,k=>match f t with
  | .a (.c (.ptr r off))=> .need (tyok P ty=true) (.obj r fun o=>match (kdOf P ty).agg with
   | true=> .need (off+szOf P ty≤o.cs.length) (resQ P f l fun vs=>k (.a (.agg ((o.cs.drop off).take (szOf P ty)))::vs))
   | false=>match o.cs[off]? with
    | some x=>resQ P f l fun vs=>k (.a (.c x)::vs)
    | none=> .fail)
  | _=> .fail
def outOf:List DV→DR
 | [x]=> .one x
 | l=> .many l
def Ret (P:Program) (rl:List ResultVar) (out:DR):Exit→FSt→Prop
 | .normal,s| .ret,s=>(resQ P s.sl rl fun vs=>cvArgs vs fun ds _=> .need (outOf ds=out) (.done .bot [])).run s.ob [] (fun _ _=>True)
 | .panic chain,s=> ∃ v,chain=[{ v,recovered:=false }]∧out= .pan v
 | _,_=>False
def initL:Nat→List DV→List (Nat × SV)
 | _,[]=>[]
 | k,x::l=>(k,.a x.av)::initL (k+1) l
def resSem (tmps:Array Value):ResultVar→Sem Value
 | .tmp t=>pure (tmps.getD t Go.undef)
 | .cell a t=>do loadVar t (← asAddr (tmps.getD a Go.undef))
def outV:List Value→Value
 | [u]=>u
 | l=> .tuple l.toArray
section
variable {G:Nat→Option (List D)} {P:Program} {K:Ctx G} {F:Fr} {s:FSt} {m:NM} {a:Act} {w:World}
theorem ok_res (hR:Rel K F m s a w) {Good:Out→Prop}: ∀ (l:List ResultVar) (k:List SV→Q),
  (∀ vs us,(l.mapM (resSem a.tmps)).run P w= .ok us w→us.length=vs.length→(∀ (i:Nat) x v,vs[i]?=some x→us[i]?=some v→RS w (Vis K m s.ob w) m s.ob.dom x v)→QG s Good (k vs))→QG s Good (resQ P s.sl l k)
 | [],k,h=>h [] [] (by simp) rfl fun i x v hx=>by simp at hx
 | .tmp t::l,k,h=>ok_res hR l _ fun vs us h1 h2 h3=>h (s.sl t::vs) (a.tmps.getD t Go.undef::us) (by simp only [List.mapM_cons,Sem.run_bind,resSem,Sem.run_pure,Result.andThen_ok];rw [h1];rfl) (by simp [h2]) fun i x v hx hv=>by
  cases i with
  | zero =>
   simp at hx hv
   subst hx hv
   exact (by simpa using hR.slot t)
  | succ i=>exact h3 i x v (by simpa using hx) (by simpa using hv)
 | .cell t ty::l,k,h=>by
  have hv:=hR.slot t
  unfold resQ
  split
  ·rename_i r off e
   rw [e] at hv
   obtain ⟨_,hvd,hu⟩:=rs_ptr hv
   refine .need fun ht=> .obj fun ob ho=>?_
   obtain ⟨i,z,T⟩:=tyok_spec ht
   obtain ⟨arr,h1,h2,h3,h4,h5⟩:=hR.obj ho hvd
   cases hk:(kdOf P ty).agg with
   | true =>
    refine .need fun hle=>ok_res hR l _ fun vs us g1 g2 g3=>?_
    have hload:(loadVar ty ⟨m.g r,off,none⟩).run P w= .ok (.agg ((arr.toList.drop off).take (szOf P ty)).toArray) w:=by
     simp only [loadVar,Sem.run_bind,run_isAgg T,Result.andThen_ok,hk,if_true,run_sizeOf T]
     have hl:((arr.toList.drop off).take (szOf P ty)).length=szOf P ty:=by
      simp only [List.length_take,List.length_drop,Array.length_toList]
      omega
     have:=run_loadCells_list (P:=P) w ⟨m.g r,off,none⟩ ((arr.toList.drop off).take (szOf P ty)) fun j v hj=>by
      rw [List.getElem?_take] at hj
      split at hj
      ·rw [List.getElem?_drop] at hj
       rw [Addr.add_lit,cell_arr h1]
       simpa using hj
      ·cases hj
     rw [hl] at this
     rw [this]
     rfl
    refine h _ (.agg ((arr.toList.drop off).take (szOf P ty)).toArray::us) ?_ (by simp [g2]) fun i x v hx hv=>?_
    ·have hres:(resSem a.tmps (.cell t ty)).run P w= .ok (.agg ((arr.toList.drop off).take (szOf P ty)).toArray) w:=by
      simp only [resSem,Sem.run_bind,hu,asAddr,Sem.run_pure,Result.andThen_ok,hload]
     simp only [List.mapM_cons,Sem.run_bind,hres,Result.andThen_ok,g1]
     rfl
    ·cases i with
     | succ i=>exact g3 i x v (by simpa using hx) (by simpa using hv)
     | zero =>
      simp at hx hv
      subst hx hv
      refine ⟨_,rfl,?_,fun j y v hy hv=>?_⟩
      ·simp only [List.length_take,List.length_drop,Array.length_toList]
       omega
      ·rw [List.getElem?_take] at hy hv
       split at hy
       ·rename_i hj
        rw [if_pos hj,List.getElem?_drop] at hv
        rw [List.getElem?_drop] at hy
        obtain ⟨u,hu,hr⟩:=h5 _ _ hy
        have:arr[off+j]?=some v:=by simpa using hv
        rw [hu] at this
        injection this with this
        subst this
        exact hr
       ·cases hy
   | false =>
    dsimp only
    split
    ·rename_i y hy
     obtain ⟨u,hu2,hr⟩:=h5 _ _ hy
     refine ok_res hR l _ fun vs us g1 g2 g3=>h _ (u::us) ?_ (by simp [g2]) fun i x v hx hv=>?_
     ·have hload:(loadVar ty ⟨m.g r,off,none⟩).run P w= .ok u w:=by
       simp only [loadVar,Sem.run_bind,run_isAgg T,Result.andThen_ok,hk,Bool.false_eq_true,if_false]
       exact run_load_one (by rw [cell_arr h1];exact hu2)
      have hres:(resSem a.tmps (.cell t ty)).run P w= .ok u w:=by
       simp only [resSem,Sem.run_bind,hu,asAddr,Sem.run_pure,Result.andThen_ok,hload]
      simp only [List.mapM_cons,Sem.run_bind,hres,Result.andThen_ok,g1]
      rfl
     ·cases i with
      | succ i=>exact g3 i x v (by simpa using hx) (by simpa using hv)
      | zero =>
       simp at hx hv
       subst hx hv
       exact hr
    ·exact .fail
  ·exact .fail
theorem run_results {fn:Func} {us:List Value} (h:(fn.results.toList.mapM (resSem a.tmps)).run P w= .ok us w):(results fn a.tmps).run P w= .ok (outV us) w:=by
 show (do let vs ← fn.results.mapM (resSem a.tmps);pure (if h:vs.size=1 then vs[0] else .tuple vs):Sem Value).run P w=_
 rw [Array.mapM_eq_mapM_toList,map_eq_pure_bind,Sem.run_bind,Sem.run_bind,h]
 match us with
 | []=>rfl
 | [u]=>rfl
 | u::v::l=>simp [outV]
theorem initL_get: ∀ (args:List DV) (k t:Nat),lkS (initL k args) t=if k≤t then (match args[t-k]? with|some x=> .a x.av|none=> .bot) else .bot
 | [],k,t=>by simp [initL,lkS]
 | x :: l,k,t=>by
  simp only [initL,lkS]
  split
  ·rename_i h
   subst h
   simp
  ·rename_i h
   rw [initL_get l (k+1) t]
   by_cases h1:k≤t
   ·rw [if_pos h1,if_pos (by omega),show t-k=t-(k+1)+1 by omega]
    simp
   ·rw [if_neg h1,if_neg (by omega)]
theorem spec_of' {f:FuncId} {fn:Func} {c:Code} {args:List DV} {out:DR} (hf:P.funcs[f]?=some fn) (hb:fn.body=some c) (hn:Nat.ble args.length fn.ntmps=true)
  (h: ∀ K:Ctx G,(∀ b,¬ K.B b)→Sound P K ⟨fn.ntmps,⟨fun _=>0,fun _=>0,fun _=>false⟩,fun _=>False⟩ c (Ret P fn.results.toList out) (LSt.mk (initL 0 args) []).st):Spec0 P G f args out:=by
 have hn:=Nat.le_of_ble_eq_true hn
 intro w S vs hS hT hA
 obtain ⟨hl,hc⟩:=hA
 let K:Ctx G:=⟨w,S,fun _=>False⟩
 have hH:HRel K ⟨fun _=>0,fun _=>0,fun _=>false⟩ (lkO []) w:=by
  refine ⟨fun r o ho=>?_,fun r r' ⟨o,ho,_⟩=>?_,fun r ⟨o,ho,_⟩=>?_,fun r o ho=>?_,Ev.refl _ _,fun g cs hg=>(hT g cs hg).mono (fun b hb=>⟨.inl hb,hS b hb,fun r ⟨o,ho,_⟩=>?_⟩) (fun _ _=>rfl)⟩<;>cases ho
 have hR:Rel K ⟨fn.ntmps,⟨fun _=>0,fun _=>0,fun _=>false⟩,fun _=>False⟩ ⟨fun _=>0,fun _=>0,fun _=>false⟩ (LSt.mk (initL 0 args) []).st { tmps:=vs.toArray++Array.replicate (fn.ntmps-vs.toArray.size) Go.undef,defers:=[] } w:=by
  refine ⟨by simp;omega,rfl,fun t=>?_,hH,fun r h=>h.elim⟩
  show RS w _ _ _ (lkS (initL 0 args) t) _
  rw [initL_get,if_pos (Nat.zero_le _),Nat.sub_zero]
  cases hx:args[t]? with
  | none=>trivial
  | some x =>
   have hlt:t<vs.length:=by
    rw [hl]
    exact (List.getElem?_eq_some_iff.1 hx).1
   have hg:(vs.toArray++Array.replicate (fn.ntmps-vs.toArray.size) Go.undef).getD t Go.undef=vs[t]:=by
    rw [Array.getD_eq_getD_getElem?,Array.getElem?_append,if_pos (by simpa using hlt)]
    simp [hlt]
   rw [hg]
   have:=hc t x _ hx (List.getElem?_eq_getElem hlt)
   refine ra_of_drd ?_
   have hvis: ∀ b,S b→Vis K ⟨fun _=>0,fun _=>0,fun _=>false⟩ (lkO []) w b:=fun b hb=>⟨.inl hb,hS b hb,fun r ⟨o,ho,_⟩=>by cases ho⟩
   cases x with
   | c x=>exact RD.mono hvis (fun _ _=>rfl) this
   | g cs =>
    obtain ⟨us,e,hl,hcc⟩:=this
    exact ⟨us,e,hl,fun i x v hx hv=>RD.mono hvis (fun _ _=>rfl) (hcc i x v hx hv)⟩
 refine calls_of_wp hf hb (wp_mono (h K (fun _ h=>h) _ _ _ hR) fun e a' w' ⟨m',s',hR',hq⟩=>?_)
 have ret:((resQ P s'.sl fn.results.toList fun vs=>cvArgs vs fun ds _=> .need (outOf ds=out) (.done .bot [])).run s'.ob [] (fun _ _=>True))→a'.defers=[]∧ ∃ v,(results fn a'.tmps).run P w'= .ok v w'∧Ev (fun _=>False) w w'∧DEnd w' (fun b=>S b∨(w.heap.size≤b∧b<w'.heap.size)) out (.returned v):=by
  intro hq
  refine ⟨hR'.defers,?_⟩
  have key:QG s' (fun _=> ∃ v,(results fn a'.tmps).run P w'= .ok v w'∧Ev (fun _=>False) w w'∧DEnd w' (fun b=>S b∨(w.heap.size≤b∧b<w'.heap.size)) out (.returned v)) (resQ P s'.sl fn.results.toList fun vs=>cvArgs vs fun ds _=> .need (outOf ds=out) (.done .bot [])):=by
   refine ok_res hR' _ _ fun vs us g1 g2 g3=>ok_cvArgs hR' g2 g3 fun ds U hcv=> .need fun ho=> .done ⟨_,run_results g1,?_,?_⟩
   ·exact ⟨hR'.heap.ev.os,hR'.heap.ev.tape,hR'.heap.ev.output,hR'.heap.ev.size,fun k hk _=>hR'.heap.ev.block k hk fun h=>h⟩
   ·obtain ⟨hf1,hf2⟩:=hcv
    obtain ⟨k1,k2,k3,_⟩:=Rel.freezeAll (s:=s') U s' hR' rfl (fun r x hx=> .inl hx) hf1 (fun b hb=>hb)
    obtain ⟨hd1,hd2⟩:=hf2 _ k1.heap k2 k3
    have hvis: ∀ b,Vis K m' (updO s'.ob U) w' b→S b∨(w.heap.size≤b∧b<w'.heap.size):=fun b hb=>hb.1.elim .inl fun h=>h.elim (fun h=>h.elim) fun h=> .inr ⟨h,hb.2.1⟩
    have hd3: ∀ (i:Nat) x v,ds[i]?=some x→us[i]?=some v→DRd w' (fun b=>S b∨(w.heap.size≤b∧b<w'.heap.size)) x v:=fun i x v hx hv=>by
     have:=hd2 i x v hx hv
     cases x with
     | c x=>exact RD.mono hvis (fun _ _=>rfl) this
     | g cs =>
      obtain ⟨us,e,hl,hcc⟩:=this
      exact ⟨us,e,hl,fun i x v hx hv=>RD.mono hvis (fun _ _=>rfl) (hcc i x v hx hv)⟩
    rw [← ho]
    match ds,us,hd1 with
    | [],[],_=>exact ⟨[],rfl,rfl,fun i x v hx=>by simp at hx⟩
    | [x],[u],_=>exact ⟨u,rfl,hd3 0 x u rfl rfl⟩
    | x::y::l,u::v::us,hl=>exact ⟨_,rfl,hl,hd3⟩
  exact (key [] _ hq).elim fun _ h=>h.elim fun _ h=>h.2
 cases e with
 | normal=>exact ret hq
 | ret=>exact ret hq
 | panic chain =>
  obtain ⟨v,rfl,rfl⟩:=hq
  exact ⟨hR'.defers,⟨hR'.heap.ev.os,hR'.heap.ev.tape,hR'.heap.ev.output,hR'.heap.ev.size,fun k hk _=>hR'.heap.ev.block k hk fun h=>h⟩,rfl⟩
 | exit id=>exact hq
 | goto l=>exact hq
 | outgrown=>exact hq.elim
def Fr0 (n:Nat):Fr:=⟨n,⟨fun _=>0,fun _=>0,fun _=>false⟩,fun _=>False⟩
theorem spec_of {f:FuncId} {fn:Func} {c:Code} {args:List DV} {out:DR} {rl:List ResultVar} {n:Nat} (hf:P.funcs[f]?=some fn) (hb:fn.body=some c) (hr:fn.results=⟨rl⟩) (hn:fn.ntmps=n) (ha:Nat.ble args.length n=true) (hp:out.plain=true)
  (h: ∀ K:Ctx G,Sound P K (Fr0 n) c (Ret P rl out) (LSt.mk (initL 0 args) []).st):Spec P G f args out:=by
 subst hn
 exact .mk0 hp (spec_of' hf hb ha fun K _=>by rw [hr];exact h K)
def svOf:List DV→SV
 | [x]=> .a x.av
 | l=> .tup (l.map DV.av)
def rawOf:List SV→SV
 | [x]=>x
 | _=> .bot
def offU (H':List (Nat × Option AObj)):List (Nat × Option AObj)→Prop
 | []=>True
 | (r,_)::l=>(lkO H' r).isNone=true∧offU H' l
theorem lkO_off: ∀ {l:List (Nat × Option AObj)} {r:Nat},(lkO l r).isNone=true→r ∉ l.map (·.1)
 | [],r,_=>by simp
 | (k,v)::l,r,h=>by
  unfold lkO at h
  split at h
  ·cases h
  ·rename_i hne
   rw [List.map_cons,List.mem_cons,not_or]
   exact ⟨hne,lkO_off h⟩
theorem offU_ok {H':List (Nat × Option AObj)}: ∀ {U:List (Nat × Option AObj)},offU H' U→ ∀ p∈U,p.1 ∉ H'.map (·.1)
 | (r,o)::l,h,p,hp=>by
  rcases List.mem_cons.1 hp with rfl|hp
  ·exact lkO_off h.1
  ·exact offU_ok h.2 p hp
def RetO (P:Program) (rl:List ResultVar) (out:OutO):Exit→FSt→Prop
 | .normal,s| .ret,s=>match out with
  | .ret v H'=>(∀ p∈H',s.ob p.1=some p.2)∧(resQ P s.sl rl fun vs=> .any Bool fun raw=>match raw with
   | true=> .need (rawOf vs=v∧vs.length=1∧ ∀ r∈v.names,lkO H' r≠none) (.done .bot [])
   | false=>cvArgs vs fun ds U=> .need (svOf ds=v∧offU H' U) (.done .bot [])).run s.ob [] (fun _ _=>True)
  | .pan _ _=>False
 | .panic chain,s=>match out with
  | .pan v H'=>chain=[{ v,recovered:=false }]∧ ∀ p∈H',s.ob p.1=some p.2
  | .ret _ _=>False
 | _,_=>False
def initA:Nat→List AV→List (Nat × SV)
 | _,[]=>[]
 | k,x::l=>(k,.a x)::initA (k+1) l
theorem initA_get: ∀ (args:List AV) (k t:Nat),lkS (initA k args) t=if k≤t then (match args[t-k]? with|some x=> .a x|none=> .bot) else .bot
 | [],k,t=>by simp [initA,lkS]
 | x :: l,k,t=>by
  simp only [initA,lkS]
  split
  ·rename_i h
   subst h
   simp
  ·rename_i h
   rw [initA_get l (k+1) t]
   by_cases h1:k≤t
   ·rw [if_pos h1,if_pos (by omega),show t-k=t-(k+1)+1 by omega]
    simp
   ·rw [if_neg h1,if_neg (by omega)]
theorem HRel.less {H H':Hp} (h:HRel K m H w) (hob: ∀ r o,H' r=some o→H r=some o) (hn: ∀ r o,H' r=some (some o)→(dOnly o.cs).isSome=true):HRel K m H' w∧ ∀ b,Vis K m H w b→Vis K m H' w b:=by
 have how: ∀ r,H'.own r→H.own r:=fun r ⟨o,h1,h2⟩=>⟨o,hob _ _ h1,h2⟩
 have hv: ∀ b,Vis K m H w b→Vis K m H' w b:=fun b hb=>⟨hb.1,hb.2.1,fun r hr=>hb.2.2 r (how r hr)⟩
 exact ⟨⟨fun r o ho=>(h.obj r o (hob _ _ ho)).data (hn r o ho) hv rfl rfl rfl,fun r r' hr hr'=>h.dist r r' (how r hr) (how r' hr'),fun r hr=>h.loc r (how r hr),
  fun r o ho hf hvd=>hv _ (h.fz r o (hob _ _ ho) hf hvd),h.ev,fun g cs hg=>(h.glob g cs hg).mono hv (fun _ _=>rfl)⟩,hv⟩
def FrO (n:Nat) (m:NM) (l:List Nat):Fr:=⟨n,m,fun r=>r∈l⟩
theorem specO_of {f:FuncId} {fn:Func} {c:Code} {args:List AV} {H:List (Nat × AObj)} {out:OutO} {rl:List ResultVar} {n:Nat} (hf:P.funcs[f]?=some fn) (hb:fn.body=some c) (hr:fn.results=⟨rl⟩) (hn:fn.ntmps=n) (ha:Nat.ble args.length n=true)
  (hd: ∀ p∈out.hp,∀ x,p.2=some x→(dOnly x.cs).isSome=true) (hk: ∀ r∈H.map (·.1),lkO out.hp r≠none)
  (h: ∀ (K:Ctx G) (m:NM),Sound P K (FrO n m (H.map (·.1))) c (RetO P rl out) ⟨lkS (initA 0 args),lkO (someO H)⟩):SpecO P G f args H out:=by
 subst hn
 have ha:=Nat.le_of_ble_eq_true ha
 intro K m vs hS hB hH hl hc
 have hR : Rel K (FrO fn.ntmps m (H.map (·.1))) m ⟨lkS (initA 0 args),lkO (someO H)⟩ { tmps:=vs.toArray++Array.replicate (fn.ntmps-vs.toArray.size) Go.undef,defers:=[] } K.w0:=by
  refine ⟨by simp [FrO];omega,rfl,fun t=>?_,hH,fun r h=>⟨?_,rfl,rfl,rfl⟩⟩
  ·show RS K.w0 _ _ _ (lkS (initA 0 args) t) _
   rw [initA_get,if_pos (Nat.zero_le _),Nat.sub_zero]
   cases hx:args[t]? with
   | none=>trivial
   | some x =>
    have hlt:t<vs.length:=by
     rw [hl]
     exact (List.getElem?_eq_some_iff.1 hx).1
    have hg:(vs.toArray++Array.replicate (fn.ntmps-vs.toArray.size) Go.undef).getD t Go.undef=vs[t]:=by
     rw [Array.getD_eq_getD_getElem?,Array.getElem?_append,if_pos (by simpa using hlt)]
     simp [hlt]
    rw [hg]
    exact hc t x _ hx (List.getElem?_eq_getElem hlt)
  ·have h : r ∈ H.map (·.1):=h
   show lkO (someO H) r≠none
   have key : ∀ l:List (Nat × AObj),r∈l.map (·.1)→lkO (someO l) r≠none:=by
    intro l
    induction l with
    | nil => intro h
             cases h
    | cons p l ih =>
     intro h
     show (if r=p.1 then some (some p.2) else lkO (someO l) r)≠none
     split
     ·simp
     ·rename_i hne
      exact ih ((List.mem_cons.1 h).resolve_left hne)
   exact key H h
 refine calls_of_wp hf hb (wp_mono (h K m _ _ _ hR) fun e a' w' ⟨m',s',hR',hq⟩=>?_)
 have hname: ∀ r,(lkO (someO H)).dom r→(lkO out.hp).dom r∧m'.g r=m.g r∧m'.N r=m.N r∧m'.vd r=m.vd r:=fun r hr=>by
  obtain ⟨x,hx⟩:=Option.ne_none_iff_exists'.1 hr
  obtain ⟨y,_,hy⟩:=someO_mem hx
  have hm:r∈H.map (·.1):=List.mem_map.2 ⟨_,hy,rfl⟩
  exact ⟨hk r hm,(hR'.names r hm).2⟩
 have retn : ∀ v H',out= .ret v H'→((∀ p∈H',s'.ob p.1=some p.2)∧(resQ P s'.sl rl fun vs=> .any Bool fun raw=>match raw with
   | true=> .need (rawOf vs=v∧vs.length=1∧ ∀ r∈v.names,lkO H' r≠none) (.done .bot [])
   | false=>cvArgs vs fun ds U=> .need (svOf ds=v∧offU H' U) (.done .bot [])).run s'.ob [] (fun _ _=>True)) →
   a'.defers=[]∧ ∃ u,(results fn a'.tmps).run P w'= .ok u w'∧ ∃ m',HRel K m' (lkO H') w'∧(∀ r,(lkO (someO H)).dom r→(lkO H').dom r∧m'.g r=m.g r∧m'.N r=m.N r∧m'.vd r=m.vd r)∧ ∃ u',Ending.returned u= .returned u'∧RS w' (Vis K m' (lkO H') w') m' (lkO H').dom v u':=by
  rintro v H' rfl ⟨hob,hq⟩
  refine ⟨hR'.defers,?_⟩
  have hl1:=HRel.less (H':=lkO H') hR'.heap (fun r o ho=>hob (r,o) (lkO_mem ho)) (fun r o ho=>hd (r,some o) (lkO_mem ho) o rfl)
  have key:QG s' (fun _=> ∃ u,(results fn a'.tmps).run P w'= .ok u w'∧RS w' (Vis K m' (lkO H') w') m' (lkO H').dom v u) (resQ P s'.sl rl fun vs=> .any Bool fun raw=>match raw with
   | true=> .need (rawOf vs=v∧vs.length=1∧ ∀ r∈v.names,lkO H' r≠none) (.done .bot [])
   | false=>cvArgs vs fun ds U=> .need (svOf ds=v∧offU H' U) (.done .bot [])):=by
   refine ok_res hR' _ _ fun vs us g1 g2 g3=> .any fun raw=>?_
   have g1':(results fn a'.tmps).run P w'= .ok (outV us) w':=run_results (by rw [hr];exact g1)
   cases raw with
   | true =>
    refine .need fun ⟨h1,h2,h3⟩=> .done ⟨_,g1',?_⟩
    match vs,us,g2,h2 with
    | [x],[u],_,_ =>
     have h1:x=v:=h1
     subst h1
     exact ((Keep.more hl1.2).rs (g3 0 x u rfl rfl)).fewer h3
   | false =>
    refine ok_cvArgs hR' g2 g3 fun ds U hcv=> .need fun ⟨h1,h2⟩=> .done ⟨_,g1',?_⟩
    obtain ⟨hf1,hf2⟩:=hcv
    obtain ⟨k1,k2,k3,_⟩:=Rel.freezeAll (s:=s') U s' hR' rfl (fun r x hx=> .inl hx) hf1 (fun b hb=>hb)
    obtain ⟨hd1,hd2⟩:=hf2 _ k1.heap k2 k3
    have hl2:=HRel.less (H':=lkO H') k1.heap (fun r o ho=>by
     have hm:=lkO_mem ho
     show updO s'.ob U r=some o
     rw [updO_names fun q hq e=>offU_ok h2 q hq (by rw [e];exact List.mem_map.2 ⟨_,hm,rfl⟩)]
     exact hob (r,o) hm) (fun r o ho=>hd (r,some o) (lkO_mem ho) o rfl)
    have hd3: ∀ (i:Nat) x v,ds[i]?=some x→us[i]?=some v→RA w' (Vis K m' (lkO H') w') m' (lkO H').dom x.av v:=fun i x v hx hv=>by
     have h9:=hd2 i x v hx hv
     refine ra_of_drd ?_
     cases x with
     | c x=>exact RD.mono hl2.2 (fun _ _=>rfl) h9
     | g cs =>
      obtain ⟨us,e,hl,hcc⟩:=h9
      exact ⟨us,e,hl,fun i x v hx hv=>RD.mono hl2.2 (fun _ _=>rfl) (hcc i x v hx hv)⟩
    rw [← h1]
    match ds,us,hd1 with
    | [],[],_=>exact ⟨[],rfl,rfl,fun i x v hx=>by simp at hx⟩
    | [x],[u],_=>exact hd3 0 x u rfl rfl
    | x :: y::l,u::v::us,hl =>
     refine ⟨_,rfl,by simpa using hl,fun i z q hz hq=>?_⟩
     rw [List.getElem?_map] at hz
     cases hy:(x::y::l)[i]? with
     | none=>rw [hy] at hz;cases hz
     | some t =>
      rw [hy] at hz
      simp at hz
      subst hz
      exact hd3 i t q hy hq
  obtain ⟨_,_,_,u,h1,h2⟩:=key [] _ hq
  exact ⟨u,h1,m',hl1.1,hname,u,rfl,h2⟩
 cases e with
 | normal =>
  cases out with
  | ret v H'=>exact retn v H' rfl hq
  | pan v H'=>exact hq.elim
 | ret =>
  cases out with
  | ret v H'=>exact retn v H' rfl hq
  | pan v H'=>exact hq.elim
 | panic chain =>
  cases out with
  | ret v H'=>exact hq.elim
  | pan v H' =>
   obtain ⟨rfl,hob⟩:=hq
   exact ⟨hR'.defers,m',(HRel.less (H':=lkO H') hR'.heap (fun r o ho=>hob (r,o) (lkO_mem ho)) (fun r o ho=>hd (r,some o) (lkO_mem ho) o rfl)).1,hname,rfl⟩
 | exit id=>exact hq
 | goto l=>exact hq
 | outgrown=>exact hq.elim
end
section
variable {G:Nat→Option (List D)} {P:Program} {s:FSt} {ops:Array Oper} {ρ:Operand→SV} {H:Hp} {rs:List Nat} {Kc:List Nat→Out→Prop}
def contA (P:Program) (G:Nat→Option (List D)) (ops:Array Oper) (draw:Bool) (Qp:Value→FSt→Prop) (dst:Option Nat) (rest:List Oper) (s:FSt) (log:List (List Nat × List Nat)) (Kn:FSt→Prop):List Nat→Out→Prop
 | rs,.val v U=>arun P G ops draw Qp rest (s.app dst v U) ((rs,U.map (·.1))::log) Kn
 | rs,.pan v U=>match draw with
  | false=>Qp v ⟨s.sl,updO s.ob U⟩
  | true=>U=[]∧(∀ s',Qp v s')∧arunZ P G ops Qp [log.length] rest (s.app dst .bot []) ((rs,[])::log)
def contZ (P:Program) (G:Nat→Option (List D)) (ops:Array Oper) (Qp:Value→FSt→Prop) (Z:List Nat) (dst:Option Nat) (rest:List Oper) (s:FSt) (log:List (List Nat × List Nat)):List Nat→Out→Prop
 | rs,.val v U=>arunZ P G ops Qp Z rest (s.app dst v U) ((rs,U.map (·.1))::log)
 | rs,.pan v U=>U=[]∧(∀ s',Qp v s')∧arunZ P G ops Qp (log.length::Z) rest (s.app dst .bot []) ((rs,[])::log)
@[go_sem] theorem contZ_val {Qp:Value→FSt→Prop} {Z:List Nat} {dst:Option Nat} {rest:List Oper} {log:List (List Nat × List Nat)} {v:SV} {U:List (Nat × Option AObj)} :
  contZ P G ops Qp Z dst rest s log rs (.val v U)=arunZ P G ops Qp Z rest (s.app dst v U) ((rs,U.map (·.1))::log):=rfl
def stepZ (P:Program) (G:Nat→Option (List D)) (ops:Array Oper) (Qp:Value→FSt→Prop) (Z:List Nat) (o:Oper) (rest:List Oper) (s:FSt) (log:List (List Nat × List Nat)):Prop:=
 (deadA Z o=true∧arunZ P G ops Qp (log.length::Z) rest (s.app o.dst .bot []) (([],[])::log))∨astep P G ops o s (contZ P G ops Qp Z o.dst rest s log)
@[go_sem] theorem arunZ_cons {Qp:Value→FSt→Prop} {Z:List Nat} {o:Oper} {rest:List Oper} {log:List (List Nat × List Nat)} :
  arunZ P G ops Qp Z (o::rest) s log=stepZ P G ops Qp Z o rest s log:=by
 rw [arunZ,stepZ]
 congr 2
 funext rs out
 cases out<;>rfl
theorem zO {Qp:Value→FSt→Prop} {Z:List Nat} {d:Option Nat} {op:Op} {ty:TypeId} {pos:String} {af:Array Edge} {gd:Option (Nat × Bool)} {rest:List Oper} {log:List (List Nat × List Nat)} (h:deadA Z ⟨d,op,ty,pos,af,gd⟩=true) (h2:arunZ P G ops Qp (log.length::Z) rest (s.app d .bot []) (([],[])::log)) :
  stepZ P G ops Qp Z ⟨d,op,ty,pos,af,gd⟩ rest s log:= .inl ⟨h,h2⟩
theorem zP {Qp:Value→FSt→Prop} {Z:List Nat} {d:Option Nat} {op:Op} {ty:TypeId} {pos:String} {af:Array Edge} {gd:Option (Nat × Bool)} {rest:List Oper} {log:List (List Nat × List Nat)} (h:astep P G ops ⟨d,op,ty,pos,af,gd⟩ s (contZ P G ops Qp Z d rest s log)) :
  stepZ P G ops Qp Z ⟨d,op,ty,pos,af,gd⟩ rest s log:= .inr h
@[go_sem] theorem arunZ_nil {Qp:Value→FSt→Prop} {Z:List Nat} {log:List (List Nat × List Nat)}:arunZ P G ops Qp Z [] s log=(logOk ops log.reverse=true):=rfl
@[go_sem] theorem contA_val {draw:Bool} {Qp:Value→FSt→Prop} {dst:Option Nat} {rest:List Oper} {log:List (List Nat × List Nat)} {Kn:FSt→Prop} {v:SV} {U:List (Nat × Option AObj)} :
  contA P G ops draw Qp dst rest s log Kn rs (.val v U)=arun P G ops draw Qp rest (s.app dst v U) ((rs,U.map (·.1))::log) Kn:=rfl
@[go_sem] theorem contA_panT {Qp:Value→FSt→Prop} {dst:Option Nat} {rest:List Oper} {log:List (List Nat × List Nat)} {Kn:FSt→Prop} {v:Value} {U:List (Nat × Option AObj)} :
  contA P G ops true Qp dst rest s log Kn rs (.pan v U)=(U=[]∧(∀ s',Qp v s')∧arunZ P G ops Qp [log.length] rest (s.app dst .bot []) ((rs,[])::log)):=rfl
@[go_sem] theorem contA_pan {Qp:Value→FSt→Prop} {dst:Option Nat} {rest:List Oper} {log:List (List Nat × List Nat)} {Kn:FSt→Prop} {v:Value} {U:List (Nat × Option AObj)} :
  contA P G ops false Qp dst rest s log Kn rs (.pan v U)=Qp v ⟨s.sl,updO s.ob U⟩:=rfl
theorem arun_cons' {draw:Bool} {Qp:Value→FSt→Prop} {o:Oper} {rest:List Oper} {log:List (List Nat × List Nat)} {Kn:FSt→Prop} :
  arun P G ops draw Qp (o::rest) s log Kn=astep P G ops o s (contA P G ops draw Qp o.dst rest s log Kn):=by
 rw [arun]
 congr 1
 funext rs out
 cases out<;>cases draw<;>rfl
@[go_sem] theorem arun_cons {draw:Bool} {Qp:Value→FSt→Prop} {d:Option Nat} {op:Op} {ty:TypeId} {pos:String} {af:Array Edge} {gd:Option (Nat × Bool)} {rest:List Oper} {log:List (List Nat × List Nat)} {Kn:FSt→Prop} :
  arun P G ops draw Qp (⟨d,op,ty,pos,af,gd⟩::rest) s log Kn=astep P G ops ⟨d,op,ty,pos,af,gd⟩ s (contA P G ops draw Qp d rest s log Kn):=arun_cons'
@[go_sem] theorem arun_nilF {Qp:Value→FSt→Prop} {log:List (List Nat × List Nat)} {Kn:FSt→Prop}:arun P G ops false Qp [] s log Kn=Kn s:=by simp [arun]
@[go_sem] theorem arun_nilT {Qp:Value→FSt→Prop} {log:List (List Nat × List Nat)} {Kn:FSt→Prop}:arun P G ops true Qp [] s log Kn=(logOk ops log.reverse=true∧Kn s):=by simp [arun]
@[go_sem] theorem astep_none {d:Option Nat} {op:Op} {ty:TypeId} {pos:String} {af:Array Edge}:astep P G ops ⟨d,op,ty,pos,af,none⟩ s Kc=(aop P G (evl G s.sl) ⟨d,op,ty,pos,af,none⟩).run s.ob [] Kc:=rfl
def gslot (ops:Array Oper) (j:Nat):Option Nat:=(ops[j]?).bind (·.dst)
def wantB (x:SV) (b:Bool):Option Bool:=
 match x with
 | .a (.c (.d (.v (.bool c))))=>some (c==b)
 | .undef=>some false
 | _=>none
@[go_sem] theorem wantB_bool {b c:Bool}:wantB (.a (.c (.d (.v (.bool c))))) b=some (c==b):=rfl
@[go_sem] theorem wantB_undef {b:Bool}:wantB .undef b=some false:=rfl
def astepG (P:Program) (G:Nat→Option (List D)) (w:Option Bool) (o:Oper) (s:FSt) (Kc:List Nat→Out→Prop):Prop:=
 match w with
 | some true=>(aop P G (evl G s.sl) o).run s.ob [] Kc
 | some false=>Kc [] (.val .undef [])
 | none=>False
theorem astep_some' {d:Option Nat} {op:Op} {ty:TypeId} {pos:String} {af:Array Edge} {j:Nat} {b:Bool} :
  astep P G ops ⟨d,op,ty,pos,af,some (j,b)⟩ s Kc=astepG P G (match gslot ops j with|some t=>wantB (s.sl t) b|none=>none) ⟨d,op,ty,pos,af,some (j,b)⟩ s Kc:=by
 unfold astep astepG wantA gslot
 dsimp only
 cases (ops[j]?).bind (·.dst)<;>rfl
def slAt (f:Nat→SV):Option Nat→SV
 | some t=>f t
 | none=> .bot
@[go_sem] theorem slAt_some {f:Nat→SV} {t:Nat}:slAt f (some t)=f t:=rfl
@[go_sem] theorem astep_some {d:Option Nat} {op:Op} {ty:TypeId} {pos:String} {af:Array Edge} {j:Nat} {b:Bool} :
  astep P G ops ⟨d,op,ty,pos,af,some (j,b)⟩ s Kc=astepG P G (wantB (slAt s.sl (gslot ops j)) b) ⟨d,op,ty,pos,af,some (j,b)⟩ s Kc:=by
 rw [astep_some']
 cases gslot ops j<;>rfl
@[go_sem] theorem aop_iface {d:Option Nat} {x:Operand} {t:TypeId} {ty:TypeId} {pos:String} {af:Array Edge} {gd:Option (Nat × Bool)}:aop P G ρ ⟨d,.makeInterface t x,ty,pos,af,gd⟩= .need (constOk x=true) (ifaceQ P t (ρ x)):=rfl
@[go_sem] theorem aop_panic {d:Option Nat} {x:Operand} {ty:TypeId} {pos:String} {af:Array Edge} {gd:Option (Nat × Bool)}:aop P G ρ ⟨d,.panic x,ty,pos,af,gd⟩= .need (constOk x=true) (panicQ (ρ x)):=rfl
@[go_sem] theorem aop_move {d:Option Nat} {x:Operand} {ty:TypeId} {pos:String} {af:Array Edge} {gd:Option (Nat × Bool)}:aop P G ρ ⟨d,.move x,ty,pos,af,gd⟩= .need (constOk x=true) (.done (ρ x) []):=rfl
@[go_sem] theorem aop_assign {d:Option Nat} {x:Operand} {ty:TypeId} {pos:String} {af:Array Edge} {gd:Option (Nat × Bool)}:aop P G ρ ⟨d,.assign x,ty,pos,af,gd⟩= .need (constOk x=true) (.done (ρ x) []):=rfl
def pickQ (ρ:Operand→SV) (c:SV) (a b:Operand):Q:=
 match c with
 | .a (.c (.d (.v (.bool true))))=> .need (constOk a=true) (.done (ρ a) [])
 | .a (.c (.d (.v (.bool false))))=> .need (constOk b=true) (.done (ρ b) [])
 | _=> .fail
@[go_sem] theorem pick_true {a b:Operand}:pickQ ρ (.a (.c (.d (.v (.bool true))))) a b= .need (constOk a=true) (.done (ρ a) []):=rfl
@[go_sem] theorem pick_false {a b:Operand}:pickQ ρ (.a (.c (.d (.v (.bool false))))) a b= .need (constOk b=true) (.done (ρ b) []):=rfl
@[go_sem] theorem aop_pick {d:Option Nat} {c a b:Operand} {ty:TypeId} {pos:String} {af:Array Edge} {gd:Option (Nat × Bool)}:aop P G ρ ⟨d,.pick c a b,ty,pos,af,gd⟩=pickQ ρ (ρ c) a b:=rfl
@[go_sem] theorem aop_alloc {d:Option Nat} {t:TypeId} {ty:TypeId} {pos:String} {af:Array Edge} {gd:Option (Nat × Bool)}:aop P G ρ ⟨d,.alloc t,ty,pos,af,gd⟩= .need (tyok P t=true) (newQ d t (zeroOf P t) (fun d=> .ptr d 0)):=rfl
@[go_sem] theorem aop_box {d:Option Nat} {t:TypeId} {x:Operand} {ty:TypeId} {pos:String} {af:Array Edge} {gd:Option (Nat × Bool)}:aop P G ρ ⟨d,.box t x,ty,pos,af,gd⟩= .need (constOk x=true) (boxQ d t (ρ x)):=rfl
@[go_sem] theorem aop_build {d:Option Nat} {t:TypeId} {ps:List (Nat × Operand)} {ty:TypeId} {pos:String} {af:Array Edge} {gd:Option (Nat × Bool)} :
  aop P G ρ ⟨d,.build t ⟨ps⟩,ty,pos,af,gd⟩= .need (ps.all (fun p=>constOk p.2)=true) (buildQ P t (ps.map fun p=>(p.1, ρ p.2))):=by simp [aop]
@[go_sem] theorem aop_buildSlice {d:Option Nat} {t:TypeId} {n:Nat} {ps:List (Nat × Operand)} {ty:TypeId} {pos:String} {af:Array Edge} {gd:Option (Nat × Bool)} :
  aop P G ρ ⟨d,.buildSlice t n ⟨ps⟩,ty,pos,af,gd⟩= .need (ps.all (fun p=>constOk p.2)=true) (buildSliceQ P d t n (ps.map fun p=>(p.1, ρ p.2))):=by simp [aop]
@[go_sem] theorem aop_load {d:Option Nat} {t:TypeId} {x:Operand} {ty:TypeId} {pos:String} {af:Array Edge} {gd:Option (Nat × Bool)}:aop P G ρ ⟨d,.load t x,ty,pos,af,gd⟩=loadQ P t (ρ x):=rfl
@[go_sem] theorem aop_store {d:Option Nat} {t:TypeId} {x y:Operand} {ty:TypeId} {pos:String} {af:Array Edge} {gd:Option (Nat × Bool)}:aop P G ρ ⟨d,.store t x y,ty,pos,af,gd⟩= .need (constOk y=true) (storeQ P t (ρ x) (ρ y)):=rfl
@[go_sem] theorem aop_nilCheck {d:Option Nat} {x:Operand} {ty:TypeId} {pos:String} {af:Array Edge} {gd:Option (Nat × Bool)}:aop P G ρ ⟨d,.nilCheck x,ty,pos,af,gd⟩=nilCheckQ (ρ x):=rfl
@[go_sem] theorem aop_binOp {d:Option Nat} {op:BinOp} {t t2:TypeId} {x y:Operand} {ty:TypeId} {pos:String} {af:Array Edge} {gd:Option (Nat × Bool)} :
  aop P G ρ ⟨d,.binOp op t x y t2,ty,pos,af,gd⟩= .need (constOk x=true∧constOk y=true) (boolQ P op t (ρ x) (ρ y)):=rfl
@[go_sem] theorem aop_unOp {d:Option Nat} {op:UnOp} {t:TypeId} {x:Operand} {ty:TypeId} {pos:String} {af:Array Edge} {gd:Option (Nat × Bool)}:aop P G ρ ⟨d,.unOp op t x,ty,pos,af,gd⟩=unQ op (ρ x):=rfl
@[go_sem] theorem aop_convert {d:Option Nat} {t t2:TypeId} {x:Operand} {ty:TypeId} {pos:String} {af:Array Edge} {gd:Option (Nat × Bool)}:aop P G ρ ⟨d,.convert t t2 x,ty,pos,af,gd⟩=convQ P t t2 (ρ x):=rfl
@[go_sem] theorem aop_slice {d:Option Nat} {t:TypeId} {x:Operand} {lo hi:Option Operand} {ty:TypeId} {pos:String} {af:Array Edge} {gd:Option (Nat × Bool)}:aop P G ρ ⟨d,.slice t x lo hi none,ty,pos,af,gd⟩=sliceQ P t (ρ x) (lo.map ρ) (hi.map ρ):=rfl
@[go_sem] theorem aop_fieldAddr {d:Option Nat} {t:TypeId} {x:Operand} {f:Nat} {ty:TypeId} {pos:String} {af:Array Edge} {gd:Option (Nat × Bool)}:aop P G ρ ⟨d,.fieldAddr t x f,ty,pos,af,gd⟩=fieldAddrQ P t (ρ x) f:=rfl
@[go_sem] theorem aop_indexAddr {d:Option Nat} {t:TypeId} {x y:Operand} {ty:TypeId} {pos:String} {af:Array Edge} {gd:Option (Nat × Bool)}:aop P G ρ ⟨d,.indexAddr t x y,ty,pos,af,gd⟩=indexAddrQ P t (ρ x) (ρ y):=rfl
@[go_sem] theorem aop_index {d:Option Nat} {t:TypeId} {x y:Operand} {ty:TypeId} {pos:String} {af:Array Edge} {gd:Option (Nat × Bool)}:aop P G ρ ⟨d,.index t x y,ty,pos,af,gd⟩= .need (constOk x=true) (indexQ P t (ρ x) (ρ y)):=rfl
@[go_sem] theorem aop_extract {d:Option Nat} {x:Operand} {i:Nat} {ty:TypeId} {pos:String} {af:Array Edge} {gd:Option (Nat × Bool)}:aop P G ρ ⟨d,.extract x i,ty,pos,af,gd⟩=extractQ (ρ x) i:=rfl
@[go_sem] theorem aop_callV {d:Option Nat} {f:Operand} {args:List Operand} {tys:Array TypeId} {ty:TypeId} {pos:String} {af:Array Edge} {gd:Option (Nat × Bool)} :
  aop P G ρ ⟨d,.call ⟨.value f,⟨args⟩,tys⟩,ty,pos,af,gd⟩= .need (constOk f=true∧args.all constOk=true) (callQ P G d (ρ f) (args.map ρ)):=rfl
@[go_sem] theorem aop_len {d:Option Nat} {x:Operand} {t:TypeId} {ty:TypeId} {pos:String} {af:Array Edge} {gd:Option (Nat × Bool)} :
  aop P G ρ ⟨d,.call ⟨.builtin .len,⟨[x]⟩,⟨[t]⟩⟩,ty,pos,af,gd⟩= .need (constOk x=true) (lenQ P t (ρ x)):=rfl
@[go_sem] theorem aop_append {d:Option Nat} {x y:Operand} {t t2:TypeId} {ty:TypeId} {pos:String} {af:Array Edge} {gd:Option (Nat × Bool)} :
  aop P G ρ ⟨d,.call ⟨.builtin .append,⟨[x,y]⟩,⟨[t,t2]⟩⟩,ty,pos,af,gd⟩= .need (constOk x=true∧constOk y=true) (appendQ P d t t2 (ρ x) (ρ y)):=rfl
@[go_sem] theorem aop_max {d:Option Nat} {x y:Operand} {tys:Array TypeId} {ty:TypeId} {pos:String} {af:Array Edge} {gd:Option (Nat × Bool)} :
  aop P G ρ ⟨d,.call ⟨.builtin .max,⟨[x,y]⟩,tys⟩,ty,pos,af,gd⟩= .need (constOk x=true∧constOk y=true) (minmaxQ true (ρ x) (ρ y)):=rfl
@[go_sem] theorem run_done {v:SV} {U:List (Nat × Option AObj)}:Q.run H rs Kc (.done v U)=Kc rs (.val v U):=rfl
@[go_sem] theorem run_pan {v:Value} {U:List (Nat × Option AObj)}:Q.run H rs Kc (.pan v U)=Kc rs (.pan v U):=rfl
@[go_sem] theorem run_need {p:Prop} {q:Q}:Q.run H rs Kc (.need p q)=(p∧q.run H rs Kc):=rfl
@[go_sem] theorem run_any {α:Type} {k:α→Q}:Q.run H rs Kc (.any α k)= ∃ x,(k x).run H rs Kc:=rfl
@[go_sem] theorem run_new {r:Nat} {q:Q}:Q.run H rs Kc (.new r q)=(H r=none∧q.run H (r::rs) Kc):=rfl
def objK (x:Option (Option AObj)) (k:AObj→Q) (H:Hp) (rs:List Nat) (Kc:List Nat→Out→Prop):Prop:=
 match x with
 | some (some o)=>(k o).run H rs Kc
 | _=>False
@[go_sem] theorem objK_some {o:AObj} {k:AObj→Q}:objK (some (some o)) k H rs Kc=(k o).run H rs Kc:=rfl
@[go_sem] theorem run_obj {r:Nat} {k:AObj→Q}:Q.run H rs Kc (.obj r k)=objK (H r) k H (r::rs) Kc:=by
 unfold objK
 rw [Q.run]
 rcases H r with _|_|o<;>rfl
def Br (t:Bool) (k:Bool→Prop):Prop:=k t
theorem zM {t:Bool} {k:Bool→Prop} (h1:t=true→k true) (h2:t=false→k false):Br t k:=by
 cases t
 ·exact h2 rfl
 ·exact h1 rfl
@[go_sem] theorem br_true {k:Bool→Prop}:Br true k=k true:=rfl
@[go_sem] theorem br_false {k:Bool→Prop}:Br false k=k false:=rfl
def nK (k:Bool→Prop) (b:Bool):Prop:=k (!b)
@[go_sem] theorem nK_true {k:Bool→Prop}:nK k true=k false:=rfl
@[go_sem] theorem nK_false {k:Bool→Prop}:nK k false=k true:=rfl
@[go_sem] theorem br_not {t:Bool} {k:Bool→Prop}:Br (!t) k=Br t (nK k):=rfl
def gK (P:Program) (G:Nat→Option (List D)) (o:Oper) (s:FSt) (Kc:List Nat→Out→Prop) (b:Bool):Prop:=
 match b with
 | true=>(aop P G (evl G s.sl) o).run s.ob [] Kc
 | false=>Kc [] (.val .undef [])
@[go_sem] theorem gK_true {o:Oper}:gK P G o s Kc true=(aop P G (evl G s.sl) o).run s.ob [] Kc:=rfl
@[go_sem] theorem gK_false {o:Oper}:gK P G o s Kc false=Kc [] (.val .undef []):=rfl
@[go_sem] theorem astepG_some {t:Bool} {o:Oper}:astepG P G (some t) o s Kc=Br t (gK P G o s Kc):=by
 cases t<;>rfl
def ifK (P:Program) (K:Ctx G) (F:Fr) (x y:Code) (R:Exit→FSt→Prop) (s:FSt) (b:Bool):Prop:=
 match b with
 | true=>Sound P K F x R s
 | false=>Sound P K F y R s
@[go_sem] theorem ifK_true {K:Ctx G} {F:Fr} {R:Exit→FSt→Prop} {x y:Code}:ifK P K F x y R s true=Sound P K F x R s:=rfl
@[go_sem] theorem ifK_false {K:Ctx G} {F:Fr} {R:Exit→FSt→Prop} {x y:Code}:ifK P K F x y R s false=Sound P K F y R s:=rfl
def condB (x:SV) (k:Bool→Prop):Prop:=
 match x with
 | .a (.c (.d (.v (.bool t))))=>k t
 | _=>False
@[go_sem] theorem condB_bool {t:Bool} {k:Bool→Prop}:condB (.a (.c (.d (.v (.bool t))))) k=k t:=rfl
theorem zN {K:Ctx G} {F:Fr} {R:Exit→FSt→Prop} {c:Operand} {x y:Code} (h:condB (evl G s.sl c) fun t=>Br t (ifK P K F x y R s)):Sound P K F (.cond c x y) R s:=by
 unfold condB at h
 split at h
 ·rename_i t e
  refine sound_cond e ?_
  cases t
  ·exact h
  ·exact h
 ·exact h.elim
theorem zR {ops:Array Oper} {l:List (List Nat × List Nat)} {p:Prop} (h:logOk ops l=true) (h2:p):logOk ops l=true∧p:=⟨h,h2⟩
theorem zV {ops:Array Oper} {l:List (List Nat × List Nat)} {p:Prop} (h2:p) (h:logOk ops l=true:=by kernel_rfl):logOk ops l=true∧p:=⟨h,h2⟩
theorem zA {K:Ctx G} {F:Fr} {R:Exit→FSt→Prop} {x y:Code} (h: ∀ Kn:FSt→Prop,(∀ s,Sound P K F y R s→Kn s)→Sound P K F x (Then Kn R) s):Sound P K F (.seq x y) R s:=sound_seq (h _ fun _ h=>h)
class Nx (g:Prop) (p:outParam Prop):Prop where
 go:p→g
section
variable {K:Ctx G} {F:Fr} {R:Exit→FSt→Prop} {x y:Code} {c:Operand} {id:Nat}
instance:Nx (Sound P K F (.block id x) R s) (Sound P K F x (InBlock id R) s):=⟨zD⟩
instance:Nx (Sound P K F .skip R s) (R .normal s):=⟨zG⟩
instance:Nx (Sound P K F .ret R s) (R .ret s):=⟨zF⟩
instance:Nx (Sound P K F (.exit id) R s) (R (.exit id) s):=⟨zH⟩
instance:Nx (Sound P K F (.cond c x y) R s) (condB (evl G s.sl c) fun t=>Br t (ifK P K F x y R s)):=⟨zN⟩
end
attribute [go_sem] FSt.app putS updO LSt.st lkS lkO upd evl cvS cvC constOk Then InBlock
attribute [go_sem] lenQ loadQ storeQ newQ boxQ partOf setAt valQ optQ binQ boolQ unQ arithV strV rdQ rdD fieldAddrQ indexAddrQ fieldQ indexQ partQ extractQ nilCheckQ arrPtrQ bndQ Cap.cut sliceQ buildQ buildSliceQ makeQ fillC placeOf
@[go_sem] theorem aop_makeFunc {d:Option Nat} {f:FuncId} {caps:List Operand} {ty:TypeId} {pos:String} {af:Array Edge} {gd:Option (Nat × Bool)}:aop P G ρ ⟨d,.makeFunc (.func f) #[] ⟨caps⟩,ty,pos,af,gd⟩= .need (caps.all constOk=true) (makeFnQ f (caps.map ρ)):=by simp [aop]
attribute [go_sem] isSl isPtr isFn nilQ Option.isNone_none Option.isNone_some Bool.false_bne Bool.true_bne Bool.bne_false Bool.bne_true
attribute [go_sem] callX callP callL D.flat C.flat DV.flat DR.flat SV.ref makeFnQ cvCaps List.any_cons List.any_nil Bool.or_false Bool.false_or Bool.or_true Bool.true_or
attribute [go_sem] true_or List.isEmpty_cons List.isEmpty_nil ifaceQ panicQ plainS extQ callQ cvArgs cvA cvQ cvW cvIn cvLS cvF cvL dOnly dOf Cap.part DR.out DV.av appendQ srcQ copyQ minmaxQ convQ gslot Ret resQ outOf initL
attribute [go_sem] List.map_cons List.map_nil List.all_cons List.all_nil Bool.and_true Bool.true_and and_true true_and Option.map_some Option.map_none ne_eq not_true_eq_false not_false_eq_true if_true if_false Bool.not_true Bool.not_false
attribute [go_sem] List.getElem?_cons_zero List.getElem?_cons_succ List.getElem?_nil List.take_zero List.take_succ_cons List.take_nil List.drop_zero List.drop_succ_cons List.drop_nil List.length_cons List.length_nil List.cons_append List.nil_append List.append_nil List.set_cons_zero List.set_cons_succ
attribute [go_sem] Nat.add_zero Nat.zero_add Nat.mul_one Nat.one_mul Nat.zero_mul Nat.sub_zero Int.toNat_natCast
@[go_sem] theorem bq_true {b:Bool}:(b==true)=b:=by cases b<;>rfl
@[go_sem] theorem bq_false {b:Bool}:(b==false)= !b:=by cases b<;>rfl
attribute [go_sem] Nat.reduceEqDiff Nat.reduceBEq Nat.reduceAdd Nat.reduceMul Nat.reduceSub Nat.reduceLeDiff Nat.reduceLT reduceCtorEq Int.reduceLE Int.reduceLT Int.reduceToNat Int.reduceBEq
attribute [go_sem ↓] reduceIte
attribute [go_sem] Option.bind_some List.reverse_cons List.reverse_nil Kd.agg beq_self_eq_true
end
end Go.Proofs.YtfammdfpgccnfaaGreatDoor
