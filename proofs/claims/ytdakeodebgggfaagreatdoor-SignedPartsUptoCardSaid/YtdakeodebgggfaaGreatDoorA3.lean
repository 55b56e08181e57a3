/- Parts of the proof, laid together. -/
import Derived.Test.YtdakeodebgggfaaGreatDoorA2
import Derived.Test.YtdakeodebgggfaaGreatDoorProg
import Derived.WalkKit
set_option linter.unusedVariables false
set_option linter.unusedSimpArgs false
set_option maxRecDepth 100000
set_option maxHeartbeats 8000000
namespace Go.Proofs.YtdakeodebgggfaaGreatDoor
open Go.RowKit
def wantA (ops:Array Oper) (f:Nat→SV) (o:Oper):Option Bool:=
  match o.guard with
  | none=>some true
  | some (j,b)=>match (ops[j]?).bind (·.dst) with
    | some t=>match f t with
      | .a (.c (.d (.v (.bool c))))=>some (c==b)
      | .undef=>some false
      | _=>none
    | none=>none
def rch (ops:Array Oper) (i:Nat):Nat→Nat→Bool
  | 0,_=>false
  | n+1,j=>match ops[j]? with
    | some oj=>oj.after.any fun e=>Region.binds .any e&&(e.on==i||(decide (i<e.on)&&rch ops i n e.on))
    | none=>false
def pairOk (ops:Array Oper) (i j:Nat) (x y:List Nat × List Nat):Bool:=
  match ops[i]?,ops[j]? with
  | some oi,some oj=>(oi.apart ops oj&&x.2.all (fun r=> !y.1.contains r&& !y.2.contains r)&&y.2.all fun r=> !x.1.contains r)||rch ops i 5 j
  | _,_=>false
def logOk (ops:Array Oper) (log:List (List Nat × List Nat)):Bool:=
  (List.range log.length).all (fun j=>(List.range j).all (fun i=>pairOk ops i j (log.getD i ([],[])) (log.getD j ([],[])))&&((ops[j]?).map fun o=>o.after.all fun e=> !Region.binds .any e||decide (e.on<j)).getD false)
def astep (P:Program) (G:Nat→Option (List D)) (ops:Array Oper) (o:Oper) (s:FSt) (K:List Nat→Out→Prop):Prop:=
  match wantA ops s.sl o with
  | some true=>(aop P G (evl G s.sl) o).run s.ob [] K
  | some false=>K [] (.val .undef [])
  | none=>False
def deadA (Z:List Nat) (o:Oper):Bool:=o.after.any fun e=>Region.binds .any e&&Z.contains e.on
def arunZ (P:Program) (G:Nat→Option (List D)) (ops:Array Oper) (Qp:Value→FSt→Prop):List Nat→List Oper→FSt→List (List Nat × List Nat)→Prop
  | _,[],_,log=>logOk ops log.reverse=true
  | Z,o::rest,s,log=>(deadA Z o=true∧arunZ P G ops Qp (log.length::Z) rest (s.app o.dst .bot []) (([],[])::log)) ∨
    astep P G ops o s fun rs out=>match out with
      | .val v U=>arunZ P G ops Qp Z rest (s.app o.dst v U) ((rs,U.map (·.1))::log)
      | .pan v U=>U=[]∧(∀ s',Qp v s')∧arunZ P G ops Qp (log.length::Z) rest (s.app o.dst .bot []) ((rs,[])::log)
def arun (P:Program) (G:Nat→Option (List D)) (ops:Array Oper) (draw:Bool) (Qp:Value→FSt→Prop):List Oper→FSt→List (List Nat × List Nat)→(FSt→Prop)→Prop
  | [],s,log,K=>(draw=true→logOk ops log.reverse=true)∧K s
  | o :: rest,s,log,K=>astep P G ops o s fun rs out=>match out with
    | .val v U=>arun P G ops draw Qp rest (s.app o.dst v U) ((rs,U.map (·.1))::log) K
    | .pan v U=>match draw with
      | false=>Qp v ⟨s.sl,updO s.ob U⟩
      | true=>U=[]∧(∀ s',Qp v s')∧arunZ P G ops Qp [log.length] rest (s.app o.dst .bot []) ((rs,[])::log)
def dstOk (n:Nat) (ops:Array Oper):Bool:=ops.all fun o=>match o.dst with
  | some d=>decide (d<n)
  | none=>true
theorem Q.run_elim {H:Hp} {Kc:List Nat→Out→Prop}: ∀ {q:Q} {rs:List Nat},q.run H rs Kc→ ∃ rd out,Kc rd out∧q.run H rs (fun x y=>x=rd∧y=out):=by
  intro q
  induction q with
  | done v U=>exact fun h=>⟨_,_,h,rfl,rfl⟩
  | pan v U=>exact fun h=>⟨_,_,h,rfl,rfl⟩
  | obj r k ih =>
    intro rs h
    simp only [Q.run] at h ⊢
    split at h
    · exact ih _ h
    · exact h.elim
  | new r k ih =>
    intro rs h
    obtain ⟨rd,out,h1,h2⟩:=ih h.2
    exact ⟨rd,out,h1,h.1,h2⟩
  | need p k ih =>
    intro rs h
    obtain ⟨rd,out,h1,h2⟩:=ih h.2
    exact ⟨rd,out,h1,h.1,h2⟩
  | any α k ih =>
    rintro rs ⟨x,h⟩
    obtain ⟨rd,out,h1,h2⟩:=ih x h
    exact ⟨rd,out,h1,x,h2⟩
  | fail=>exact fun h=>h.elim
theorem Q.run_sub {H:Hp} {rd:List Nat} {out:Out}: ∀ {q:Q} {rs:List Nat},q.run H rs (fun x y=>x=rd∧y=out)→ ∀ r∈rs,r∈rd:=by
  intro q
  induction q with
  | done v U=>exact fun h r hr=>by rw [← h.1];exact hr
  | pan v U=>exact fun h r hr=>by rw [← h.1];exact hr
  | obj r k ih =>
    intro rs h r' hr'
    simp only [Q.run] at h
    split at h
    · exact ih _ h r' (List.mem_cons_of_mem _ hr')
    · exact h.elim
  | new r k ih=>exact fun h r' hr'=>ih h.2 r' (List.mem_cons_of_mem _ hr')
  | need p k ih=>exact fun h=>ih h.2
  | any α k ih=>exact fun ⟨x,h⟩=>ih x h
  | fail=>exact fun h=>h.elim
theorem Q.run_local {H H':Hp} {rd:List Nat} {out:Out} (hH: ∀ r∈rd,H' r=H r): ∀ {q:Q} {rs:List Nat},q.run H rs (fun x y=>x=rd∧y=out)→q.run H' rs (fun x y=>x=rd∧y=out):=by
  intro q
  induction q with
  | done v U=>exact fun h=>h
  | pan v U=>exact fun h=>h
  | obj r k ih =>
    intro rs h
    simp only [Q.run] at h ⊢
    split at h
    · rename_i o ho
      rw [hH r (Q.run_sub h r (List.mem_cons_self ..)),ho]
      exact ih _ h
    · exact h.elim
  | new r k ih=>exact fun h=>⟨by rw [hH r (Q.run_sub h.2 r (List.mem_cons_self ..))];exact h.1,ih h.2⟩
  | need p k ih=>exact fun h=>⟨h.1,ih h.2⟩
  | any α k ih=>exact fun ⟨x,h⟩=>⟨x,ih x h⟩
  | fail=>exact fun h=>h
theorem aop_congr {P:Program} {G:Nat→Option (List D)} {ρ ρ':Operand→SV} {o:Oper} (h: ∀ x∈o.op.operands, ρ x=ρ' x):aop P G ρ o=aop P G ρ' o:=by
  obtain ⟨dst,op,type,pos,after,guard⟩:=o
  have pairs: ∀ ps:Array (Nat × Operand),(∀ x∈(ps.toList.map (·.2)).toArray, ρ x=ρ' x)→(ps.toList.map fun p=>(p.1, ρ p.2))=(ps.toList.map fun p=>(p.1, ρ' p.2)):=fun ps hp =>
    List.map_congr_left fun p hm=>by
      obtain ⟨i,x⟩:=p
      simp only [hp x (by simpa using ⟨i,by simpa using hm⟩)]
  cases op <;> simp only [Op.operands] at h <;> simp only [aop]
  case build t ps=>rw [pairs ps h]
  case buildSlice t n ps=>rw [pairs ps h]
  case makeFunc fn first caps =>
    cases fn with
    | func f =>
      have e:caps.toList.map ρ=caps.toList.map ρ':=List.map_congr_left fun x hx=>h x (by simp [show x∈caps by simpa using hx])
      simp only [e]
    | _=>rfl
  case slice t x lo hi mx=>cases lo <;> cases hi <;> cases mx <;> simp_all
  case call c =>
    obtain ⟨callee,⟨args⟩,⟨tys⟩⟩:=c
    have hargs:args.map ρ=args.map ρ':=List.map_congr_left fun x hx=>h x (by simp [Call.operands,hx])
    dsimp only
    cases callee with
    | value f =>
      have hf:ρ f=ρ' f:=h f (by simp [Call.operands])
      simp only [callAop,hargs,hf]
    | invoke r n=>rfl
    | builtin b =>
      have hm: ∀ x∈args, ρ x=ρ' x:=fun x hx=>h x (by simp [Call.operands,hx])
      clear h hargs pairs
      unfold callAop
      split <;> simp_all
  all_goals (first|rfl|(simp_all;done))
section
variable {G:Nat→Option (List D)} {P:Program} {ops:Array Oper} {Qp:Value→FSt→Prop} {Z:List Nat}
def CondAt (P:Program) (G:Nat→Option (List D)) (ops:Array Oper) (Qp:Value→FSt→Prop) (Z:List Nat) (i:Nat) (o:Oper) (s:FSt) (rd:List Nat) (v:SV) (U:List (Nat × Option AObj)):Prop:=
  (i ∉ Z∧astep P G ops o s (fun x y=>x=rd∧y= .val v U))∨(i∈Z∧U=[]∧((∃ pv,astep P G ops o s (fun x y=>x=rd∧y= .pan pv [])∧ ∀ s',Qp pv s')∨ ∃ e∈o.after,Region.binds .any e=true∧e.on∈Z))
def StepAt (P:Program) (G:Nat→Option (List D)) (ops:Array Oper) (Qp:Value→FSt→Prop) (Z:List Nat) (i:Nat) (s s':FSt) (rd wr:List Nat):Prop:=
  ∃ o v U,ops[i]?=some o∧CondAt P G ops Qp Z i o s rd v U∧wr=U.map (·.1)∧s'=s.app o.dst v U
theorem evl_put {f:Nat→SV} {d:Option Nat} {v:SV} {x:Operand} (h: ∀ t,d=some t→x≠ .tmp t):evl G (putS f d v) x=evl G f x:=by
  cases x with
  | tmp t =>
    cases d with
    | none=>rfl
    | some d=>exact upd_ne fun e=>h d rfl (by rw [e])
  | _=>rfl
theorem updO_ne {H:Hp}: ∀ {U:List (Nat × Option AObj)} {r:Nat},(∀ p∈U,p.1≠r)→updO H U r=H r
  | [],_,_=>rfl
  | (r',o)::U,r,h=>by
    rw [updO,updO_ne (H:=upd H r' (some o)) fun p hp=>h p (List.mem_cons_of_mem _ hp)]
    exact upd_ne fun e=>h _ (List.mem_cons_self ..) e.symm
theorem updO_same {H H':Hp}: ∀ {U:List (Nat × Option AObj)} {r:Nat},(∃ p∈U,p.1=r)→updO H U r=updO H' U r
  | [],_,h=>by obtain ⟨p,hp,_⟩:=h;cases hp
  | (r',o)::U,r,h=>by
    simp only [updO]
    by_cases hr: ∃ p∈U,p.1=r
    · exact updO_same hr
    · have hn: ∀ p∈U,p.1≠r:=fun p hp e=>hr ⟨p,hp,e⟩
      rw [updO_ne hn,updO_ne hn]
      obtain ⟨p,hp,e⟩:=h
      rcases List.mem_cons.1 hp with rfl|hp
      · subst e
        rw [upd_same,upd_same]
      · exact absurd e (hn p hp)
theorem updO_comm {H:Hp} {U V:List (Nat × Option AObj)} (h: ∀ p∈U,∀ q∈V,p.1≠q.1):updO (updO H U) V=updO (updO H V) U:=by
  funext r
  by_cases hV: ∃ q∈V,q.1=r
  · have hU: ∀ p∈U,p.1≠r:=fun p hp e=>by
      obtain ⟨q,hq,e2⟩:=hV
      exact h p hp q hq (e.trans e2.symm)
    rw [updO_ne (H:=updO H V) hU]
    exact updO_same hV
  · have hV': ∀ q∈V,q.1≠r:=fun q hq e=>hV ⟨q,hq,e⟩
    rw [updO_ne hV']
    by_cases hU: ∃ p∈U,p.1=r
    · exact updO_same hU
    · have hU': ∀ p∈U,p.1≠r:=fun p hp e=>hU ⟨p,hp,e⟩
      rw [updO_ne hU',updO_ne hU',updO_ne hV']
theorem putS_comm {f:Nat→SV} {d e:Option Nat} {u v:SV} (h: ∀ t,d=some t→e≠some t):putS (putS f d u) e v=putS (putS f e v) d u:=by
  cases d with
  | none=>rfl
  | some d =>
    cases e with
    | none=>rfl
    | some e=>exact upd_comm fun he=>h d rfl (by rw [he])
theorem astep_local {o:Oper} {s s':FSt} {d:Option Nat} {v:SV} {rd:List Nat} {out:Out} (hd: ∀ t,d=some t→t ∉ o.looksAt ops) (hs:s'.sl=putS s.sl d v) (ho: ∀ r∈rd,s'.ob r=s.ob r)
    (h:astep P G ops o s (fun x y=>x=rd∧y=out)):astep P G ops o s' (fun x y=>x=rd∧y=out):=by
  have h1: ∀ x∈o.op.operands,evl G s'.sl x=evl G s.sl x:=fun x hx=>by
    rw [hs]
    refine evl_put fun t ht e=>hd t ht ?_
    subst e
    exact List.mem_append_left _ (List.mem_filterMap.2 ⟨.tmp t,by simpa using hx,rfl⟩)
  have h2 : wantA ops s'.sl o=wantA ops s.sl o:=by
    unfold wantA
    cases hg:o.guard with
    | none=>rfl
    | some gw =>
      obtain ⟨g,want⟩:=gw
      dsimp only
      cases ht:(ops[g]?).bind (·.dst) with
      | none=>rfl
      | some t =>
        have:s'.sl t=s.sl t:=by
          have:=evl_put (G:=G) (f:=s.sl) (d:=d) (v:=v) (x:= .tmp t) fun t' ht' e=>hd t' ht' (by
            injection e with e
            subst e
            simp [Oper.looksAt,hg,ht])
          rw [hs]
          exact this
        simp only [this]
  unfold astep at h ⊢
  rw [h2]
  split at h
  · rw [aop_congr h1]
    exact Q.run_local ho h
  · exact h
  · exact h
theorem astep_unlocal {o:Oper} {s s':FSt} {d:Option Nat} {v:SV} {rd:List Nat} {out:Out} (hd: ∀ t,d=some t→t ∉ o.looksAt ops) (hs:s'.sl=putS s.sl d v) (ho: ∀ r∈rd,s'.ob r=s.ob r)
    (h:astep P G ops o s' (fun x y=>x=rd∧y=out)):astep P G ops o s (fun x y=>x=rd∧y=out):=by
  have h1: ∀ x∈o.op.operands,evl G s'.sl x=evl G s.sl x:=fun x hx=>by
    rw [hs]
    refine evl_put fun t ht e=>hd t ht ?_
    subst e
    exact List.mem_append_left _ (List.mem_filterMap.2 ⟨.tmp t,by simpa using hx,rfl⟩)
  have h2 : wantA ops s'.sl o=wantA ops s.sl o:=by
    unfold wantA
    cases hg:o.guard with
    | none=>rfl
    | some gw =>
      obtain ⟨g,want⟩:=gw
      dsimp only
      cases ht:(ops[g]?).bind (·.dst) with
      | none=>rfl
      | some t =>
        have:s'.sl t=s.sl t:=by
          have:=evl_put (G:=G) (f:=s.sl) (d:=d) (v:=v) (x:= .tmp t) fun t' ht' e=>hd t' ht' (by
            injection e with e
            subst e
            simp [Oper.looksAt,hg,ht])
          rw [hs]
          exact this
        simp only [this]
  unfold astep at h ⊢
  rw [h2] at h
  split at h
  · rw [aop_congr h1] at h
    exact Q.run_local (fun r hr=>(ho r hr).symm) h
  · exact h
  · exact h
theorem CondAt.fwd {i:Nat} {o:Oper} {s s':FSt} {d:Option Nat} {u v:SV} {rd:List Nat} {U:List (Nat × Option AObj)} (hd: ∀ t,d=some t→t ∉ o.looksAt ops) (hs:s'.sl=putS s.sl d u) (ho: ∀ r∈rd,s'.ob r=s.ob r) (h:CondAt P G ops Qp Z i o s rd v U):CondAt P G ops Qp Z i o s' rd v U:=by
  rcases h with ⟨h0,h⟩|⟨h1,h2,⟨pv,h3,h4⟩|h3⟩
  · exact .inl ⟨h0,astep_local hd hs ho h⟩
  · exact .inr ⟨h1,h2,.inl ⟨pv,astep_local hd hs ho h3,h4⟩⟩
  · exact .inr ⟨h1,h2,.inr h3⟩
theorem CondAt.bwd {i:Nat} {o:Oper} {s s':FSt} {d:Option Nat} {u v:SV} {rd:List Nat} {U:List (Nat × Option AObj)} (hd: ∀ t,d=some t→t ∉ o.looksAt ops) (hs:s'.sl=putS s.sl d u) (ho: ∀ r∈rd,s'.ob r=s.ob r) (h:CondAt P G ops Qp Z i o s' rd v U):CondAt P G ops Qp Z i o s rd v U:=by
  rcases h with ⟨h0,h⟩|⟨h1,h2,⟨pv,h3,h4⟩|h3⟩
  · exact .inl ⟨h0,astep_unlocal hd hs ho h⟩
  · exact .inr ⟨h1,h2,.inl ⟨pv,astep_unlocal hd hs ho h3,h4⟩⟩
  · exact .inr ⟨h1,h2,.inr h3⟩
def Apart (ops:Array Oper) (x y:Nat × List Nat × List Nat):Prop:=
  ∃ oi oj,ops[x.1]?=some oi∧ops[y.1]?=some oj∧oi.apart ops oj=true∧(∀ r∈x.2.2,r ∉ y.2.1∧r ∉ y.2.2)∧ ∀ r∈y.2.2,r ∉ x.2.1
theorem swap {i j:Nat} {s s1 s2:FSt} {rdi wri rdj wrj:List Nat} (hA:Apart ops (i,rdi,wri) (j,rdj,wrj)) (h1:StepAt P G ops Qp Z i s s1 rdi wri) (h2:StepAt P G ops Qp Z j s1 s2 rdj wrj) :
    ∃ s1',StepAt P G ops Qp Z j s s1' rdj wrj∧StepAt P G ops Qp Z i s1' s2 rdi wri:=by
  obtain ⟨oi,oj,hi,hj,hap,hx,hy⟩:=hA
  obtain ⟨a1,a2,a3⟩:=Oper.apart_spec hap
  obtain ⟨o1,v1,U1,e1,r1,w1,q1⟩:=h1
  obtain ⟨o2,v2,U2,e2,r2,w2,q2⟩:=h2
  rw [hi] at e1
  rw [hj] at e2
  injection e1 with e1
  injection e2 with e2
  subst o1 o2 q1
  subst q2
  subst w1 w2
  have n1: ∀ r∈rdj,updO s.ob U1 r=s.ob r:=fun r hr=>updO_ne fun p hp e=>(hx p.1 (List.mem_map_of_mem hp)).1 (by rw [e];exact hr)
  have n2: ∀ r∈rdi,updO s.ob U2 r=s.ob r:=fun r hr=>updO_ne fun p hp e=>hy p.1 (List.mem_map_of_mem hp) (by rw [e];exact hr)
  have n3: ∀ p∈U1,∀ q∈U2,p.1≠q.1:=fun p hp q hq e=>(hx p.1 (List.mem_map_of_mem hp)).2 (by rw [e];exact List.mem_map_of_mem hq)
  refine ⟨s.app oj.dst v2 U2,⟨oj,v2,U2,hj,CondAt.bwd a1 rfl n1 r2,rfl,rfl⟩,⟨oi,v1,U1,hi,CondAt.fwd a3 rfl n2 r1,rfl,?_⟩⟩
  show FSt.mk (putS (putS s.sl oi.dst v1) oj.dst v2) (updO (updO s.ob U1) U2)=FSt.mk (putS (putS s.sl oj.dst v2) oi.dst v1) (updO (updO s.ob U2) U1)
  rw [show putS (putS s.sl oi.dst v1) oj.dst v2=putS (putS s.sl oj.dst v2) oi.dst v1 from putS_comm fun t ht=>fun e=>a2 t ht e,updO_comm n3]
def RunL (P:Program) (G:Nat→Option (List D)) (ops:Array Oper) (Qp:Value→FSt→Prop) (Z:List Nat):List (Nat × List Nat × List Nat)→FSt→FSt→Prop
  | [],s,s'=>s=s'
  | x::l,s,s'=> ∃ s1,StepAt P G ops Qp Z x.1 s s1 x.2.1 x.2.2∧RunL P G ops Qp Z l s1 s'
theorem move_front {y:Nat × List Nat × List Nat} {l2:List (Nat × List Nat × List Nat)} {s':FSt}: ∀ {l1:List (Nat × List Nat × List Nat)} {s:FSt},(∀ x∈l1,Apart ops x y)→RunL P G ops Qp Z (l1++y::l2) s s'→RunL P G ops Qp Z (y::(l1++l2)) s s'
  | [],s,_,h=>h
  | x::l1,s,hA,h=>by
    obtain ⟨s1,h1,h2⟩:=h
    obtain ⟨s2,h3,h4⟩:=move_front (fun x hx=>hA x (List.mem_cons_of_mem _ hx)) h2
    obtain ⟨s3,h5,h6⟩:=swap (hA x (List.mem_cons_self ..)) h1 h3
    exact ⟨s3,h5,s2,h6,h4⟩
end
end Go.Proofs.YtdakeodebgggfaaGreatDoor
namespace Go.Proofs.YtdakeodebgggfaaGreatDoor
open Go.RowKit
section
variable {G:Nat→Option (List D)} {P:Program} {K:Ctx G} {F:Fr} {Q:Exit→FSt→Prop} {s:FSt} {m:NM} {a:Act} {w:World} {ops:Array Oper}
theorem Oper.wp_monoQ {o:Oper} {N N':Act→World→Prop} {R R':Exit→Act→World→Prop} (hN: ∀ a w,N a w→N' a w) (hR: ∀ e a w,R e a w→R' e a w) (h:o.wp P a w N R):o.wp P a w N' R':=by
  have hL:LetsOut R→LetsOut R':=fun ⟨a,w,h⟩=>⟨a,w,hR _ _ _ h⟩
  unfold Oper.wp at *
  generalize (execOp a.eval o).run P w=r at *
  cases r with
  | ok n w' =>
    cases n <;> simp only [Oper.upon] at h ⊢ <;>
      first
        | exact hN _ _ h
        | exact Calls.mono h (fun e w'' he=>by cases e <;> first|exact hN _ _ he|exact hR _ _ _ he|exact hL he)
        | exact Rows.mono h (fun _ _ he=>hN _ _ he)
  | halt x w'=>cases x <;> simp only [Oper.upon] at h ⊢ <;> first|exact hR _ _ _ h|exact h
theorem tmps_get {t:Nat} {b:Bool} (hs:a.tmps.size=F.n) (h:a.tmps.getD t Go.undef= .bool b):a.tmps[t]?=some (.bool b):=by
  rw [Array.getD_eq_getD_getElem?] at h
  cases hq:a.tmps[t]? with
  | none=>rw [hq] at h;cases h
  | some v =>
    rw [hq] at h
    simp at h
    rw [h]
theorem want_ok {o:Oper} {b:Bool} (hR:Rel K F m s a w) (h:wantA ops s.sl o=some b):Region.wanted o (yielded ops a.tmps)=b:=by
  unfold wantA at h
  unfold Region.wanted
  split at h
  · rename_i hg
    rw [hg]
    injection h with h
  · rename_i j want hg
    rw [hg]
    dsimp only
    split at h
    · rename_i t ht
      have hsl:=hR.slot t
      split at h
      · rename_i c e
        rw [e] at hsl
        injection h with h
        have hc:a.tmps.getD t Go.undef= .bool c:=rs_v hsl
        have hy:yielded ops a.tmps j=some c:=by
          unfold yielded
          rw [ht]
          simp only [Option.bind_some,tmps_get (F:=F) hR.size hc]
        rw [hy,← h]
        cases c <;> cases want <;> rfl
      · rename_i e
        rw [e] at hsl
        injection h with h
        have hc:a.tmps.getD t Go.undef=Go.undef:=hsl
        have hy:yielded ops a.tmps j=none:=by
          unfold yielded
          rw [ht]
          simp only [Option.bind_some]
          rw [Array.getD_eq_getD_getElem?] at hc
          cases hq:a.tmps[t]? with
          | none=>rfl
          | some v =>
            rw [hq] at hc
            simp at hc
            subst hc
            rfl
        rw [hy,← h]
        rfl
      · cases h
    · cases h
theorem astep_ok {o:Oper} {Kc:List Nat→Out→Prop} (hR:Rel K F m s a w) (hd: ∀ d,o.dst=some d→d<F.n) (h:astep P G ops o s Kc) :
    (Region.wanted o (yielded ops a.tmps)=true∧ ∃ rd out,Kc rd out∧OpGoal P K F s o a w out)∨(Region.wanted o (yielded ops a.tmps)=false∧Kc [] (.val .undef [])∧Rel K F m (s.app o.dst .undef []) (a.put o.dst Go.undef) w):=by
  unfold astep at h
  split at h
  · rename_i hw
    exact .inl ⟨want_ok hR hw,aop_sound hR hd [] _ h⟩
  · rename_i hw
    exact .inr ⟨want_ok hR hw,h,hR.put hd rfl⟩
  · exact h.elim
theorem Rel.panLift {v:Value} (h: ∃ m',Rel K F m' s a w) (hq:Q (.panic [{ v,recovered:=false }]) s):Lift K F Q (.panic [{ v,recovered:=false }]) a w:=by
  obtain ⟨m',h⟩:=h
  exact ⟨m',s,h,hq⟩
theorem arun_list: ∀ (l:List Oper) (s:FSt) (log:List (List Nat × List Nat)) (m:NM) (a:Act) (w:World),arun P G ops false (fun v s=>Q (.panic [{ v,recovered:=false }]) s) l s log (fun s=>Q .normal s)→Rel K F m s a w→(∀ o∈l,∀ d,o.dst=some d→d<F.n)→wpList P ops (Lift K F Q) l a w
  | [],s,log,m,a,w,h,hR,_=>⟨m,s,hR,h.2⟩
  | o :: rest,s,log,m,a,w,h,hR,hd=>by
    have ih:=fun s log m a w h hR=>arun_list rest s log m a w h hR fun o ho=>hd o (List.mem_cons_of_mem _ ho)
    unfold wpList
    rcases astep_ok hR (hd o (List.mem_cons_self ..)) h with ⟨hw,rd,out,hk,hg⟩|⟨hw,hk,hg⟩
    · rw [if_pos hw]
      refine .inl ?_
      cases out with
      | val v U=>exact Oper.wp_mono (fun a' w' ⟨m',hr⟩=>ih _ _ m' a' w' hk hr) (hg (Lift K F Q))
      | pan v U=>exact Oper.wp_monoQ (fun _ _ h=>h.elim) (fun e a' w' ⟨he,hr⟩=>by subst he;exact Rel.panLift hr hk) hg
    · rw [if_neg (by rw [hw];simp)]
      exact ih _ _ m _ w hk hg
theorem zB0 {id:Nat} (hd:dstOk F.n ops=true) (h:arun P G ops false (fun v s=>Q (.panic [{ v,recovered:=false }]) s) ops.toList s [] (fun s=>Q .normal s)):Sound P K F (.region id ops false) Q s:=fun m a w hR =>
  wp_region_list (arun_list _ _ _ m a w h hR fun o ho d e=>by
    unfold dstOk at hd
    rw [Array.all_eq_true'] at hd
    have:=hd o (by simpa using ho)
    rw [e] at this
    simpa using this)
theorem arunZ_runL {Qp:Value→FSt→Prop}: ∀ (l:List Oper) (k:Nat) (Z:List Nat) (s:FSt) (log:List (List Nat × List Nat)),log.length=k→(∀ z∈Z,z<k)→(∀ j,l[j]?=ops[k+j]?)→arunZ P G ops Qp Z l s log →
    ∃ R s' Z',RunL P G ops Qp Z' R s s'∧(∀ z∈Z,z∈Z')∧(∀ z∈Z',z∈Z∨z∈R.map (·.1))∧R.map (·.1)=List.range' k l.length∧logOk ops (log.reverse++R.map (·.2))=true
  | [],k,Z,s,log,hk,hzk,hl,h=>⟨[],s,Z,rfl,fun _ h=>h,fun _ h=> .inl h,rfl,by simpa [arunZ] using h⟩
  | o :: rest,k,Z,s,log,hk,hzk,hl,h=>by
    have h0:ops[k]?=some o:=by simpa using (hl 0).symm
    have hl': ∀ j,rest[j]?=ops[k+1+j]?:=fun j=>by have:=hl (j+1);simpa [Nat.add_assoc,Nat.add_comm 1 j] using this
    have fin: ∀ (rd:List Nat) (v:SV) (U:List (Nat × Option AObj)) (Z1:List Nat),(∀ Z',(∀ z∈Z1,z∈Z')→(k∈Z'→k∈Z1)→CondAt P G ops Qp Z' k o s rd v U)→(∀ z∈Z,z∈Z1)→(∀ z∈Z1,z∈Z∨z=k)→arunZ P G ops Qp Z1 rest (s.app o.dst v U) ((rd,U.map (·.1))::log) →
        ∃ R s' Z',RunL P G ops Qp Z' R s s'∧(∀ z∈Z,z∈Z')∧(∀ z∈Z',z∈Z∨z∈R.map (·.1))∧R.map (·.1)=List.range' k (o::rest).length∧logOk ops (log.reverse++R.map (·.2))=true:=fun rd v U Z1 hc hz1 hz2 h2=>by
      obtain ⟨R,s',Z',h3,h4,h5,h6,h7⟩:=arunZ_runL rest (k+1) Z1 _ _ (by simp [hk]) (fun z hz=>by
        rcases hz2 z hz with h|h
        · have:=hzk z h
          omega
        · omega) hl' h2
      refine ⟨(k,rd,U.map (·.1))::R,s',Z',⟨_,⟨o,v,U,h0,hc Z' h4 (fun hkz=>by
        rcases h5 k hkz with h|h
        · exact h
        · rw [h6,List.mem_range'_1] at h
          omega),rfl,rfl⟩,h3⟩,fun z hz=>h4 z (hz1 z hz),fun z hz=>?_,by simp [h6,List.range'_succ],by simpa using h7⟩
      rcases h5 z hz with h|h
      · rcases hz2 z h with h|h
        · exact .inl h
        · exact .inr (by rw [h];simp)
      · exact .inr (by simp only [List.map_cons];exact List.mem_cons_of_mem _ h)
    unfold arunZ at h
    rcases h with ⟨hd,h⟩|h
    · rw [hk] at h
      refine fin [] .bot [] (k::Z) (fun Z' hz _=> .inr ⟨hz k (List.mem_cons_self ..),rfl,.inr ?_⟩) (fun z hz=>List.mem_cons_of_mem _ hz) (fun z hz=>(List.mem_cons.1 hz).symm) h
      unfold deadA at hd
      rw [Array.any_eq_true'] at hd
      obtain ⟨e,he,hb⟩:=hd
      rw [Bool.and_eq_true,List.contains_iff_mem] at hb
      exact ⟨e,he,hb.1,hz _ (List.mem_cons_of_mem _ hb.2)⟩
    · have key:(∃ rd v U,astep P G ops o s (fun x y=>x=rd∧y= .val v U)∧arunZ P G ops Qp Z rest (s.app o.dst v U) ((rd,U.map (·.1))::log)) ∨
          ∃ rd v,astep P G ops o s (fun x y=>x=rd∧y= .pan v [])∧(∀ s',Qp v s')∧arunZ P G ops Qp (log.length::Z) rest (s.app o.dst .bot []) ((rd,[])::log):=by
        unfold astep at h ⊢
        split at h
        · obtain ⟨rd,out,h1,h2⟩:=Q.run_elim h
          cases out with
          | val v U=>exact .inl ⟨rd,v,U,h2,h1⟩
          | pan v U =>
            obtain ⟨rfl,h3,h4⟩:=h1
            exact .inr ⟨rd,v,h2,h3,h4⟩
        · exact .inl ⟨[],.undef,[],⟨rfl,rfl⟩,h⟩
        · exact h.elim
      rcases key with ⟨rd,v,U,h1,h2⟩|⟨rd,pv,h1,h2,h3⟩
      · exact fin rd v U Z (fun Z' _ hkz=> .inl ⟨fun hz=>by have:=hzk k (hkz hz);omega,h1⟩) (fun _ h=>h) (fun _ h=> .inl h) h2
      · rw [hk] at h3
        exact fin rd .bot [] (k::Z) (fun Z' hz _=> .inr ⟨hz k (List.mem_cons_self ..),rfl,.inl ⟨pv,h1,h2⟩⟩) (fun z hz=>List.mem_cons_of_mem _ hz) (fun z hz=>(List.mem_cons.1 hz).symm) h3
theorem arun_runL {Qp:Value→FSt→Prop} {Kn:FSt→Prop}: ∀ (l:List Oper) (k:Nat) (s:FSt) (log:List (List Nat × List Nat)),log.length=k→(∀ j,l[j]?=ops[k+j]?)→arun P G ops true Qp l s log Kn →
    ∃ R s' Z,RunL P G ops Qp Z R s s'∧(Z=[]→Kn s')∧(∀ z∈Z,z∈R.map (·.1))∧R.map (·.1)=List.range' k l.length∧logOk ops (log.reverse++R.map (·.2))=true
  | [],k,s,log,hk,hl,h=>⟨[],s,[],rfl,fun _=>h.2,fun _ h=>h,rfl,by simpa using h.1 rfl⟩
  | o :: rest,k,s,log,hk,hl,h=>by
    have h0:ops[k]?=some o:=by simpa using (hl 0).symm
    have hl': ∀ j,rest[j]?=ops[k+1+j]?:=fun j=>by have:=hl (j+1);simpa [Nat.add_assoc,Nat.add_comm 1 j] using this
    have key:(∃ rd v U,astep P G ops o s (fun x y=>x=rd∧y= .val v U)∧arun P G ops true Qp rest (s.app o.dst v U) ((rd,U.map (·.1))::log) Kn) ∨
        ∃ rd v,astep P G ops o s (fun x y=>x=rd∧y= .pan v [])∧(∀ s',Qp v s')∧arunZ P G ops Qp [log.length] rest (s.app o.dst .bot []) ((rd,[])::log):=by
      unfold arun at h
      unfold astep at h ⊢
      split at h
      · obtain ⟨rd,out,h1,h2⟩:=Q.run_elim h
        cases out with
        | val v U=>exact .inl ⟨rd,v,U,h2,h1⟩
        | pan v U =>
          obtain ⟨rfl,h3,h4⟩:=h1
          exact .inr ⟨rd,v,h2,h3,h4⟩
      · exact .inl ⟨[],.undef,[],⟨rfl,rfl⟩,h⟩
      · exact h.elim
    rcases key with ⟨rd,v,U,h1,h2⟩|⟨rd,pv,h1,h2,h3⟩
    · obtain ⟨R,s',Z,h3,h4,h5,h6,h7⟩:=arun_runL rest (k+1) _ _ (by simp [hk]) hl' h2
      exact ⟨(k,rd,U.map (·.1))::R,s',Z,⟨_,⟨o,v,U,h0,.inl ⟨fun hz=>by
        have h9:=h5 k hz
        rw [h6,List.mem_range'_1] at h9
        omega,h1⟩,rfl,rfl⟩,h3⟩,h4,fun z hz=>by simp only [List.map_cons];exact List.mem_cons_of_mem _ (h5 z hz),by simp [h6,List.range'_succ],by simpa using h7⟩
    · rw [hk] at h3
      obtain ⟨R,s',Z,h4,h5,h6,h7,h8⟩:=arunZ_runL rest (k+1) [k] _ _ (by simp [hk]) (fun z hz=>by simp at hz;omega) hl' h3
      refine ⟨(k,rd,[])::R,s',Z,⟨_,⟨o,.bot,[],h0,.inr ⟨h5 k (List.mem_cons_self ..),rfl,.inl ⟨pv,h1,h2⟩⟩,rfl,rfl⟩,h4⟩,fun e=>?_,fun z hz=>?_,by simp [h7,List.range'_succ],by simpa using h8⟩
      · have:=h5 k (List.mem_cons_self ..)
        rw [e] at this
        cases this
      · rcases h6 z hz with h|h
        · simp at h
          rw [h]
          simp
        · simp only [List.map_cons]
          exact List.mem_cons_of_mem _ h
theorem rch_listed {listed:Array Bool} (hcl: ∀ k,listed.getD k false=true→ ∀ o,ops[k]?=some o→ ∀ e∈o.after,Region.binds .any e=true→listed.getD e.on false=true) :
    ∀ (n i j:Nat) (o:Oper),ops[j]?=some o→(∀ e∈o.after,Region.binds .any e=true→listed.getD e.on false=true)→rch ops i n j=true→listed.getD i false=true
  | 0,_,_,_,_,_,h=>by cases h
  | n + 1,i,j,o,ho,hall,h=>by
    unfold rch at h
    rw [ho] at h
    simp only [Array.any_eq_true',Bool.and_eq_true,Bool.or_eq_true,beq_iff_eq] at h
    obtain ⟨e,he,hb,h|⟨_,h⟩⟩:=h
    · rw [← h]
      exact hall e he hb
    · have h1:=hall e he hb
      cases hq:ops[e.on]? with
      | none =>
        cases n with
        | zero=>cases h
        | succ n=>unfold rch at h;rw [hq] at h;cases h
      | some o'=>exact rch_listed hcl n i e.on o' hq (hcl e.on h1 o' hq) h
theorem any_of_run {Z:List Nat} (hdst:dstOk F.n ops=true): ∀ (fuel:Nat) (R:List (Nat × List Nat × List Nat)) (listed:Array Bool) (s s':FSt) (m:NM) (a:Act) (w:World),R.length≤fuel→listed.size=ops.size →
    (∀ i,i<ops.size→(listed.getD i true=false↔i∈R.map (·.1)))→(∀ i∈R.map (·.1),i<ops.size)→(R.map (·.1)).Pairwise (· < ·) →
    (R.Pairwise fun x y=>Apart ops x y∨rch ops x.1 5 y.1=true) →
    (∀ k,listed.getD k false=true→ ∀ o,ops[k]?=some o→ ∀ e∈o.after,Region.binds .any e=true→listed.getD e.on false=true) →
    (∀ x∈R,∀ o,ops[x.1]?=some o→ ∀ e∈o.after,Region.binds .any e=true→e.on<x.1) →
    RunL P G ops (fun v s=>Q (.panic [{ v,recovered:=false }]) s) Z R s s'→(Z=[]→Q .normal s')→(∀ z∈Z,z∈R.map (·.1))→Rel K F m s a w→wpAny P .any ops (Lift K F Q) fuel listed a w:=by
  intro fuel
  have ready: ∀ (R:List (Nat × List Nat × List Nat)) (listed:Array Bool) (i:Nat),(∀ i,i<ops.size→(listed.getD i true=false↔i∈R.map (·.1)))→i∈Region.ready .any ops listed→i∈R.map (·.1):=fun R listed i hl hi=>by
    obtain ⟨h1,o,ho,_⟩:=mem_ready.1 hi
    exact (hl i (Array.getElem?_eq_some_iff.1 ho).1).1 h1
  induction fuel with
  | zero =>
    intro R listed s s' m a w hlen hsz hl hb hp hA hcl hdep hrun hq hZ hR
    obtain rfl:R=[]:=List.eq_nil_of_length_eq_zero (by omega)
    have hs:s=s':=hrun
    subst hs
    refine ⟨?_,m,s,hR,hq (by
      cases Z with
      | nil=>rfl
      | cons z Z =>
        have:=hZ z (List.mem_cons_self ..)
        cases this)⟩
    cases hr:Region.ready .any ops listed with
    | nil=>rfl
    | cons i l =>
      have:=ready [] listed i hl (by rw [hr];exact List.mem_cons_self ..)
      simp at this
  | succ fuel ih =>
    intro R listed s s' m a w hlen hsz hl hb hp hA hcl hdep hrun hq hZ hR
    have hZ0:R=[]→Z=[]:=fun e=>by
      cases Z with
      | nil=>rfl
      | cons z Z =>
        have:=hZ z (List.mem_cons_self ..)
        rw [e] at this
        cases this
    refine ⟨fun hnil=>?_,fun i hi=>?_⟩
    · cases R with
      | nil =>
        have hs:s=s':=hrun
        subst hs
        exact ⟨m,s,hR,hq (hZ0 rfl)⟩
      | cons x R =>
        exfalso
        have hx:=hb x.1 (by simp)
        have ho:ops[x.1]?=some ops[x.1]:=Array.getElem?_eq_getElem hx
        have:x.1∈Region.ready .any ops listed:=by
          refine mem_ready.2 ⟨(hl x.1 hx).2 (by simp),_,ho,fun e he hbd=>?_⟩
          have hlt:=hdep x (List.mem_cons_self ..) _ ho e he hbd
          cases hg:listed.getD e.on false with
          | true=>rfl
          | false =>
            have hg':listed.getD e.on true=false:=by
              have hin:e.on<listed.size:=by omega
              simp only [Array.getD_eq_getD_getElem?,Array.getElem?_eq_getElem hin,Option.getD_some] at hg ⊢
              exact hg
            have hm:=(hl e.on (by omega)).1 hg'
            rw [List.map_cons] at hp hm
            rcases List.mem_cons.1 hm with h|h
            · omega
            · have:=(List.pairwise_cons.1 hp).1 _ h
              omega
        rw [hnil] at this
        cases this
    · have hmem:=ready R listed i hl hi
      obtain ⟨hun,o,ho,hall⟩:=mem_ready.1 hi
      obtain ⟨y,hy,rfl⟩:=List.mem_map.1 hmem
      obtain ⟨l1,l2,rfl⟩:=List.append_of_mem hy
      have hfront: ∀ x∈l1,Apart ops x y:=fun x hx=>by
        have h1:=(List.pairwise_append.1 hA).2.2 x hx y (List.mem_cons_self ..)
        rcases h1 with h1|h1
        · exact h1
        · exfalso
          have h2:=rch_listed hcl 5 x.1 y.1 o ho hall h1
          have hxb:=hb x.1 (by simp only [List.map_append];exact List.mem_append_left _ (List.mem_map_of_mem hx))
          have h3:=(hl x.1 hxb).2 (by simp only [List.map_append];exact List.mem_append_left _ (List.mem_map_of_mem hx))
          have hin:x.1<listed.size:=by omega
          simp only [Array.getD_eq_getD_getElem?,Array.getElem?_eq_getElem hin,Option.getD_some] at h2 h3
          rw [h2] at h3
          cases h3
      obtain ⟨s1,⟨o',v,U,ho',hst,hwr,hs1⟩,hrun'⟩:=move_front hfront hrun
      rw [ho] at ho'
      injection ho' with ho'
      subst ho'
      have hin:y.1<ops.size:=(Array.getElem?_eq_some_iff.1 ho).1
      have hsub:(l1++l2).Sublist (l1++y::l2):=List.Sublist.append (List.Sublist.refl _) (List.sublist_cons_self _ _)
      have hnd:y.1 ∉ (l1++l2).map (·.1):=fun h=>by
        rw [List.map_append,List.map_cons] at hp
        obtain ⟨p1,p2,p3⟩:=List.pairwise_append.1 hp
        rw [List.map_append] at h
        rcases List.mem_append.1 h with h|h
        · have:=p3 _ h _ (List.mem_cons_self ..)
          omega
        · have:=(List.pairwise_cons.1 p2).1 _ h
          omega
      have next:y.1 ∉ Z→ ∀ m' a' w',Rel K F m' s1 a' w'→wpAny P .any ops (Lift K F Q) fuel (listed.setIfInBounds y.1 true) a' w':=fun hyZ m' a' w' hR'=>by
        refine ih (l1++l2) _ s1 s' m' a' w' ?_ (by simpa using hsz) (fun k hk=>?_) (fun k hk=>hb k ?_) (hp.sublist (hsub.map _)) (hA.sublist hsub) (fun k hk o' ho' e he hbd=>?_) (fun x hx=>hdep x (hsub.subset hx)) hrun' hq (fun z hz=>?_) hR'
        · simp only [List.length_append,List.length_cons] at hlen ⊢
          omega
        · by_cases e:y.1=k
          · subst e
            have h4:(listed.setIfInBounds y.1 true).getD y.1 true=true:=by
              simp [show y.1<listed.size by omega]
            rw [h4]
            exact ⟨(fun h=>by cases h),fun h=>absurd h hnd⟩
          · rw [getD_set_ne true e,hl k hk]
            simp only [List.map_append,List.map_cons,List.mem_append,List.mem_cons]
            exact ⟨fun h=>h.elim .inl fun h=>h.elim (fun h=>absurd h.symm e) .inr,fun h=>h.elim .inl fun h=> .inr (.inr h)⟩
        · exact (hsub.map _).subset hk
        · have mono: ∀ k,listed.getD k false=true→(listed.setIfInBounds y.1 true).getD k false=true:=fun k h=>by
            by_cases e:y.1=k
            · subst e
              simp [show y.1<listed.size by omega]
            · rw [getD_set_ne false e]
              exact h
          refine mono _ ?_
          by_cases e':y.1=k
          · subst e'
            rw [ho] at ho'
            injection ho' with ho'
            subst ho'
            exact hall e he hbd
          · rw [getD_set_ne false e'] at hk
            exact hcl k hk o' ho' e he hbd
        · have h1:=hZ z hz
          simp only [List.map_append,List.map_cons,List.mem_append,List.mem_cons] at h1 ⊢
          rcases h1 with h1|h1|h1
          · exact .inl h1
          · exact absurd (h1▸hz) hyZ
          · exact .inr h1
      have hdo: ∀ d,o.dst=some d→d<F.n:=fun d e=>by
        unfold dstOk at hdst
        rw [Array.all_eq_true'] at hdst
        have:=hdst o (Array.mem_of_getElem? ho)
        rw [e] at this
        simpa using this
      have hlst: ∀ z∈Z,listed.getD z false=false:=fun z hz=>by
        have h1:=hZ z hz
        have h2:=hb z h1
        have h3:=(hl z h2).2 h1
        have hin:z<listed.size:=by omega
        simp only [Array.getD_eq_getD_getElem?,Array.getElem?_eq_getElem hin,Option.getD_some] at h3 ⊢
        exact h3
      unfold wpOp
      rw [ho]
      dsimp only
      by_cases hyZ:y.1∈Z
      · -- it panics,for it cannot wait for one that does
        have hpan: ∃ pv,astep P G ops o s (fun x y'=>x=y.2.1∧y'= .pan pv [])∧ ∀ s',Q (.panic [{ v:=pv,recovered:=false }]) s':=by
          rcases hst with ⟨h1,_⟩|⟨_,_,h1|⟨e,he,hbd,hez⟩⟩
          · exact absurd hyZ h1
          · exact h1
          · exfalso
            have h2:=hall e he hbd
            rw [hlst e.on hez] at h2
            cases h2
        obtain ⟨pv,h1,h2⟩:=hpan
        rcases astep_ok hR hdo h1 with ⟨hw,rd,out,⟨rfl,rfl⟩,hg⟩|⟨hw,⟨_,hk⟩,hg⟩
        · rw [if_pos hw]
          exact .inl (Oper.wp_monoQ (fun _ _ h=>h.elim) (fun e a' w' ⟨he,hr⟩=>by subst he;exact Rel.panLift hr (h2 _)) hg)
        · cases hk
      · have h1:astep P G ops o s (fun x y'=>x=y.2.1∧y'= .val v U):=by
          rcases hst with ⟨_,h1⟩|⟨h1,_⟩
          · exact h1
          · exact absurd h1 hyZ
        rcases astep_ok hR hdo h1 with ⟨hw,rd,out,⟨rfl,rfl⟩,hg⟩|⟨hw,⟨_,hk⟩,hg⟩
        · rw [if_pos hw]
          refine .inl (Oper.wp_mono (fun a' w' ⟨m',hr⟩=>next hyZ m' a' w' ?_) (hg (Lift K F Q)))
          rw [hs1]
          exact hr
        · rw [if_neg (by rw [hw];simp)]
          injection hk with h1 h2
          subst h1 h2
          refine next hyZ m _ w ?_
          rw [hs1]
          exact hg
theorem Rel.drew (h:Rel K F m s a w):Rel K F m s a { w with drawn:=w.drawn+1 }:=by
  have:=h.later (dst:=none) (v:= .bot) (u:=Go.undef) (w':={ w with drawn:=w.drawn+1 }) ⟨rfl,rfl,rfl,Nat.le_refl _,fun _ _ _=>rfl⟩ (fun _ e=>by cases e) trivial
  exact this
theorem logOk_spec {R:List (Nat × List Nat × List Nat)} (hR:R.map (·.1)=List.range' 0 ops.size) (h:logOk ops (R.map (·.2))=true) :
    (R.Pairwise fun x y=>Apart ops x y∨rch ops x.1 5 y.1=true)∧ ∀ x∈R,∀ o,ops[x.1]?=some o→ ∀ e∈o.after,Region.binds .any e=true→e.on<x.1:=by
  have hlen:R.length=ops.size:=by
    have:=congrArg List.length hR
    simpa using this
  have hidx: ∀ (i:Nat) x,R[i]?=some x→x.1=i:=fun i x hx=>by
    have h1:(R.map (·.1))[i]?=some x.1:=by simp [hx]
    rw [hR,List.getElem?_range' (by have:=(List.getElem?_eq_some_iff.1 hx).1;omega)] at h1
    simpa using h1.symm
  unfold logOk at h
  simp only [List.all_eq_true,List.mem_range,Bool.and_eq_true,List.length_map] at h
  have hget: ∀ (i:Nat) x,R[i]?=some x→(R.map (·.2)).getD i ([],[])=x.2:=fun i x hx=>by simp [List.getD,hx]
  refine ⟨?_,fun x hx o ho e he hb=>?_⟩
  · rw [List.pairwise_iff_getElem]
    intro i j hi hj hij
    have hxi:R[i]?=some R[i]:=List.getElem?_eq_getElem hi
    have hxj:R[j]?=some R[j]:=List.getElem?_eq_getElem hj
    have h1:=(h j hj).1 i hij
    rw [hget i _ hxi,hget j _ hxj] at h1
    have ei:=hidx i _ hxi
    have ej:=hidx j _ hxj
    generalize R[i]=x at *
    generalize R[j]=y at *
    subst ei ej
    unfold pairOk at h1
    split at h1
    · rename_i oi oj e1 e2
      simp only [Bool.or_eq_true,Bool.and_eq_true,List.all_eq_true,Bool.not_eq_true'] at h1
      rcases h1 with ⟨⟨h1,h2⟩,h3⟩|h1
      · exact .inl ⟨oi,oj,e1,e2,h1,fun r hr=>by
          have:=h2 r hr
          simpa [List.contains_iff_mem] using this,fun r hr=>by
          have:=h3 r hr
          simpa [List.contains_iff_mem] using this⟩
      · exact .inr h1
    · cases h1
  · obtain ⟨j,hj⟩:=List.getElem?_of_mem hx
    have hlt:=(List.getElem?_eq_some_iff.1 hj).1
    have ej:=hidx j x hj
    have h1:=(h j hlt).2
    rw [ej] at ho
    rw [ho] at h1
    simp only [Option.map_some,Option.getD_some,Array.all_eq_true',Bool.or_eq_true,Bool.not_eq_true',decide_eq_true_eq] at h1
    have:=h1 e he
    rw [hb] at this
    rw [ej]
    exact this.resolve_left (by simp)
theorem zC0 {id:Nat} (hm:P.follows .mixedOrders=true) (hd:dstOk F.n ops=true) (h:arun P G ops true (fun v s=>Q (.panic [{ v,recovered:=false }]) s) ops.toList s [] (fun s=>Q .normal s)):Sound P K F (.region id ops true) Q s:=fun m a w hR=>by
  obtain ⟨R,s',Z,h1,h2,hZ,h3,h4⟩:=arun_runL ops.toList 0 s [] rfl (by simp) h
  rw [Array.length_toList] at h3
  simp only [List.reverse_nil,List.nil_append] at h4
  obtain ⟨h5,h6⟩:=logOk_spec h3 h4
  have hlen:R.length=ops.size:=by
    have:=congrArg List.length h3
    simpa using this
  have hmem: ∀ i,i∈R.map (·.1)↔i<ops.size:=fun i=>by
    rw [h3,List.mem_range'_1]
    omega
  refine wp_region_any hm (any_of_run hd ops.size R _ s s' m a _ (by omega) (by simp) (fun i hi=>?_) (fun i hi=>(hmem i).1 hi) ?_ h5 (fun k hk=>?_) h6 h1 h2 hZ hR.drew)
  · rw [hmem]
    simp [hi]
  · rw [h3]
    exact List.pairwise_lt_range'
  · simp only [Array.getD_eq_getD_getElem?,Array.getElem?_replicate] at hk
    split at hk <;> cases hk
theorem zB {id:Nat} {dr:Bool} (hd:(dstOk F.n ops&&(!dr||P.follows .mixedOrders))=true) (h:arun P G ops dr (fun v s=>Q (.panic [{ v,recovered:=false }]) s) ops.toList s [] (fun s=>Q .normal s)):Sound P K F (.region id ops dr) Q s:=by
  cases dr with
  | false=>exact zB0 (by simpa using hd) h
  | true =>
    simp only [Bool.not_true,Bool.false_or,Bool.and_eq_true] at hd
    exact zC0 hd.2 hd.1 h
end
end Go.Proofs.YtdakeodebgggfaaGreatDoor
namespace Go.Proofs.YtdakeodebgggfaaGreatDoor
open Go.RowKit
def resQ (P:Program) (f:Nat→SV):List ResultVar→(List SV→Q)→Q
  | [],k=>k []
  | .tmp t::l,k=>resQ P f l fun vs=>k (f t::vs)
  | .cell t ty::l,k=>match f t with
    | .a (.c (.ptr r off))=> .need (tyok P ty=true) (.obj r fun o=>match (kdOf P ty).agg with
      | true=> .need (off+szOf P ty≤o.cs.length) (resQ P f l fun vs=>k (.a (.agg ((o.cs.drop off).take (szOf P ty)))::vs))
      | false=>match o.cs[off]? with
        | some x=>resQ P f l fun vs=>k (.a (.c x)::vs)
        | none=> .fail)
    | _=> .fail
def outOf:List DV→DR
  | [x]=> .one x
  | l=> .many l
def Ret (P:Program) (rl:List ResultVar) (out:DR):Exit→FSt→Prop
  | .normal,s| .ret,s=>(resQ P s.sl rl fun vs=>cvArgs vs fun ds _=> .need (outOf ds=out) (.done .bot [])).run s.ob [] (fun _ _=>True)
  | .panic chain,s=> ∃ v,chain=[{ v,recovered:=false }]∧out= .pan v
  | _,_=>False
def initL:Nat→List DV→List (Nat × SV)
  | _,[]=>[]
  | k,x::l=>(k,.a x.av)::initL (k+1) l
def resSem (tmps:Array Value):ResultVar→Sem Value
  | .tmp t=>pure (tmps.getD t Go.undef)
  | .cell a t=>do loadVar t (← asAddr (tmps.getD a Go.undef))
def outV:List Value→Value
  | [u]=>u
  | l=> .tuple l.toArray
section
variable {G:Nat→Option (List D)} {P:Program} {K:Ctx G} {F:Fr} {s:FSt} {m:NM} {a:Act} {w:World}
theorem ok_res (hR:Rel K F m s a w) {Good:Out→Prop}: ∀ (l:List ResultVar) (k:List SV→Q),
    (∀ vs us,(l.mapM (resSem a.tmps)).run P w= .ok us w→us.length=vs.length→(∀ (i:Nat) x v,vs[i]?=some x→us[i]?=some v→RS w (Vis K m s.ob w) m s.ob.dom x v)→QG s Good (k vs))→QG s Good (resQ P s.sl l k)
  | [],k,h=>h [] [] (by simp) rfl fun i x v hx=>by simp at hx
  | .tmp t::l,k,h=>ok_res hR l _ fun vs us h1 h2 h3=>h (s.sl t::vs) (a.tmps.getD t Go.undef::us) (by simp only [List.mapM_cons,Sem.run_bind,resSem,Sem.run_pure,Result.andThen_ok];rw [h1];rfl) (by simp [h2]) fun i x v hx hv=>by
    cases i with
    | zero =>
      simp at hx hv
      subst hx hv
      exact (by simpa using hR.slot t)
    | succ i=>exact h3 i x v (by simpa using hx) (by simpa using hv)
  | .cell t ty::l,k,h=>by
    have hv:=hR.slot t
    unfold resQ
    split
    · rename_i r off e
      rw [e] at hv
      obtain ⟨_,hvd,hu⟩:=rs_ptr hv
      refine .need fun ht=> .obj fun ob ho=>?_
      obtain ⟨i,z,T⟩:=tyok_spec ht
      obtain ⟨arr,h1,h2,h3,h4,h5⟩:=hR.obj ho hvd
      cases hk:(kdOf P ty).agg with
      | true =>
        refine .need fun hle=>ok_res hR l _ fun vs us g1 g2 g3=>?_
        have hload:(loadVar ty ⟨m.g r,off,none⟩).run P w= .ok (.agg ((arr.toList.drop off).take (szOf P ty)).toArray) w:=by
          simp only [loadVar,Sem.run_bind,run_isAgg T,Result.andThen_ok,hk,if_true,run_sizeOf T]
          have hl:((arr.toList.drop off).take (szOf P ty)).length=szOf P ty:=by
            simp only [List.length_take,List.length_drop,Array.length_toList]
            omega
          have:=run_loadCells_list (P:=P) w ⟨m.g r,off,none⟩ ((arr.toList.drop off).take (szOf P ty)) fun j v hj=>by
            rw [List.getElem?_take] at hj
            split at hj
            · rw [List.getElem?_drop] at hj
              rw [Addr.add_lit,cell_arr h1]
              simpa using hj
            · cases hj
          rw [hl] at this
          rw [this]
          rfl
        refine h _ (.agg ((arr.toList.drop off).take (szOf P ty)).toArray::us) ?_ (by simp [g2]) fun i x v hx hv=>?_
        · have hres:(resSem a.tmps (.cell t ty)).run P w= .ok (.agg ((arr.toList.drop off).take (szOf P ty)).toArray) w:=by
            simp only [resSem,Sem.run_bind,hu,asAddr,Sem.run_pure,Result.andThen_ok,hload]
          simp only [List.mapM_cons,Sem.run_bind,hres,Result.andThen_ok,g1]
          rfl
        · cases i with
          | succ i=>exact g3 i x v (by simpa using hx) (by simpa using hv)
          | zero =>
            simp at hx hv
            subst hx hv
            refine ⟨_,rfl,?_,fun j y v hy hv=>?_⟩
            · simp only [List.length_take,List.length_drop,Array.length_toList]
              omega
            · rw [List.getElem?_take] at hy hv
              split at hy
              · rename_i hj
                rw [if_pos hj,List.getElem?_drop] at hv
                rw [List.getElem?_drop] at hy
                obtain ⟨u,hu,hr⟩:=h5 _ _ hy
                have:arr[off+j]?=some v:=by simpa using hv
                rw [hu] at this
                injection this with this
                subst this
                exact hr
              · cases hy
      | false =>
        dsimp only
        split
        · rename_i y hy
          obtain ⟨u,hu2,hr⟩:=h5 _ _ hy
          refine ok_res hR l _ fun vs us g1 g2 g3=>h _ (u::us) ?_ (by simp [g2]) fun i x v hx hv=>?_
          · have hload:(loadVar ty ⟨m.g r,off,none⟩).run P w= .ok u w:=by
              simp only [loadVar,Sem.run_bind,run_isAgg T,Result.andThen_ok,hk,Bool.false_eq_true,if_false]
              exact run_load_one (by rw [cell_arr h1];exact hu2)
            have hres:(resSem a.tmps (.cell t ty)).run P w= .ok u w:=by
              simp only [resSem,Sem.run_bind,hu,asAddr,Sem.run_pure,Result.andThen_ok,hload]
            simp only [List.mapM_cons,Sem.run_bind,hres,Result.andThen_ok,g1]
            rfl
          · cases i with
            | succ i=>exact g3 i x v (by simpa using hx) (by simpa using hv)
            | zero =>
              simp at hx hv
              subst hx hv
              exact hr
        · exact .fail
    · exact .fail
theorem run_results {fn:Func} {us:List Value} (h:(fn.results.toList.mapM (resSem a.tmps)).run P w= .ok us w):(results fn a.tmps).run P w= .ok (outV us) w:=by
  show (do let vs ← fn.results.mapM (resSem a.tmps);pure (if h:vs.size=1 then vs[0] else .tuple vs):Sem Value).run P w=_
  rw [Array.mapM_eq_mapM_toList,map_eq_pure_bind,Sem.run_bind,Sem.run_bind,h]
  match us with
  | []=>rfl
  | [u]=>rfl
  | u::v::l=>simp [outV]
theorem initL_get: ∀ (args:List DV) (k t:Nat),lkS (initL k args) t=if k≤t then (match args[t-k]? with|some x=> .a x.av|none=> .bot) else .bot
  | [],k,t=>by simp [initL,lkS]
  | x :: l,k,t=>by
    simp only [initL,lkS]
    split
    · rename_i h
      subst h
      simp
    · rename_i h
      rw [initL_get l (k+1) t]
      by_cases h1:k≤t
      · rw [if_pos h1,if_pos (by omega),show t-k=t-(k+1)+1 by omega]
        simp
      · rw [if_neg h1,if_neg (by omega)]
theorem spec_of' {f:FuncId} {fn:Func} {c:Code} {args:List DV} {out:DR} (hf:P.funcs[f]?=some fn) (hb:fn.body=some c) (hn:Nat.ble args.length fn.ntmps=true)
    (h: ∀ K:Ctx G,(∀ b,¬ K.B b)→Sound P K ⟨fn.ntmps,⟨fun _=>0,fun _=>0,fun _=>false⟩,fun _=>False⟩ c (Ret P fn.results.toList out) (LSt.mk (initL 0 args) []).st):Spec0 P G f args out:=by
  have hn:=Nat.le_of_ble_eq_true hn
  intro w S vs hS hT hA
  obtain ⟨hl,hc⟩:=hA
  let K:Ctx G:=⟨w,S,fun _=>False⟩
  have hH:HRel K ⟨fun _=>0,fun _=>0,fun _=>false⟩ (lkO []) w:=by
    refine ⟨fun r o ho=>?_,fun r r' ⟨o,ho,_⟩=>?_,fun r ⟨o,ho,_⟩=>?_,fun r o ho=>?_,Ev.refl _ _,fun g cs hg=>(hT g cs hg).mono (fun b hb=>⟨.inl hb,hS b hb,fun r ⟨o,ho,_⟩=>?_⟩) (fun _ _=>rfl)⟩ <;> cases ho
  have hR:Rel K ⟨fn.ntmps,⟨fun _=>0,fun _=>0,fun _=>false⟩,fun _=>False⟩ ⟨fun _=>0,fun _=>0,fun _=>false⟩ (LSt.mk (initL 0 args) []).st { tmps:=vs.toArray++Array.replicate (fn.ntmps-vs.toArray.size) Go.undef,defers:=[] } w:=by
    refine ⟨by simp;omega,rfl,fun t=>?_,hH,fun r h=>h.elim⟩
    show RS w _ _ _ (lkS (initL 0 args) t) _
    rw [initL_get,if_pos (Nat.zero_le _),Nat.sub_zero]
    cases hx:args[t]? with
    | none=>trivial
    | some x =>
      have hlt:t<vs.length:=by
        rw [hl]
        exact (List.getElem?_eq_some_iff.1 hx).1
      have hg:(vs.toArray++Array.replicate (fn.ntmps-vs.toArray.size) Go.undef).getD t Go.undef=vs[t]:=by
        rw [Array.getD_eq_getD_getElem?,Array.getElem?_append,if_pos (by simpa using hlt)]
        simp [hlt]
      rw [hg]
      have:=hc t x _ hx (List.getElem?_eq_getElem hlt)
      refine ra_of_drd ?_
      have hvis: ∀ b,S b→Vis K ⟨fun _=>0,fun _=>0,fun _=>false⟩ (lkO []) w b:=fun b hb=>⟨.inl hb,hS b hb,fun r ⟨o,ho,_⟩=>by cases ho⟩
      cases x with
      | c x=>exact RD.mono hvis (fun _ _=>rfl) this
      | g cs =>
        obtain ⟨us,e,hl,hcc⟩:=this
        exact ⟨us,e,hl,fun i x v hx hv=>RD.mono hvis (fun _ _=>rfl) (hcc i x v hx hv)⟩
  refine calls_of_wp hf hb (wp_mono (h K (fun _ h=>h) _ _ _ hR) fun e a' w' ⟨m',s',hR',hq⟩=>?_)
  have ret:((resQ P s'.sl fn.results.toList fun vs=>cvArgs vs fun ds _=> .need (outOf ds=out) (.done .bot [])).run s'.ob [] (fun _ _=>True))→a'.defers=[]∧ ∃ v,(results fn a'.tmps).run P w'= .ok v w'∧Ev (fun _=>False) w w'∧DEnd w' (fun b=>S b∨(w.heap.size≤b∧b<w'.heap.size)) out (.returned v):=by
    intro hq
    refine ⟨hR'.defers,?_⟩
    have key:QG s' (fun _=> ∃ v,(results fn a'.tmps).run P w'= .ok v w'∧Ev (fun _=>False) w w'∧DEnd w' (fun b=>S b∨(w.heap.size≤b∧b<w'.heap.size)) out (.returned v)) (resQ P s'.sl fn.results.toList fun vs=>cvArgs vs fun ds _=> .need (outOf ds=out) (.done .bot [])):=by
      refine ok_res hR' _ _ fun vs us g1 g2 g3=>ok_cvArgs hR' g2 g3 fun ds U hcv=> .need fun ho=> .done ⟨_,run_results g1,?_,?_⟩
      · exact ⟨hR'.heap.ev.os,hR'.heap.ev.tape,hR'.heap.ev.output,hR'.heap.ev.size,fun k hk _=>hR'.heap.ev.block k hk fun h=>h⟩
      · obtain ⟨hf1,hf2⟩:=hcv
        obtain ⟨k1,k2,k3,_⟩:=Rel.freezeAll (s:=s') U s' hR' rfl (fun r x hx=> .inl hx) hf1 (fun b hb=>hb)
        obtain ⟨hd1,hd2⟩:=hf2 _ k1.heap k2 k3
        have hvis: ∀ b,Vis K m' (updO s'.ob U) w' b→S b∨(w.heap.size≤b∧b<w'.heap.size):=fun b hb=>hb.1.elim .inl fun h=>h.elim (fun h=>h.elim) fun h=> .inr ⟨h,hb.2.1⟩
        have hd3: ∀ (i:Nat) x v,ds[i]?=some x→us[i]?=some v→DRd w' (fun b=>S b∨(w.heap.size≤b∧b<w'.heap.size)) x v:=fun i x v hx hv=>by
          have:=hd2 i x v hx hv
          cases x with
          | c x=>exact RD.mono hvis (fun _ _=>rfl) this
          | g cs =>
            obtain ⟨us,e,hl,hcc⟩:=this
            exact ⟨us,e,hl,fun i x v hx hv=>RD.mono hvis (fun _ _=>rfl) (hcc i x v hx hv)⟩
        rw [← ho]
        match ds,us,hd1 with
        | [],[],_=>exact ⟨[],rfl,rfl,fun i x v hx=>by simp at hx⟩
        | [x],[u],_=>exact ⟨u,rfl,hd3 0 x u rfl rfl⟩
        | x::y::l,u::v::us,hl=>exact ⟨_,rfl,hl,hd3⟩
    exact (key [] _ hq).elim fun _ h=>h.elim fun _ h=>h.2
  cases e with
  | normal=>exact ret hq
  | ret=>exact ret hq
  | panic chain =>
    obtain ⟨v,rfl,rfl⟩:=hq
    exact ⟨hR'.defers,⟨hR'.heap.ev.os,hR'.heap.ev.tape,hR'.heap.ev.output,hR'.heap.ev.size,fun k hk _=>hR'.heap.ev.block k hk fun h=>h⟩,rfl⟩
  | exit id=>exact hq
  | goto l=>exact hq
  | outgrown=>exact hq.elim
def Fr0 (n:Nat):Fr:=⟨n,⟨fun _=>0,fun _=>0,fun _=>false⟩,fun _=>False⟩
theorem spec_of {f:FuncId} {fn:Func} {c:Code} {args:List DV} {out:DR} {rl:List ResultVar} {n:Nat} (hf:P.funcs[f]?=some fn) (hb:fn.body=some c) (hr:fn.results=⟨rl⟩) (hn:fn.ntmps=n) (ha:Nat.ble args.length n=true) (hp:out.plain=true)
    (h: ∀ K:Ctx G,Sound P K (Fr0 n) c (Ret P rl out) (LSt.mk (initL 0 args) []).st):Spec P G f args out:=by
  subst hn
  exact .mk0 hp (spec_of' hf hb ha fun K _=>by rw [hr];exact h K)
def svOf:List DV→SV
  | [x]=> .a x.av
  | l=> .tup (l.map DV.av)
def rawOf:List SV→SV
  | [x]=>x
  | _=> .bot
def offU (H':List (Nat × Option AObj)):List (Nat × Option AObj)→Prop
  | []=>True
  | (r,_)::l=>(lkO H' r).isNone=true∧offU H' l
theorem lkO_off: ∀ {l:List (Nat × Option AObj)} {r:Nat},(lkO l r).isNone=true→r ∉ l.map (·.1)
  | [],r,_=>by simp
  | (k,v)::l,r,h=>by
    unfold lkO at h
    split at h
    · cases h
    · rename_i hne
      rw [List.map_cons,List.mem_cons,not_or]
      exact ⟨hne,lkO_off h⟩
theorem offU_ok {H':List (Nat × Option AObj)}: ∀ {U:List (Nat × Option AObj)},offU H' U→ ∀ p∈U,p.1 ∉ H'.map (·.1)
  | (r,o)::l,h,p,hp=>by
    rcases List.mem_cons.1 hp with rfl|hp
    · exact lkO_off h.1
    · exact offU_ok h.2 p hp
def RetO (P:Program) (rl:List ResultVar) (out:OutO):Exit→FSt→Prop
  | .normal,s| .ret,s=>match out with
    | .ret v H'=>(∀ p∈H',s.ob p.1=some p.2)∧(resQ P s.sl rl fun vs=> .any Bool fun raw=>match raw with
      | true=> .need (rawOf vs=v∧vs.length=1∧ ∀ r∈v.names,lkO H' r≠none) (.done .bot [])
      | false=>cvArgs vs fun ds U=> .need (svOf ds=v∧offU H' U) (.done .bot [])).run s.ob [] (fun _ _=>True)
    | .pan _ _=>False
  | .panic chain,s=>match out with
    | .pan v H'=>chain=[{ v,recovered:=false }]∧ ∀ p∈H',s.ob p.1=some p.2
    | .ret _ _=>False
  | _,_=>False
def initA:Nat→List AV→List (Nat × SV)
  | _,[]=>[]
  | k,x::l=>(k,.a x)::initA (k+1) l
theorem initA_get: ∀ (args:List AV) (k t:Nat),lkS (initA k args) t=if k≤t then (match args[t-k]? with|some x=> .a x|none=> .bot) else .bot
  | [],k,t=>by simp [initA,lkS]
  | x :: l,k,t=>by
    simp only [initA,lkS]
    split
    · rename_i h
      subst h
      simp
    · rename_i h
      rw [initA_get l (k+1) t]
      by_cases h1:k≤t
      · rw [if_pos h1,if_pos (by omega),show t-k=t-(k+1)+1 by omega]
        simp
      · rw [if_neg h1,if_neg (by omega)]
theorem HRel.less {H H':Hp} (h:HRel K m H w) (hob: ∀ r o,H' r=some o→H r=some o) (hn: ∀ r o,H' r=some (some o)→(dOnly o.cs).isSome=true):HRel K m H' w∧ ∀ b,Vis K m H w b→Vis K m H' w b:=by
  have how: ∀ r,H'.own r→H.own r:=fun r ⟨o,h1,h2⟩=>⟨o,hob _ _ h1,h2⟩
  have hv: ∀ b,Vis K m H w b→Vis K m H' w b:=fun b hb=>⟨hb.1,hb.2.1,fun r hr=>hb.2.2 r (how r hr)⟩
  exact ⟨⟨fun r o ho=>(h.obj r o (hob _ _ ho)).data (hn r o ho) hv rfl rfl rfl,fun r r' hr hr'=>h.dist r r' (how r hr) (how r' hr'),fun r hr=>h.loc r (how r hr),
    fun r o ho hf hvd=>hv _ (h.fz r o (hob _ _ ho) hf hvd),h.ev,fun g cs hg=>(h.glob g cs hg).mono hv (fun _ _=>rfl)⟩,hv⟩
def FrO (n:Nat) (m:NM) (l:List Nat):Fr:=⟨n,m,fun r=>r∈l⟩
theorem specO_of {f:FuncId} {fn:Func} {c:Code} {args:List AV} {H:List (Nat × AObj)} {out:OutO} {rl:List ResultVar} {n:Nat} (hf:P.funcs[f]?=some fn) (hb:fn.body=some c) (hr:fn.results=⟨rl⟩) (hn:fn.ntmps=n) (ha:Nat.ble args.length n=true)
    (hd: ∀ p∈out.hp,∀ x,p.2=some x→(dOnly x.cs).isSome=true) (hk: ∀ r∈H.map (·.1),lkO out.hp r≠none)
    (h: ∀ (K:Ctx G) (m:NM),Sound P K (FrO n m (H.map (·.1))) c (RetO P rl out) ⟨lkS (initA 0 args),lkO (someO H)⟩):SpecO P G f args H out:=by
  subst hn
  have ha:=Nat.le_of_ble_eq_true ha
  intro K m vs hS hB hH hl hc
  have hR : Rel K (FrO fn.ntmps m (H.map (·.1))) m ⟨lkS (initA 0 args),lkO (someO H)⟩ { tmps:=vs.toArray++Array.replicate (fn.ntmps-vs.toArray.size) Go.undef,defers:=[] } K.w0:=by
    refine ⟨by simp [FrO];omega,rfl,fun t=>?_,hH,fun r h=>⟨?_,rfl,rfl,rfl⟩⟩
    · show RS K.w0 _ _ _ (lkS (initA 0 args) t) _
      rw [initA_get,if_pos (Nat.zero_le _),Nat.sub_zero]
      cases hx:args[t]? with
      | none=>trivial
      | some x =>
        have hlt:t<vs.length:=by
          rw [hl]
          exact (List.getElem?_eq_some_iff.1 hx).1
        have hg:(vs.toArray++Array.replicate (fn.ntmps-vs.toArray.size) Go.undef).getD t Go.undef=vs[t]:=by
          rw [Array.getD_eq_getD_getElem?,Array.getElem?_append,if_pos (by simpa using hlt)]
          simp [hlt]
        rw [hg]
        exact hc t x _ hx (List.getElem?_eq_getElem hlt)
    · have h : r ∈ H.map (·.1):=h
      show lkO (someO H) r≠none
      have key : ∀ l:List (Nat × AObj),r∈l.map (·.1)→lkO (someO l) r≠none:=by
        intro l
        induction l with
        | nil => intro h
                 cases h
        | cons p l ih =>
          intro h
          show (if r=p.1 then some (some p.2) else lkO (someO l) r)≠none
          split
          · simp
          · rename_i hne
            exact ih ((List.mem_cons.1 h).resolve_left hne)
      exact key H h
  refine calls_of_wp hf hb (wp_mono (h K m _ _ _ hR) fun e a' w' ⟨m',s',hR',hq⟩=>?_)
  have hname: ∀ r,(lkO (someO H)).dom r→(lkO out.hp).dom r∧m'.g r=m.g r∧m'.N r=m.N r∧m'.vd r=m.vd r:=fun r hr=>by
    obtain ⟨x,hx⟩:=Option.ne_none_iff_exists'.1 hr
    obtain ⟨y,_,hy⟩:=someO_mem hx
    have hm:r∈H.map (·.1):=List.mem_map.2 ⟨_,hy,rfl⟩
    exact ⟨hk r hm,(hR'.names r hm).2⟩
  have retn : ∀ v H',out= .ret v H'→((∀ p∈H',s'.ob p.1=some p.2)∧(resQ P s'.sl rl fun vs=> .any Bool fun raw=>match raw with
      | true=> .need (rawOf vs=v∧vs.length=1∧ ∀ r∈v.names,lkO H' r≠none) (.done .bot [])
      | false=>cvArgs vs fun ds U=> .need (svOf ds=v∧offU H' U) (.done .bot [])).run s'.ob [] (fun _ _=>True)) →
      a'.defers=[]∧ ∃ u,(results fn a'.tmps).run P w'= .ok u w'∧ ∃ m',HRel K m' (lkO H') w'∧(∀ r,(lkO (someO H)).dom r→(lkO H').dom r∧m'.g r=m.g r∧m'.N r=m.N r∧m'.vd r=m.vd r)∧ ∃ u',Ending.returned u= .returned u'∧RS w' (Vis K m' (lkO H') w') m' (lkO H').dom v u':=by
    rintro v H' rfl ⟨hob,hq⟩
    refine ⟨hR'.defers,?_⟩
    have hl1:=HRel.less (H':=lkO H') hR'.heap (fun r o ho=>hob (r,o) (lkO_mem ho)) (fun r o ho=>hd (r,some o) (lkO_mem ho) o rfl)
    have key:QG s' (fun _=> ∃ u,(results fn a'.tmps).run P w'= .ok u w'∧RS w' (Vis K m' (lkO H') w') m' (lkO H').dom v u) (resQ P s'.sl rl fun vs=> .any Bool fun raw=>match raw with
      | true=> .need (rawOf vs=v∧vs.length=1∧ ∀ r∈v.names,lkO H' r≠none) (.done .bot [])
      | false=>cvArgs vs fun ds U=> .need (svOf ds=v∧offU H' U) (.done .bot [])):=by
      refine ok_res hR' _ _ fun vs us g1 g2 g3=> .any fun raw=>?_
      have g1':(results fn a'.tmps).run P w'= .ok (outV us) w':=run_results (by rw [hr];exact g1)
      cases raw with
      | true =>
        refine .need fun ⟨h1,h2,h3⟩=> .done ⟨_,g1',?_⟩
        match vs,us,g2,h2 with
        | [x],[u],_,_ =>
          have h1:x=v:=h1
          subst h1
          exact ((Keep.more hl1.2).rs (g3 0 x u rfl rfl)).fewer h3
      | false =>
        refine ok_cvArgs hR' g2 g3 fun ds U hcv=> .need fun ⟨h1,h2⟩=> .done ⟨_,g1',?_⟩
        obtain ⟨hf1,hf2⟩:=hcv
        obtain ⟨k1,k2,k3,_⟩:=Rel.freezeAll (s:=s') U s' hR' rfl (fun r x hx=> .inl hx) hf1 (fun b hb=>hb)
        obtain ⟨hd1,hd2⟩:=hf2 _ k1.heap k2 k3
        have hl2:=HRel.less (H':=lkO H') k1.heap (fun r o ho=>by
          have hm:=lkO_mem ho
          show updO s'.ob U r=some o
          rw [updO_names fun q hq e=>offU_ok h2 q hq (by rw [e];exact List.mem_map.2 ⟨_,hm,rfl⟩)]
          exact hob (r,o) hm) (fun r o ho=>hd (r,some o) (lkO_mem ho) o rfl)
        have hd3: ∀ (i:Nat) x v,ds[i]?=some x→us[i]?=some v→RA w' (Vis K m' (lkO H') w') m' (lkO H').dom x.av v:=fun i x v hx hv=>by
          have h9:=hd2 i x v hx hv
          refine ra_of_drd ?_
          cases x with
          | c x=>exact RD.mono hl2.2 (fun _ _=>rfl) h9
          | g cs =>
            obtain ⟨us,e,hl,hcc⟩:=h9
            exact ⟨us,e,hl,fun i x v hx hv=>RD.mono hl2.2 (fun _ _=>rfl) (hcc i x v hx hv)⟩
        rw [← h1]
        match ds,us,hd1 with
        | [],[],_=>exact ⟨[],rfl,rfl,fun i x v hx=>by simp at hx⟩
        | [x],[u],_=>exact hd3 0 x u rfl rfl
        | x :: y::l,u::v::us,hl =>
          refine ⟨_,rfl,by simpa using hl,fun i z q hz hq=>?_⟩
          rw [List.getElem?_map] at hz
          cases hy:(x::y::l)[i]? with
          | none=>rw [hy] at hz;cases hz
          | some t =>
            rw [hy] at hz
            simp at hz
            subst hz
            exact hd3 i t q hy hq
    obtain ⟨_,_,_,u,h1,h2⟩:=key [] _ hq
    exact ⟨u,h1,m',hl1.1,hname,u,rfl,h2⟩
  cases e with
  | normal =>
    cases out with
    | ret v H'=>exact retn v H' rfl hq
    | pan v H'=>exact hq.elim
  | ret =>
    cases out with
    | ret v H'=>exact retn v H' rfl hq
    | pan v H'=>exact hq.elim
  | panic chain =>
    cases out with
    | ret v H'=>exact hq.elim
    | pan v H' =>
      obtain ⟨rfl,hob⟩:=hq
      exact ⟨hR'.defers,m',(HRel.less (H':=lkO H') hR'.heap (fun r o ho=>hob (r,o) (lkO_mem ho)) (fun r o ho=>hd (r,some o) (lkO_mem ho) o rfl)).1,hname,rfl⟩
  | exit id=>exact hq
  | goto l=>exact hq
  | outgrown=>exact hq.elim
end
end Go.Proofs.YtdakeodebgggfaaGreatDoor
namespace Go.Proofs.YtdakeodebgggfaaGreatDoor
open Go.RowKit
section
variable {G:Nat→Option (List D)} {P:Program} {s:FSt} {ops:Array Oper} {ρ:Operand→SV} {H:Hp} {rs:List Nat} {Kc:List Nat→Out→Prop}
def contA (P:Program) (G:Nat→Option (List D)) (ops:Array Oper) (draw:Bool) (Qp:Value→FSt→Prop) (dst:Option Nat) (rest:List Oper) (s:FSt) (log:List (List Nat × List Nat)) (Kn:FSt→Prop):List Nat→Out→Prop
  | rs,.val v U=>arun P G ops draw Qp rest (s.app dst v U) ((rs,U.map (·.1))::log) Kn
  | rs,.pan v U=>match draw with
    | false=>Qp v ⟨s.sl,updO s.ob U⟩
    | true=>U=[]∧(∀ s',Qp v s')∧arunZ P G ops Qp [log.length] rest (s.app dst .bot []) ((rs,[])::log)
@[go_sem] theorem contA_val {draw:Bool} {Qp:Value→FSt→Prop} {dst:Option Nat} {rest:List Oper} {log:List (List Nat × List Nat)} {Kn:FSt→Prop} {v:SV} {U:List (Nat × Option AObj)} :
    contA P G ops draw Qp dst rest s log Kn rs (.val v U)=arun P G ops draw Qp rest (s.app dst v U) ((rs,U.map (·.1))::log) Kn:=rfl
theorem arun_cons' {draw:Bool} {Qp:Value→FSt→Prop} {o:Oper} {rest:List Oper} {log:List (List Nat × List Nat)} {Kn:FSt→Prop} :
    arun P G ops draw Qp (o::rest) s log Kn=astep P G ops o s (contA P G ops draw Qp o.dst rest s log Kn):=by
  rw [arun]
  congr 1
  funext rs out
  cases out <;> cases draw <;> rfl
@[go_sem] theorem arun_cons {draw:Bool} {Qp:Value→FSt→Prop} {d:Option Nat} {op:Op} {ty:TypeId} {pos:String} {af:Array Edge} {gd:Option (Nat × Bool)} {rest:List Oper} {log:List (List Nat × List Nat)} {Kn:FSt→Prop} :
    arun P G ops draw Qp (⟨d,op,ty,pos,af,gd⟩::rest) s log Kn=astep P G ops ⟨d,op,ty,pos,af,gd⟩ s (contA P G ops draw Qp d rest s log Kn):=arun_cons'
@[go_sem] theorem arun_nilF {Qp:Value→FSt→Prop} {log:List (List Nat × List Nat)} {Kn:FSt→Prop}:arun P G ops false Qp [] s log Kn=Kn s:=by simp [arun]
@[go_sem] theorem arun_nilT {Qp:Value→FSt→Prop} {log:List (List Nat × List Nat)} {Kn:FSt→Prop}:arun P G ops true Qp [] s log Kn=(logOk ops log.reverse=true∧Kn s):=by simp [arun]
@[go_sem] theorem astep_none {d:Option Nat} {op:Op} {ty:TypeId} {pos:String} {af:Array Edge}:astep P G ops ⟨d,op,ty,pos,af,none⟩ s Kc=(aop P G (evl G s.sl) ⟨d,op,ty,pos,af,none⟩).run s.ob [] Kc:=rfl
def gslot (ops:Array Oper) (j:Nat):Option Nat:=(ops[j]?).bind (·.dst)
def wantB (x:SV) (b:Bool):Option Bool:=
  match x with
  | .a (.c (.d (.v (.bool c))))=>some (c==b)
  | .undef=>some false
  | _=>none
@[go_sem] theorem wantB_bool {b c:Bool}:wantB (.a (.c (.d (.v (.bool c))))) b=some (c==b):=rfl
@[go_sem] theorem wantB_undef {b:Bool}:wantB .undef b=some false:=rfl
def astepG (P:Program) (G:Nat→Option (List D)) (w:Option Bool) (o:Oper) (s:FSt) (Kc:List Nat→Out→Prop):Prop:=
  match w with
  | some true=>(aop P G (evl G s.sl) o).run s.ob [] Kc
  | some false=>Kc [] (.val .undef [])
  | none=>False
theorem astep_some' {d:Option Nat} {op:Op} {ty:TypeId} {pos:String} {af:Array Edge} {j:Nat} {b:Bool} :
    astep P G ops ⟨d,op,ty,pos,af,some (j,b)⟩ s Kc=astepG P G (match gslot ops j with|some t=>wantB (s.sl t) b|none=>none) ⟨d,op,ty,pos,af,some (j,b)⟩ s Kc:=by
  unfold astep astepG wantA gslot
  dsimp only
  cases (ops[j]?).bind (·.dst) <;> rfl
def slAt (f:Nat→SV):Option Nat→SV
  | some t=>f t
  | none=> .bot
@[go_sem] theorem slAt_some {f:Nat→SV} {t:Nat}:slAt f (some t)=f t:=rfl
@[go_sem] theorem astep_some {d:Option Nat} {op:Op} {ty:TypeId} {pos:String} {af:Array Edge} {j:Nat} {b:Bool} :
    astep P G ops ⟨d,op,ty,pos,af,some (j,b)⟩ s Kc=astepG P G (wantB (slAt s.sl (gslot ops j)) b) ⟨d,op,ty,pos,af,some (j,b)⟩ s Kc:=by
  rw [astep_some']
  cases gslot ops j <;> rfl
@[go_sem] theorem aop_move {d:Option Nat} {x:Operand} {ty:TypeId} {pos:String} {af:Array Edge} {gd:Option (Nat × Bool)}:aop P G ρ ⟨d,.move x,ty,pos,af,gd⟩= .need (constOk x=true) (.done (ρ x) []):=rfl
@[go_sem] theorem aop_assign {d:Option Nat} {x:Operand} {ty:TypeId} {pos:String} {af:Array Edge} {gd:Option (Nat × Bool)}:aop P G ρ ⟨d,.assign x,ty,pos,af,gd⟩= .need (constOk x=true) (.done (ρ x) []):=rfl
def pickQ (ρ:Operand→SV) (c:SV) (a b:Operand):Q:=
  match c with
  | .a (.c (.d (.v (.bool true))))=> .need (constOk a=true) (.done (ρ a) [])
  | .a (.c (.d (.v (.bool false))))=> .need (constOk b=true) (.done (ρ b) [])
  | _=> .fail
@[go_sem] theorem pick_true {a b:Operand}:pickQ ρ (.a (.c (.d (.v (.bool true))))) a b= .need (constOk a=true) (.done (ρ a) []):=rfl
@[go_sem] theorem pick_false {a b:Operand}:pickQ ρ (.a (.c (.d (.v (.bool false))))) a b= .need (constOk b=true) (.done (ρ b) []):=rfl
@[go_sem] theorem aop_pick {d:Option Nat} {c a b:Operand} {ty:TypeId} {pos:String} {af:Array Edge} {gd:Option (Nat × Bool)}:aop P G ρ ⟨d,.pick c a b,ty,pos,af,gd⟩=pickQ ρ (ρ c) a b:=rfl
@[go_sem] theorem aop_alloc {d:Option Nat} {t:TypeId} {ty:TypeId} {pos:String} {af:Array Edge} {gd:Option (Nat × Bool)}:aop P G ρ ⟨d,.alloc t,ty,pos,af,gd⟩= .need (tyok P t=true) (newQ d t (zeroOf P t) (fun d=> .ptr d 0)):=rfl
@[go_sem] theorem aop_box {d:Option Nat} {t:TypeId} {x:Operand} {ty:TypeId} {pos:String} {af:Array Edge} {gd:Option (Nat × Bool)}:aop P G ρ ⟨d,.box t x,ty,pos,af,gd⟩= .need (constOk x=true) (boxQ d t (ρ x)):=rfl
@[go_sem] theorem aop_build {d:Option Nat} {t:TypeId} {ps:List (Nat × Operand)} {ty:TypeId} {pos:String} {af:Array Edge} {gd:Option (Nat × Bool)} :
    aop P G ρ ⟨d,.build t ⟨ps⟩,ty,pos,af,gd⟩= .need (ps.all (fun p=>constOk p.2)=true) (buildQ P t (ps.map fun p=>(p.1, ρ p.2))):=by simp [aop]
@[go_sem] theorem aop_buildSlice {d:Option Nat} {t:TypeId} {n:Nat} {ps:List (Nat × Operand)} {ty:TypeId} {pos:String} {af:Array Edge} {gd:Option (Nat × Bool)} :
    aop P G ρ ⟨d,.buildSlice t n ⟨ps⟩,ty,pos,af,gd⟩= .need (ps.all (fun p=>constOk p.2)=true) (buildSliceQ P d t n (ps.map fun p=>(p.1, ρ p.2))):=by simp [aop]
@[go_sem] theorem aop_load {d:Option Nat} {t:TypeId} {x:Operand} {ty:TypeId} {pos:String} {af:Array Edge} {gd:Option (Nat × Bool)}:aop P G ρ ⟨d,.load t x,ty,pos,af,gd⟩=loadQ P t (ρ x):=rfl
@[go_sem] theorem aop_store {d:Option Nat} {t:TypeId} {x y:Operand} {ty:TypeId} {pos:String} {af:Array Edge} {gd:Option (Nat × Bool)}:aop P G ρ ⟨d,.store t x y,ty,pos,af,gd⟩= .need (constOk y=true) (storeQ P t (ρ x) (ρ y)):=rfl
@[go_sem] theorem aop_nilCheck {d:Option Nat} {x:Operand} {ty:TypeId} {pos:String} {af:Array Edge} {gd:Option (Nat × Bool)}:aop P G ρ ⟨d,.nilCheck x,ty,pos,af,gd⟩=nilCheckQ (ρ x):=rfl
@[go_sem] theorem aop_binOp {d:Option Nat} {op:BinOp} {t t2:TypeId} {x y:Operand} {ty:TypeId} {pos:String} {af:Array Edge} {gd:Option (Nat × Bool)} :
    aop P G ρ ⟨d,.binOp op t x y t2,ty,pos,af,gd⟩= .need (constOk x=true∧constOk y=true) (boolQ P op t (ρ x) (ρ y)):=rfl
@[go_sem] theorem aop_unOp {d:Option Nat} {op:UnOp} {t:TypeId} {x:Operand} {ty:TypeId} {pos:String} {af:Array Edge} {gd:Option (Nat × Bool)}:aop P G ρ ⟨d,.unOp op t x,ty,pos,af,gd⟩=unQ op (ρ x):=rfl
@[go_sem] theorem aop_convert {d:Option Nat} {t t2:TypeId} {x:Operand} {ty:TypeId} {pos:String} {af:Array Edge} {gd:Option (Nat × Bool)}:aop P G ρ ⟨d,.convert t t2 x,ty,pos,af,gd⟩=convQ P t t2 (ρ x):=rfl
@[go_sem] theorem aop_arr {d:Option Nat} {t:TypeId} {x:Operand} {ty:TypeId} {pos:String} {af:Array Edge} {gd:Option (Nat × Bool)}:aop P G ρ ⟨d,.sliceToArrayPointer t x,ty,pos,af,gd⟩=arrPtrQ P t (ρ x):=rfl
@[go_sem] theorem aop_make {d:Option Nat} {t:TypeId} {x y:Operand} {ty:TypeId} {pos:String} {af:Array Edge} {gd:Option (Nat × Bool)}:aop P G ρ ⟨d,.makeSlice t x y,ty,pos,af,gd⟩=makeQ P d t (ρ x) (ρ y):=rfl
@[go_sem] theorem aop_slice {d:Option Nat} {t:TypeId} {x:Operand} {lo hi:Option Operand} {ty:TypeId} {pos:String} {af:Array Edge} {gd:Option (Nat × Bool)}:aop P G ρ ⟨d,.slice t x lo hi none,ty,pos,af,gd⟩=sliceQ P t (ρ x) (lo.map ρ) (hi.map ρ):=rfl
@[go_sem] theorem aop_fieldAddr {d:Option Nat} {t:TypeId} {x:Operand} {f:Nat} {ty:TypeId} {pos:String} {af:Array Edge} {gd:Option (Nat × Bool)}:aop P G ρ ⟨d,.fieldAddr t x f,ty,pos,af,gd⟩=fieldAddrQ P t (ρ x) f:=rfl
@[go_sem] theorem aop_indexAddr {d:Option Nat} {t:TypeId} {x y:Operand} {ty:TypeId} {pos:String} {af:Array Edge} {gd:Option (Nat × Bool)}:aop P G ρ ⟨d,.indexAddr t x y,ty,pos,af,gd⟩=indexAddrQ P t (ρ x) (ρ y):=rfl
@[go_sem] theorem aop_index {d:Option Nat} {t:TypeId} {x y:Operand} {ty:TypeId} {pos:String} {af:Array Edge} {gd:Option (Nat × Bool)}:aop P G ρ ⟨d,.index t x y,ty,pos,af,gd⟩= .need (constOk x=true) (indexQ P t (ρ x) (ρ y)):=rfl
@[go_sem] theorem aop_extract {d:Option Nat} {x:Operand} {i:Nat} {ty:TypeId} {pos:String} {af:Array Edge} {gd:Option (Nat × Bool)}:aop P G ρ ⟨d,.extract x i,ty,pos,af,gd⟩=extractQ (ρ x) i:=rfl
@[go_sem] theorem aop_callV {d:Option Nat} {f:Operand} {args:List Operand} {tys:Array TypeId} {ty:TypeId} {pos:String} {af:Array Edge} {gd:Option (Nat × Bool)} :
    aop P G ρ ⟨d,.call ⟨.value f,⟨args⟩,tys⟩,ty,pos,af,gd⟩= .need (constOk f=true∧args.all constOk=true) (callQ P G d (ρ f) (args.map ρ)):=rfl
@[go_sem] theorem aop_len {d:Option Nat} {x:Operand} {t:TypeId} {ty:TypeId} {pos:String} {af:Array Edge} {gd:Option (Nat × Bool)} :
    aop P G ρ ⟨d,.call ⟨.builtin .len,⟨[x]⟩,⟨[t]⟩⟩,ty,pos,af,gd⟩= .need (constOk x=true) (lenQ P t (ρ x)):=rfl
@[go_sem] theorem aop_append {d:Option Nat} {x y:Operand} {t t2:TypeId} {ty:TypeId} {pos:String} {af:Array Edge} {gd:Option (Nat × Bool)} :
    aop P G ρ ⟨d,.call ⟨.builtin .append,⟨[x,y]⟩,⟨[t,t2]⟩⟩,ty,pos,af,gd⟩= .need (constOk x=true∧constOk y=true) (appendQ P d t t2 (ρ x) (ρ y)):=rfl
@[go_sem] theorem aop_copy {d:Option Nat} {x y:Operand} {t t2:TypeId} {ty:TypeId} {pos:String} {af:Array Edge} {gd:Option (Nat × Bool)} :
    aop P G ρ ⟨d,.call ⟨.builtin .copy,⟨[x,y]⟩,⟨[t,t2]⟩⟩,ty,pos,af,gd⟩= .need (constOk x=true∧constOk y=true) (copyQ P t t2 (ρ x) (ρ y)):=rfl
@[go_sem] theorem aop_max {d:Option Nat} {x y:Operand} {tys:Array TypeId} {ty:TypeId} {pos:String} {af:Array Edge} {gd:Option (Nat × Bool)} :
    aop P G ρ ⟨d,.call ⟨.builtin .max,⟨[x,y]⟩,tys⟩,ty,pos,af,gd⟩= .need (constOk x=true∧constOk y=true) (minmaxQ true (ρ x) (ρ y)):=rfl
@[go_sem] theorem run_done {v:SV} {U:List (Nat × Option AObj)}:Q.run H rs Kc (.done v U)=Kc rs (.val v U):=rfl
@[go_sem] theorem run_need {p:Prop} {q:Q}:Q.run H rs Kc (.need p q)=(p∧q.run H rs Kc):=rfl
@[go_sem] theorem run_any {α:Type} {k:α→Q}:Q.run H rs Kc (.any α k)= ∃ x,(k x).run H rs Kc:=rfl
@[go_sem] theorem run_new {r:Nat} {q:Q}:Q.run H rs Kc (.new r q)=(H r=none∧q.run H (r::rs) Kc):=rfl
def objK (x:Option (Option AObj)) (k:AObj→Q) (H:Hp) (rs:List Nat) (Kc:List Nat→Out→Prop):Prop:=
  match x with
  | some (some o)=>(k o).run H rs Kc
  | _=>False
@[go_sem] theorem objK_some {o:AObj} {k:AObj→Q}:objK (some (some o)) k H rs Kc=(k o).run H rs Kc:=rfl
@[go_sem] theorem run_obj {r:Nat} {k:AObj→Q}:Q.run H rs Kc (.obj r k)=objK (H r) k H (r::rs) Kc:=by
  unfold objK
  rw [Q.run]
  rcases H r with _|_|o <;> rfl
def Br (t:Bool) (k:Bool→Prop):Prop:=k t
theorem zM {t:Bool} {k:Bool→Prop} (h1:t=true→k true) (h2:t=false→k false):Br t k:=by
  cases t
  · exact h2 rfl
  · exact h1 rfl
@[go_sem] theorem br_true {k:Bool→Prop}:Br true k=k true:=rfl
@[go_sem] theorem br_false {k:Bool→Prop}:Br false k=k false:=rfl
def nK (k:Bool→Prop) (b:Bool):Prop:=k (!b)
@[go_sem] theorem nK_true {k:Bool→Prop}:nK k true=k false:=rfl
@[go_sem] theorem nK_false {k:Bool→Prop}:nK k false=k true:=rfl
@[go_sem] theorem br_not {t:Bool} {k:Bool→Prop}:Br (!t) k=Br t (nK k):=rfl
def gK (P:Program) (G:Nat→Option (List D)) (o:Oper) (s:FSt) (Kc:List Nat→Out→Prop) (b:Bool):Prop:=
  match b with
  | true=>(aop P G (evl G s.sl) o).run s.ob [] Kc
  | false=>Kc [] (.val .undef [])
@[go_sem] theorem gK_true {o:Oper}:gK P G o s Kc true=(aop P G (evl G s.sl) o).run s.ob [] Kc:=rfl
@[go_sem] theorem gK_false {o:Oper}:gK P G o s Kc false=Kc [] (.val .undef []):=rfl
@[go_sem] theorem astepG_some {t:Bool} {o:Oper}:astepG P G (some t) o s Kc=Br t (gK P G o s Kc):=by
  cases t <;> rfl
def ifK (P:Program) (K:Ctx G) (F:Fr) (x y:Code) (R:Exit→FSt→Prop) (s:FSt) (b:Bool):Prop:=
  match b with
  | true=>Sound P K F x R s
  | false=>Sound P K F y R s
@[go_sem] theorem ifK_true {K:Ctx G} {F:Fr} {R:Exit→FSt→Prop} {x y:Code}:ifK P K F x y R s true=Sound P K F x R s:=rfl
@[go_sem] theorem ifK_false {K:Ctx G} {F:Fr} {R:Exit→FSt→Prop} {x y:Code}:ifK P K F x y R s false=Sound P K F y R s:=rfl
def condB (x:SV) (k:Bool→Prop):Prop:=
  match x with
  | .a (.c (.d (.v (.bool t))))=>k t
  | _=>False
@[go_sem] theorem condB_bool {t:Bool} {k:Bool→Prop}:condB (.a (.c (.d (.v (.bool t))))) k=k t:=rfl
theorem zN {K:Ctx G} {F:Fr} {R:Exit→FSt→Prop} {c:Operand} {x y:Code} (h:condB (evl G s.sl c) fun t=>Br t (ifK P K F x y R s)):Sound P K F (.cond c x y) R s:=by
  unfold condB at h
  split at h
  · rename_i t e
    refine sound_cond e ?_
    cases t
    · exact h
    · exact h
  · exact h.elim
theorem zR {ops:Array Oper} {l:List (List Nat × List Nat)} {p:Prop} (h:logOk ops l=true) (h2:p):logOk ops l=true∧p:=⟨h,h2⟩
theorem zA {K:Ctx G} {F:Fr} {R:Exit→FSt→Prop} {x y:Code} (h: ∀ Kn:FSt→Prop,(∀ s,Sound P K F y R s→Kn s)→Sound P K F x (Then Kn R) s):Sound P K F (.seq x y) R s:=sound_seq (h _ fun _ h=>h)
class Nx (g:Prop) (p:outParam Prop):Prop where
  go:p→g
section
variable {K:Ctx G} {F:Fr} {R:Exit→FSt→Prop} {x y:Code} {c:Operand} {id:Nat}
instance:Nx (Sound P K F (.block id x) R s) (Sound P K F x (InBlock id R) s):=⟨zD⟩
instance:Nx (Sound P K F .skip R s) (R .normal s):=⟨zG⟩
instance:Nx (Sound P K F .ret R s) (R .ret s):=⟨zF⟩
instance:Nx (Sound P K F (.exit id) R s) (R (.exit id) s):=⟨zH⟩
instance:Nx (Sound P K F (.cond c x y) R s) (condB (evl G s.sl c) fun t=>Br t (ifK P K F x y R s)):=⟨zN⟩
end
attribute [go_sem] FSt.app putS updO LSt.st lkS lkO upd evl cvS cvC constOk Then InBlock
attribute [go_sem] lenQ loadQ storeQ newQ boxQ partOf setAt valQ optQ binQ boolQ unQ arithV strV rdQ rdD fieldAddrQ indexAddrQ fieldQ indexQ partQ extractQ nilCheckQ arrPtrQ bndQ Cap.cut sliceQ buildQ buildSliceQ makeQ fillC placeOf
attribute [go_sem] isSl isPtr isFn nilQ Option.isNone_none Option.isNone_some Bool.false_bne Bool.true_bne Bool.bne_false Bool.bne_true
attribute [go_sem] callX callP callL D.flat C.flat DV.flat DR.flat SV.ref makeFnQ cvCaps List.any_cons List.any_nil Bool.or_false Bool.false_or Bool.or_true Bool.true_or
attribute [go_sem] true_or List.isEmpty_cons List.isEmpty_nil ifaceQ panicQ plainS extQ callQ cvArgs cvA cvQ cvW cvIn cvLS cvF cvL dOnly dOf Cap.part DR.out DV.av appendQ srcQ copyQ minmaxQ convQ gslot Ret resQ outOf initL
attribute [go_sem] List.map_cons List.map_nil List.all_cons List.all_nil Bool.and_true Bool.true_and and_true true_and Option.map_some Option.map_none ne_eq not_true_eq_false not_false_eq_true if_true if_false Bool.not_true Bool.not_false
attribute [go_sem] List.getElem?_cons_zero List.getElem?_cons_succ List.getElem?_nil List.take_zero List.take_succ_cons List.take_nil List.drop_zero List.drop_succ_cons List.drop_nil List.length_cons List.length_nil List.cons_append List.nil_append List.append_nil List.set_cons_zero List.set_cons_succ
attribute [go_sem] Nat.add_zero Nat.zero_add Nat.mul_one Nat.one_mul Nat.zero_mul Nat.sub_zero Int.toNat_natCast
@[go_sem] theorem bq_true {b:Bool}:(b==true)=b:=by cases b <;> rfl
@[go_sem] theorem bq_false {b:Bool}:(b==false)= !b:=by cases b <;> rfl
attribute [go_sem] Nat.reduceEqDiff Nat.reduceBEq Nat.reduceAdd Nat.reduceMul Nat.reduceSub Nat.reduceLeDiff Nat.reduceLT reduceCtorEq Int.reduceLE Int.reduceLT Int.reduceToNat Int.reduceBEq
attribute [go_sem ↓] reduceIte
attribute [go_sem] Option.bind_some List.reverse_cons List.reverse_nil Kd.agg beq_self_eq_true
end
end Go.Proofs.YtdakeodebgggfaaGreatDoor
namespace Go.Proofs.YtdakeodebgggfaaGreatDoor
open Go Go.RowKit
@[go_sem] theorem ty3_kd:kdOf Go.Proofs.Tryz.prog 3=Kd.int IntKind.i64:=by kernel_rfl
@[go_sem] theorem ty3_sz:szOf Go.Proofs.Tryz.prog 3=1:=by kernel_rfl
@[go_sem] theorem ty3_ok:tyok Go.Proofs.Tryz.prog 3=true:=by kernel_rfl
@[go_sem] theorem ty4_kd:kdOf Go.Proofs.Tryz.prog 4=Kd.bool:=by kernel_rfl
@[go_sem] theorem ty4_sz:szOf Go.Proofs.Tryz.prog 4=1:=by kernel_rfl
@[go_sem] theorem ty4_ok:tyok Go.Proofs.Tryz.prog 4=true:=by kernel_rfl
@[go_sem] theorem ty5_kd:kdOf Go.Proofs.Tryz.prog 5=Kd.int IntKind.u8:=by kernel_rfl
@[go_sem] theorem ty5_sz:szOf Go.Proofs.Tryz.prog 5=1:=by kernel_rfl
@[go_sem] theorem ty5_by:byOf Go.Proofs.Tryz.prog 5=1:=by kernel_rfl
@[go_sem] theorem ty5_ok:tyok Go.Proofs.Tryz.prog 5=true:=by kernel_rfl
@[go_sem] theorem ty5_z:zeroOf Go.Proofs.Tryz.prog 5=[C.d (D.v (Value.int IntKind.u8 0))]:=by kernel_rfl
@[go_sem] theorem ty5_u8:u8Ok Go.Proofs.Tryz.prog 5=True:=eq_true ⟨by kernel_rfl,by kernel_rfl,by kernel_rfl⟩
@[go_sem] theorem ty9_kd:kdOf Go.Proofs.Tryz.prog 9=Kd.str:=by kernel_rfl
@[go_sem] theorem ty22_kd:kdOf Go.Proofs.Tryz.prog 22=Kd.sl 5:=by kernel_rfl
@[go_sem] theorem ty22_sz:szOf Go.Proofs.Tryz.prog 22=1:=by kernel_rfl
@[go_sem] theorem ty22_ok:tyok Go.Proofs.Tryz.prog 22=true:=by kernel_rfl
@[go_sem] theorem ty22_z:zeroOf Go.Proofs.Tryz.prog 22=[C.nil]:=by kernel_rfl
@[go_sem] theorem ty23_kd:kdOf Go.Proofs.Tryz.prog 23=Kd.sl 25:=by kernel_rfl
@[go_sem] theorem ty23_sz:szOf Go.Proofs.Tryz.prog 23=1:=by kernel_rfl
@[go_sem] theorem ty23_ok:tyok Go.Proofs.Tryz.prog 23=true:=by kernel_rfl
@[go_sem] theorem ty25_kd:kdOf Go.Proofs.Tryz.prog 25=Kd.st:=by kernel_rfl
@[go_sem] theorem ty25_sz:szOf Go.Proofs.Tryz.prog 25=5:=by kernel_rfl
@[go_sem] theorem ty25_by:byOf Go.Proofs.Tryz.prog 25=80:=by kernel_rfl
@[go_sem] theorem ty25_ok:tyok Go.Proofs.Tryz.prog 25=true:=by kernel_rfl
@[go_sem] theorem ty25_z:zeroOf Go.Proofs.Tryz.prog 25=[C.d (D.v (Value.bool false)),C.d (D.v (Value.bool false)),C.nil,C.nil,C.nil]:=by kernel_rfl
@[go_sem] theorem ty25_f0:fldOf Go.Proofs.Tryz.prog 25 0=(0,4):=by kernel_rfl
@[go_sem] theorem ty25_i0:isFld Go.Proofs.Tryz.prog 25 0=true:=by kernel_rfl
@[go_sem] theorem ty25_f1:fldOf Go.Proofs.Tryz.prog 25 1=(1,4):=by kernel_rfl
@[go_sem] theorem ty25_i1:isFld Go.Proofs.Tryz.prog 25 1=true:=by kernel_rfl
@[go_sem] theorem ty25_f2:fldOf Go.Proofs.Tryz.prog 25 2=(2,22):=by kernel_rfl
@[go_sem] theorem ty25_i2:isFld Go.Proofs.Tryz.prog 25 2=true:=by kernel_rfl
@[go_sem] theorem ty25_f3:fldOf Go.Proofs.Tryz.prog 25 3=(3,22):=by kernel_rfl
@[go_sem] theorem ty25_i3:isFld Go.Proofs.Tryz.prog 25 3=true:=by kernel_rfl
@[go_sem] theorem ty25_f4:fldOf Go.Proofs.Tryz.prog 25 4=(4,23):=by kernel_rfl
@[go_sem] theorem ty25_i4:isFld Go.Proofs.Tryz.prog 25 4=true:=by kernel_rfl
@[go_sem] theorem ty25_b:bldOk Go.Proofs.Tryz.prog 25=true:=by kernel_rfl
@[go_sem] theorem ty27_kd:kdOf Go.Proofs.Tryz.prog 27=Kd.st:=by kernel_rfl
@[go_sem] theorem ty27_sz:szOf Go.Proofs.Tryz.prog 27=7:=by kernel_rfl
@[go_sem] theorem ty27_ok:tyok Go.Proofs.Tryz.prog 27=true:=by kernel_rfl
@[go_sem] theorem ty27_z:zeroOf Go.Proofs.Tryz.prog 27=[C.d (D.v (Value.bool false)),C.d (D.v (Value.bool false)),C.nil,C.nil,C.nil,C.nil,C.nil]:=by kernel_rfl
@[go_sem] theorem ty27_f0:fldOf Go.Proofs.Tryz.prog 27 0=(0,25):=by kernel_rfl
@[go_sem] theorem ty27_i0:isFld Go.Proofs.Tryz.prog 27 0=true:=by kernel_rfl
@[go_sem] theorem ty27_f1:fldOf Go.Proofs.Tryz.prog 27 1=(5,22):=by kernel_rfl
@[go_sem] theorem ty27_i1:isFld Go.Proofs.Tryz.prog 27 1=true:=by kernel_rfl
@[go_sem] theorem ty27_f2:fldOf Go.Proofs.Tryz.prog 27 2=(6,22):=by kernel_rfl
@[go_sem] theorem ty27_i2:isFld Go.Proofs.Tryz.prog 27 2=true:=by kernel_rfl
@[go_sem] theorem ty27_b:bldOk Go.Proofs.Tryz.prog 27=true:=by kernel_rfl
@[go_sem] theorem ty39_kd:kdOf Go.Proofs.Tryz.prog 39=Kd.arr 32 5:=by kernel_rfl
@[go_sem] theorem ty39_sz:szOf Go.Proofs.Tryz.prog 39=32:=by kernel_rfl
@[go_sem] theorem ty39_ok:tyok Go.Proofs.Tryz.prog 39=true:=by kernel_rfl
@[go_sem] theorem ty39_z:zeroOf Go.Proofs.Tryz.prog 39=List.replicate 32 (C.d (D.v (Value.int IntKind.u8 0))):=by kernel_rfl
@[go_sem] theorem ty39_b:bldOk Go.Proofs.Tryz.prog 39=true:=by kernel_rfl
@[go_sem] theorem ty40_kd:kdOf Go.Proofs.Tryz.prog 40=Kd.sl 27:=by kernel_rfl
@[go_sem] theorem ty53_kd:kdOf Go.Proofs.Tryz.prog 53=Kd.arr 64 5:=by kernel_rfl
@[go_sem] theorem ty53_sz:szOf Go.Proofs.Tryz.prog 53=64:=by kernel_rfl
@[go_sem] theorem ty53_ok:tyok Go.Proofs.Tryz.prog 53=true:=by kernel_rfl
@[go_sem] theorem ty53_z:zeroOf Go.Proofs.Tryz.prog 53=List.replicate 64 (C.d (D.v (Value.int IntKind.u8 0))):=by kernel_rfl
@[go_sem] theorem ty59_kd:kdOf Go.Proofs.Tryz.prog 59=Kd.int IntKind.u64:=by kernel_rfl
@[go_sem] theorem ty59_sz:szOf Go.Proofs.Tryz.prog 59=1:=by kernel_rfl
@[go_sem] theorem ty59_by:byOf Go.Proofs.Tryz.prog 59=8:=by kernel_rfl
@[go_sem] theorem ty59_ok:tyok Go.Proofs.Tryz.prog 59=true:=by kernel_rfl
@[go_sem] theorem ty59_z:zeroOf Go.Proofs.Tryz.prog 59=[C.d (D.v (Value.int IntKind.u64 0))]:=by kernel_rfl
@[go_sem] theorem ty61_kd:kdOf Go.Proofs.Tryz.prog 61=Kd.arr 16 59:=by kernel_rfl
@[go_sem] theorem ty61_sz:szOf Go.Proofs.Tryz.prog 61=16:=by kernel_rfl
@[go_sem] theorem ty61_ok:tyok Go.Proofs.Tryz.prog 61=true:=by kernel_rfl
@[go_sem] theorem ty61_z:zeroOf Go.Proofs.Tryz.prog 61=List.replicate 16 (C.d (D.v (Value.int IntKind.u64 0))):=by kernel_rfl
@[go_sem] theorem ty61_b:bldOk Go.Proofs.Tryz.prog 61=true:=by kernel_rfl
@[go_sem] theorem ty63_kd:kdOf Go.Proofs.Tryz.prog 63=Kd.st:=by kernel_rfl
@[go_sem] theorem ty63_sz:szOf Go.Proofs.Tryz.prog 63=48:=by kernel_rfl
@[go_sem] theorem ty63_ok:tyok Go.Proofs.Tryz.prog 63=true:=by kernel_rfl
@[go_sem] theorem ty63_z:zeroOf Go.Proofs.Tryz.prog 63=List.replicate 48 (C.d (D.v (Value.int IntKind.u64 0))):=by kernel_rfl
@[go_sem] theorem ty63_f0:fldOf Go.Proofs.Tryz.prog 63 0=(0,61):=by kernel_rfl
@[go_sem] theorem ty63_i0:isFld Go.Proofs.Tryz.prog 63 0=true:=by kernel_rfl
@[go_sem] theorem ty63_f1:fldOf Go.Proofs.Tryz.prog 63 1=(16,61):=by kernel_rfl
@[go_sem] theorem ty63_i1:isFld Go.Proofs.Tryz.prog 63 1=true:=by kernel_rfl
@[go_sem] theorem ty63_f2:fldOf Go.Proofs.Tryz.prog 63 2=(32,61):=by kernel_rfl
@[go_sem] theorem ty63_i2:isFld Go.Proofs.Tryz.prog 63 2=true:=by kernel_rfl
@[go_sem] theorem ty63_b:bldOk Go.Proofs.Tryz.prog 63=true:=by kernel_rfl
@[go_sem] theorem ty70_kd:kdOf Go.Proofs.Tryz.prog 70=Kd.sl 22:=by kernel_rfl
@[go_sem] theorem ty74_kd:kdOf Go.Proofs.Tryz.prog 74=Kd.st:=by kernel_rfl
@[go_sem] theorem ty74_sz:szOf Go.Proofs.Tryz.prog 74=2:=by kernel_rfl
@[go_sem] theorem ty74_ok:tyok Go.Proofs.Tryz.prog 74=true:=by kernel_rfl
@[go_sem] theorem ty74_z:zeroOf Go.Proofs.Tryz.prog 74=[C.d (D.v (Value.bool false)),C.nil]:=by kernel_rfl
@[go_sem] theorem ty74_f0:fldOf Go.Proofs.Tryz.prog 74 0=(0,4):=by kernel_rfl
@[go_sem] theorem ty74_i0:isFld Go.Proofs.Tryz.prog 74 0=true:=by kernel_rfl
@[go_sem] theorem ty74_f1:fldOf Go.Proofs.Tryz.prog 74 1=(1,22):=by kernel_rfl
@[go_sem] theorem ty74_i1:isFld Go.Proofs.Tryz.prog 74 1=true:=by kernel_rfl
@[go_sem] theorem ty74_b:bldOk Go.Proofs.Tryz.prog 74=true:=by kernel_rfl
@[go_sem] theorem ty76_kd:kdOf Go.Proofs.Tryz.prog 76=Kd.ptr 25:=by kernel_rfl
@[go_sem] theorem ty76_sz:szOf Go.Proofs.Tryz.prog 76=1:=by kernel_rfl
@[go_sem] theorem ty76_by:byOf Go.Proofs.Tryz.prog 76=8:=by kernel_rfl
@[go_sem] theorem ty76_ok:tyok Go.Proofs.Tryz.prog 76=true:=by kernel_rfl
@[go_sem] theorem ty76_z:zeroOf Go.Proofs.Tryz.prog 76=[C.d (D.v (Value.pointer none))]:=by kernel_rfl
@[go_sem] theorem ty77_kd:kdOf Go.Proofs.Tryz.prog 77=Kd.sl 76:=by kernel_rfl
@[go_sem] theorem ty79_kd:kdOf Go.Proofs.Tryz.prog 79=Kd.arr 5 59:=by kernel_rfl
@[go_sem] theorem ty79_sz:szOf Go.Proofs.Tryz.prog 79=5:=by kernel_rfl
@[go_sem] theorem ty79_ok:tyok Go.Proofs.Tryz.prog 79=true:=by kernel_rfl
@[go_sem] theorem ty79_z:zeroOf Go.Proofs.Tryz.prog 79=[C.d (D.v (Value.int IntKind.u64 0)),C.d (D.v (Value.int IntKind.u64 0)),C.d (D.v (Value.int IntKind.u64 0)),C.d (D.v (Value.int IntKind.u64 0)),C.d (D.v (Value.int IntKind.u64 0))]:=by kernel_rfl
@[go_sem] theorem ty79_b:bldOk Go.Proofs.Tryz.prog 79=true:=by kernel_rfl
@[go_sem] theorem ty81_kd:kdOf Go.Proofs.Tryz.prog 81=Kd.st:=by kernel_rfl
@[go_sem] theorem ty81_sz:szOf Go.Proofs.Tryz.prog 81=5:=by kernel_rfl
@[go_sem] theorem ty81_ok:tyok Go.Proofs.Tryz.prog 81=true:=by kernel_rfl
@[go_sem] theorem ty81_z:zeroOf Go.Proofs.Tryz.prog 81=[C.d (D.v (Value.int IntKind.u64 0)),C.d (D.v (Value.int IntKind.u64 0)),C.d (D.v (Value.int IntKind.u64 0)),C.d (D.v (Value.int IntKind.u64 0)),C.d (D.v (Value.int IntKind.u64 0))]:=by kernel_rfl
@[go_sem] theorem ty81_f0:fldOf Go.Proofs.Tryz.prog 81 0=(0,79):=by kernel_rfl
@[go_sem] theorem ty81_i0:isFld Go.Proofs.Tryz.prog 81 0=true:=by kernel_rfl
@[go_sem] theorem ty81_b:bldOk Go.Proofs.Tryz.prog 81=true:=by kernel_rfl
@[go_sem] theorem ty83_kd:kdOf Go.Proofs.Tryz.prog 83=Kd.st:=by kernel_rfl
@[go_sem] theorem ty83_sz:szOf Go.Proofs.Tryz.prog 83=20:=by kernel_rfl
@[go_sem] theorem ty83_ok:tyok Go.Proofs.Tryz.prog 83=true:=by kernel_rfl
@[go_sem] theorem ty83_z:zeroOf Go.Proofs.Tryz.prog 83=List.replicate 20 (C.d (D.v (Value.int IntKind.u64 0))):=by kernel_rfl
@[go_sem] theorem ty83_f0:fldOf Go.Proofs.Tryz.prog 83 0=(0,81):=by kernel_rfl
@[go_sem] theorem ty83_i0:isFld Go.Proofs.Tryz.prog 83 0=true:=by kernel_rfl
@[go_sem] theorem ty83_f1:fldOf Go.Proofs.Tryz.prog 83 1=(5,81):=by kernel_rfl
@[go_sem] theorem ty83_i1:isFld Go.Proofs.Tryz.prog 83 1=true:=by kernel_rfl
@[go_sem] theorem ty83_f2:fldOf Go.Proofs.Tryz.prog 83 2=(10,81):=by kernel_rfl
@[go_sem] theorem ty83_i2:isFld Go.Proofs.Tryz.prog 83 2=true:=by kernel_rfl
@[go_sem] theorem ty83_f3:fldOf Go.Proofs.Tryz.prog 83 3=(15,81):=by kernel_rfl
@[go_sem] theorem ty83_i3:isFld Go.Proofs.Tryz.prog 83 3=true:=by kernel_rfl
@[go_sem] theorem ty83_b:bldOk Go.Proofs.Tryz.prog 83=true:=by kernel_rfl
@[go_sem] theorem ty106_kd:kdOf Go.Proofs.Tryz.prog 106=Kd.sl 59:=by kernel_rfl
@[go_sem] theorem ty113_z:zeroOf Go.Proofs.Tryz.prog 113=[C.d (D.v (Value.int IntKind.i64 0)),C.d (D.v (Value.int IntKind.i64 0))]:=by kernel_rfl
@[go_sem] theorem ty113_f0:fldOf Go.Proofs.Tryz.prog 113 0=(0,3):=by kernel_rfl
@[go_sem] theorem ty113_i0:isFld Go.Proofs.Tryz.prog 113 0=true:=by kernel_rfl
@[go_sem] theorem ty113_f1:fldOf Go.Proofs.Tryz.prog 113 1=(1,3):=by kernel_rfl
@[go_sem] theorem ty113_i1:isFld Go.Proofs.Tryz.prog 113 1=true:=by kernel_rfl
@[go_sem] theorem ty113_b:bldOk Go.Proofs.Tryz.prog 113=true:=by kernel_rfl
@[go_sem] theorem ty126_kd:kdOf Go.Proofs.Tryz.prog 126=Kd.st:=by kernel_rfl
@[go_sem] theorem ty126_sz:szOf Go.Proofs.Tryz.prog 126=5:=by kernel_rfl
@[go_sem] theorem ty126_ok:tyok Go.Proofs.Tryz.prog 126=true:=by kernel_rfl
@[go_sem] theorem ty126_z:zeroOf Go.Proofs.Tryz.prog 126=[C.d (D.v (Value.int IntKind.u64 0)),C.d (D.v (Value.int IntKind.u64 0)),C.d (D.v (Value.int IntKind.u64 0)),C.d (D.v (Value.int IntKind.u64 0)),C.d (D.v (Value.int IntKind.u64 0))]:=by kernel_rfl
@[go_sem] theorem ty126_f0:fldOf Go.Proofs.Tryz.prog 126 0=(0,81):=by kernel_rfl
@[go_sem] theorem ty126_i0:isFld Go.Proofs.Tryz.prog 126 0=true:=by kernel_rfl
@[go_sem] theorem ty126_b:bldOk Go.Proofs.Tryz.prog 126=true:=by kernel_rfl
@[go_sem] theorem ty129_kd:kdOf Go.Proofs.Tryz.prog 129=Kd.sl 83:=by kernel_rfl
@[go_sem] theorem ty139_kd:kdOf Go.Proofs.Tryz.prog 139=Kd.arr 32 59:=by kernel_rfl
@[go_sem] theorem ty139_sz:szOf Go.Proofs.Tryz.prog 139=32:=by kernel_rfl
@[go_sem] theorem ty139_ok:tyok Go.Proofs.Tryz.prog 139=true:=by kernel_rfl
@[go_sem] theorem ty139_z:zeroOf Go.Proofs.Tryz.prog 139=List.replicate 32 (C.d (D.v (Value.int IntKind.u64 0))):=by kernel_rfl
@[go_sem] theorem ty139_b:bldOk Go.Proofs.Tryz.prog 139=true:=by kernel_rfl
@[go_sem] theorem ty146_kd:kdOf Go.Proofs.Tryz.prog 146=Kd.arr 4 59:=by kernel_rfl
@[go_sem] theorem ty146_sz:szOf Go.Proofs.Tryz.prog 146=4:=by kernel_rfl
@[go_sem] theorem ty146_ok:tyok Go.Proofs.Tryz.prog 146=true:=by kernel_rfl
@[go_sem] theorem ty146_z:zeroOf Go.Proofs.Tryz.prog 146=[C.d (D.v (Value.int IntKind.u64 0)),C.d (D.v (Value.int IntKind.u64 0)),C.d (D.v (Value.int IntKind.u64 0)),C.d (D.v (Value.int IntKind.u64 0))]:=by kernel_rfl
@[go_sem] theorem ty146_b:bldOk Go.Proofs.Tryz.prog 146=true:=by kernel_rfl
@[go_sem] theorem ty153_kd:kdOf Go.Proofs.Tryz.prog 153=Kd.st:=by kernel_rfl
@[go_sem] theorem ty153_sz:szOf Go.Proofs.Tryz.prog 153=2:=by kernel_rfl
@[go_sem] theorem ty153_ok:tyok Go.Proofs.Tryz.prog 153=true:=by kernel_rfl
@[go_sem] theorem ty153_z:zeroOf Go.Proofs.Tryz.prog 153=[C.d (D.v (Value.int IntKind.u64 0)),C.d (D.v (Value.int IntKind.u64 0))]:=by kernel_rfl
@[go_sem] theorem ty153_f0:fldOf Go.Proofs.Tryz.prog 153 0=(0,59):=by kernel_rfl
@[go_sem] theorem ty153_i0:isFld Go.Proofs.Tryz.prog 153 0=true:=by kernel_rfl
@[go_sem] theorem ty153_f1:fldOf Go.Proofs.Tryz.prog 153 1=(1,59):=by kernel_rfl
@[go_sem] theorem ty153_i1:isFld Go.Proofs.Tryz.prog 153 1=true:=by kernel_rfl
@[go_sem] theorem ty154_kd:kdOf Go.Proofs.Tryz.prog 154=Kd.arr 5 153:=by kernel_rfl
@[go_sem] theorem ty154_sz:szOf Go.Proofs.Tryz.prog 154=10:=by kernel_rfl
@[go_sem] theorem ty154_ok:tyok Go.Proofs.Tryz.prog 154=true:=by kernel_rfl
@[go_sem] theorem ty154_z:zeroOf Go.Proofs.Tryz.prog 154=List.replicate 10 (C.d (D.v (Value.int IntKind.u64 0))):=by kernel_rfl
@[go_sem] theorem fn5_ok:funcOk Go.Proofs.Tryz.prog 5=true:=by kernel_rfl
@[go_sem] theorem fn6_ok:funcOk Go.Proofs.Tryz.prog 6=true:=by kernel_rfl
@[go_sem] theorem fn7_ok:funcOk Go.Proofs.Tryz.prog 7=true:=by kernel_rfl
@[go_sem] theorem fn8_ok:funcOk Go.Proofs.Tryz.prog 8=true:=by kernel_rfl
@[go_sem] theorem fn9_ok:funcOk Go.Proofs.Tryz.prog 9=true:=by kernel_rfl
@[go_sem] theorem fn10_ok:funcOk Go.Proofs.Tryz.prog 10=true:=by kernel_rfl
@[go_sem] theorem fn11_ok:funcOk Go.Proofs.Tryz.prog 11=true:=by kernel_rfl
@[go_sem] theorem fn12_ok:funcOk Go.Proofs.Tryz.prog 12=true:=by kernel_rfl
@[go_sem] theorem fn13_ok:funcOk Go.Proofs.Tryz.prog 13=true:=by kernel_rfl
@[go_sem] theorem fn14_ok:funcOk Go.Proofs.Tryz.prog 14=true:=by kernel_rfl
@[go_sem] theorem fn15_ok:funcOk Go.Proofs.Tryz.prog 15=true:=by kernel_rfl
@[go_sem] theorem fn16_ok:funcOk Go.Proofs.Tryz.prog 16=true:=by kernel_rfl
@[go_sem] theorem fn17_ok:funcOk Go.Proofs.Tryz.prog 17=true:=by kernel_rfl
@[go_sem] theorem fn18_ok:funcOk Go.Proofs.Tryz.prog 18=true:=by kernel_rfl
@[go_sem] theorem fn19_ok:funcOk Go.Proofs.Tryz.prog 19=true:=by kernel_rfl
@[go_sem] theorem fn20_ok:funcOk Go.Proofs.Tryz.prog 20=true:=by kernel_rfl
@[go_sem] theorem fn21_ok:funcOk Go.Proofs.Tryz.prog 21=true:=by kernel_rfl
@[go_sem] theorem fn22_ok:funcOk Go.Proofs.Tryz.prog 22=true:=by kernel_rfl
@[go_sem] theorem fn23_ok:funcOk Go.Proofs.Tryz.prog 23=true:=by kernel_rfl
@[go_sem] theorem fn24_ok:funcOk Go.Proofs.Tryz.prog 24=true:=by kernel_rfl
@[go_sem] theorem fn25_ok:funcOk Go.Proofs.Tryz.prog 25=true:=by kernel_rfl
@[go_sem] theorem fn26_ok:funcOk Go.Proofs.Tryz.prog 26=true:=by kernel_rfl
@[go_sem] theorem fn27_ok:funcOk Go.Proofs.Tryz.prog 27=true:=by kernel_rfl
@[go_sem] theorem fn28_ok:funcOk Go.Proofs.Tryz.prog 28=true:=by kernel_rfl
@[go_sem] theorem fn29_ok:funcOk Go.Proofs.Tryz.prog 29=true:=by kernel_rfl
@[go_sem] theorem fn30_ok:funcOk Go.Proofs.Tryz.prog 30=true:=by kernel_rfl
@[go_sem] theorem fn31_ok:funcOk Go.Proofs.Tryz.prog 31=true:=by kernel_rfl
@[go_sem] theorem fn32_ok:funcOk Go.Proofs.Tryz.prog 32=true:=by kernel_rfl
@[go_sem] theorem fn33_ok:funcOk Go.Proofs.Tryz.prog 33=true:=by kernel_rfl
@[go_sem] theorem fn34_ok:funcOk Go.Proofs.Tryz.prog 34=true:=by kernel_rfl
@[go_sem] theorem fn35_ok:funcOk Go.Proofs.Tryz.prog 35=true:=by kernel_rfl
@[go_sem] theorem fn36_ok:funcOk Go.Proofs.Tryz.prog 36=true:=by kernel_rfl
@[go_sem] theorem fn37_ok:funcOk Go.Proofs.Tryz.prog 37=true:=by kernel_rfl
@[go_sem] theorem fn38_ok:funcOk Go.Proofs.Tryz.prog 38=true:=by kernel_rfl
@[go_sem] theorem fn39_ok:funcOk Go.Proofs.Tryz.prog 39=true:=by kernel_rfl
@[go_sem] theorem fn40_ok:funcOk Go.Proofs.Tryz.prog 40=true:=by kernel_rfl
@[go_sem] theorem fn41_ok:funcOk Go.Proofs.Tryz.prog 41=true:=by kernel_rfl
@[go_sem] theorem fn42_ok:funcOk Go.Proofs.Tryz.prog 42=true:=by kernel_rfl
@[go_sem] theorem fn43_ok:funcOk Go.Proofs.Tryz.prog 43=true:=by kernel_rfl
@[go_sem] theorem fn44_ok:funcOk Go.Proofs.Tryz.prog 44=true:=by kernel_rfl
@[go_sem] theorem fn45_ok:funcOk Go.Proofs.Tryz.prog 45=true:=by kernel_rfl
@[go_sem] theorem fn46_ok:funcOk Go.Proofs.Tryz.prog 46=true:=by kernel_rfl
@[go_sem] theorem fn47_ok:funcOk Go.Proofs.Tryz.prog 47=true:=by kernel_rfl
@[go_sem] theorem fn48_ok:funcOk Go.Proofs.Tryz.prog 48=true:=by kernel_rfl
@[go_sem] theorem fn49_ok:funcOk Go.Proofs.Tryz.prog 49=true:=by kernel_rfl
@[go_sem] theorem fn50_ok:funcOk Go.Proofs.Tryz.prog 50=true:=by kernel_rfl
@[go_sem] theorem fn51_ok:funcOk Go.Proofs.Tryz.prog 51=true:=by kernel_rfl
@[go_sem] theorem fn52_ok:funcOk Go.Proofs.Tryz.prog 52=true:=by kernel_rfl
@[go_sem] theorem fn53_ok:funcOk Go.Proofs.Tryz.prog 53=true:=by kernel_rfl
@[go_sem] theorem fn54_ok:funcOk Go.Proofs.Tryz.prog 54=true:=by kernel_rfl
@[go_sem] theorem fn55_ok:funcOk Go.Proofs.Tryz.prog 55=true:=by kernel_rfl
@[go_sem] theorem fn56_ok:funcOk Go.Proofs.Tryz.prog 56=true:=by kernel_rfl
@[go_sem] theorem fn57_ok:funcOk Go.Proofs.Tryz.prog 57=true:=by kernel_rfl
@[go_sem] theorem fn58_ok:funcOk Go.Proofs.Tryz.prog 58=true:=by kernel_rfl
@[go_sem] theorem fn59_ok:funcOk Go.Proofs.Tryz.prog 59=true:=by kernel_rfl
@[go_sem] theorem fn60_ok:funcOk Go.Proofs.Tryz.prog 60=true:=by kernel_rfl
@[go_sem] theorem fn61_ok:funcOk Go.Proofs.Tryz.prog 61=true:=by kernel_rfl
@[go_sem] theorem fn62_ok:funcOk Go.Proofs.Tryz.prog 62=true:=by kernel_rfl
@[go_sem] theorem fn63_ok:funcOk Go.Proofs.Tryz.prog 63=true:=by kernel_rfl
@[go_sem] theorem fn64_ok:funcOk Go.Proofs.Tryz.prog 64=true:=by kernel_rfl
@[go_sem] theorem fn65_ok:funcOk Go.Proofs.Tryz.prog 65=true:=by kernel_rfl
@[go_sem] theorem fn66_ok:funcOk Go.Proofs.Tryz.prog 66=true:=by kernel_rfl
@[go_sem] theorem fn67_ok:funcOk Go.Proofs.Tryz.prog 67=true:=by kernel_rfl
@[go_sem] theorem fn68_ok:funcOk Go.Proofs.Tryz.prog 68=true:=by kernel_rfl
@[go_sem] theorem fn69_ok:funcOk Go.Proofs.Tryz.prog 69=true:=by kernel_rfl
@[go_sem] theorem fn70_ok:funcOk Go.Proofs.Tryz.prog 70=true:=by kernel_rfl
@[go_sem] theorem fn71_ok:funcOk Go.Proofs.Tryz.prog 71=true:=by kernel_rfl
@[go_sem] theorem fn72_ok:funcOk Go.Proofs.Tryz.prog 72=true:=by kernel_rfl
@[go_sem] theorem fn73_ok:funcOk Go.Proofs.Tryz.prog 73=true:=by kernel_rfl
@[go_sem] theorem fn74_ok:funcOk Go.Proofs.Tryz.prog 74=true:=by kernel_rfl
@[go_sem] theorem fn75_ok:funcOk Go.Proofs.Tryz.prog 75=true:=by kernel_rfl
@[go_sem] theorem fn76_ok:funcOk Go.Proofs.Tryz.prog 76=true:=by kernel_rfl
@[go_sem] theorem fn77_ok:funcOk Go.Proofs.Tryz.prog 77=true:=by kernel_rfl
@[go_sem] theorem fn78_ok:funcOk Go.Proofs.Tryz.prog 78=true:=by kernel_rfl
@[go_sem] theorem fn79_ok:funcOk Go.Proofs.Tryz.prog 79=true:=by kernel_rfl
@[go_sem] theorem fn80_ok:funcOk Go.Proofs.Tryz.prog 80=true:=by kernel_rfl
@[go_sem] theorem fn81_ok:funcOk Go.Proofs.Tryz.prog 81=true:=by kernel_rfl
@[go_sem] theorem fn82_ok:funcOk Go.Proofs.Tryz.prog 82=true:=by kernel_rfl
@[go_sem] theorem fn83_ok:funcOk Go.Proofs.Tryz.prog 83=true:=by kernel_rfl
@[go_sem] theorem fn84_ok:funcOk Go.Proofs.Tryz.prog 84=true:=by kernel_rfl
@[go_sem] theorem fn85_ok:funcOk Go.Proofs.Tryz.prog 85=true:=by kernel_rfl
@[go_sem] theorem fn86_ok:funcOk Go.Proofs.Tryz.prog 86=true:=by kernel_rfl
@[go_sem] theorem fn87_ok:funcOk Go.Proofs.Tryz.prog 87=true:=by kernel_rfl
@[go_sem] theorem fn88_ok:funcOk Go.Proofs.Tryz.prog 88=true:=by kernel_rfl
@[go_sem] theorem fn89_ok:funcOk Go.Proofs.Tryz.prog 89=true:=by kernel_rfl
@[go_sem] theorem fn90_ok:funcOk Go.Proofs.Tryz.prog 90=true:=by kernel_rfl
@[go_sem] theorem fn91_ok:funcOk Go.Proofs.Tryz.prog 91=true:=by kernel_rfl
@[go_sem] theorem fn92_ok:funcOk Go.Proofs.Tryz.prog 92=true:=by kernel_rfl
@[go_sem] theorem fn93_ok:funcOk Go.Proofs.Tryz.prog 93=true:=by kernel_rfl
@[go_sem] theorem fn94_ok:funcOk Go.Proofs.Tryz.prog 94=true:=by kernel_rfl
@[go_sem] theorem fn95_ok:funcOk Go.Proofs.Tryz.prog 95=true:=by kernel_rfl
@[go_sem] theorem fn100_ok:funcOk Go.Proofs.Tryz.prog 100=true:=by kernel_rfl
@[go_sem] theorem fn101_ok:funcOk Go.Proofs.Tryz.prog 101=true:=by kernel_rfl
@[go_sem] theorem fn102_ok:funcOk Go.Proofs.Tryz.prog 102=true:=by kernel_rfl
@[go_sem] theorem fn103_ok:funcOk Go.Proofs.Tryz.prog 103=true:=by kernel_rfl
@[go_sem] theorem fn104_ok:funcOk Go.Proofs.Tryz.prog 104=true:=by kernel_rfl
@[go_sem] theorem fn105_ok:funcOk Go.Proofs.Tryz.prog 105=true:=by kernel_rfl
@[go_sem] theorem fn106_ok:funcOk Go.Proofs.Tryz.prog 106=true:=by kernel_rfl
@[go_sem] theorem fn107_ok:funcOk Go.Proofs.Tryz.prog 107=true:=by kernel_rfl
@[go_sem] theorem fn108_ok:funcOk Go.Proofs.Tryz.prog 108=true:=by kernel_rfl
@[go_sem] theorem fn109_ok:funcOk Go.Proofs.Tryz.prog 109=true:=by kernel_rfl
@[go_sem] theorem fn113_ok:funcOk Go.Proofs.Tryz.prog 113=true:=by kernel_rfl
@[go_sem] theorem fn114_no:funcOk Go.Proofs.Tryz.prog 114=false:=by kernel_rfl
@[go_sem] theorem fn115_ok:funcOk Go.Proofs.Tryz.prog 115=true:=by kernel_rfl
@[go_sem] theorem fn116_ok:funcOk Go.Proofs.Tryz.prog 116=true:=by kernel_rfl
@[go_sem] theorem fn117_ok:funcOk Go.Proofs.Tryz.prog 117=true:=by kernel_rfl
@[go_sem] theorem fn121_ok:funcOk Go.Proofs.Tryz.prog 121=true:=by kernel_rfl
@[go_sem] theorem fn124_ok:funcOk Go.Proofs.Tryz.prog 124=true:=by kernel_rfl
@[go_sem] theorem fn125_ok:funcOk Go.Proofs.Tryz.prog 125=true:=by kernel_rfl
@[go_sem] theorem fn130_no:funcOk Go.Proofs.Tryz.prog 130=false:=by kernel_rfl
end Go.Proofs.YtdakeodebgggfaaGreatDoor
namespace Go.Proofs.YtdakeodebgggfaaGreatDoor
open Go.RowKit
section
variable {G:Nat→Option (List D)} {P:Program} {K:Ctx G} {F:Fr} {Q:Exit→FSt→Prop} {s:FSt} {m:NM} {a:Act} {w:World}
def NM.via (m:NM) (ρ:Nat→Nat):NM:=⟨fun r=>m.g (ρ r),fun r=>m.N (ρ r),fun r=>m.vd (ρ r)⟩
theorem RC.via {S:Nat→Prop} {dom dom':Nat→Prop} {ρ:Nat→Nat} {x:C} {u:Value} (h:RC w S m dom (x.ren ρ) u) (hn: ∀ r∈x.names,dom' r):RC w S (m.via ρ) dom' x u:=by
  cases x with
  | d x=>exact h
  | nil=>exact h
  | ptr r off=>exact ⟨hn r (by simp [C.names]),h.2⟩
  | row r sz off n cap=>exact ⟨hn r (by simp [C.names]),h.2⟩
  | fn f caps =>
    refine ⟨?_,fun p hp=>⟨hn _ (by simp only [C.names];exact List.mem_map_of_mem hp),(h.2 (ρ p.1,p.2) (List.mem_map_of_mem (f:=fun p:Nat × Nat=>(ρ p.1,p.2)) hp)).2⟩⟩
    rw [h.1]
    simp [NM.via,Function.comp_def]
theorem RA.via {S:Nat→Prop} {dom dom':Nat→Prop} {ρ:Nat→Nat} {x:AV} {u:Value} (h:RA w S m dom (x.ren ρ) u) (hn: ∀ r∈x.names,dom' r):RA w S (m.via ρ) dom' x u:=by
  cases x with
  | c x=>exact RC.via h hn
  | agg cs =>
    obtain ⟨us,e,hl,h⟩:=h
    refine ⟨us,e,by simpa using hl,fun i x v hx hv=>RC.via (h i (x.ren ρ) v ?_ hv) fun r hr=>hn r (by simp only [AV.names];exact List.mem_flatMap.2 ⟨x,List.mem_of_getElem? hx,hr⟩)⟩
    simp [hx]
theorem RS.via {S:Nat→Prop} {dom dom':Nat→Prop} {ρ:Nat→Nat} {x:SV} {u:Value} (h:RS w S m dom (x.ren ρ) u) (hn: ∀ r∈x.names,dom' r):RS w S (m.via ρ) dom' x u:=by
  cases x with
  | bot=>trivial
  | undef=>exact h
  | a x=>exact RA.via h hn
  | tup l =>
    obtain ⟨us,e,hl,h⟩:=h
    refine ⟨us,e,by simpa using hl,fun i x v hx hv=>RA.via (h i (x.ren ρ) v ?_ hv) fun r hr=>hn r (by simp only [SV.names];exact List.mem_flatMap.2 ⟨x,List.mem_of_getElem? hx,hr⟩)⟩
    simp [hx]
def objRen (ρ:Nat→Nat) (o:Option AObj):Option AObj:=o.map fun o=>⟨o.ty,o.cs.map (C.ren ρ),o.ex,o.fr⟩
structure LessR (ρ:Nat→Nat) (S:LSt) (s:FSt) (d0:Nat→Prop):Prop where
  sl: ∀ p∈S.sl,s.sl p.1=p.2.ren ρ
  ob: ∀ p∈S.ob,s.ob (ρ p.1)=some (objRen ρ p.2)
  inj:(S.ob.map fun p=>ρ p.1).Nodup
  sn: ∀ p∈S.sl,∀ r∈p.2.names,lkO S.ob r≠none
  on: ∀ p∈S.ob,∀ r∈objNames p.2,lkO S.ob r≠none
  d0: ∀ r,d0 r→lkO S.ob r≠none∧ρ r=r
theorem nodup_map_inj {α β:Type} {f:α→β}: ∀ {l:List α},(l.map f).Nodup→ ∀ x∈l,∀ y∈l,f x=f y→x=y
  | [],_,_,hx,_,_=>by cases hx
  | z::l,h,x,hx,y,hy=>by
    rw [List.map_cons,List.nodup_cons] at h
    intro e
    rcases List.mem_cons.1 hx with rfl|hx' <;> rcases List.mem_cons.1 hy with rfl|hy'
    · rfl
    · exact absurd (e▸List.mem_map_of_mem hy') h.1
    · exact absurd (e▸List.mem_map_of_mem hx') h.1
    · exact nodup_map_inj h.2 x hx' y hy' e
theorem Rel.lessR {ρ:Nat→Nat} {S:LSt} (h:Rel K F m s a w) (l:LessR ρ S s F.d0):Rel K F (m.via ρ) S.st a w:=by
  have hob: ∀ r o,lkO S.ob r=some o→s.ob (ρ r)=some (objRen ρ o):=fun r o ho=>l.ob _ (lkO_mem ho)
  have how: ∀ r,S.st.ob.own r→s.ob.own (ρ r):=fun r ⟨o,h1,h2⟩=>⟨_,hob _ _ h1,h2⟩
  have hv: ∀ b,Vis K m s.ob w b→Vis K (m.via ρ) S.st.ob w b:=fun b hb=>⟨hb.1,hb.2.1,fun r hr=>hb.2.2 _ (how r hr)⟩
  have hin: ∀ r r',S.st.ob.own r→S.st.ob.own r'→ρ r=ρ r'→r=r':=fun r r' ⟨o,h1,_⟩ ⟨o',h1',_⟩ e=>by
    have:=nodup_map_inj l.inj _ (lkO_mem h1) _ (lkO_mem h1') e
    injection this
  refine ⟨h.size,h.defers,fun t=>?_,⟨fun r o ho=>?_,fun r r' hr hr' hvr hvr' e=>hin r r' hr hr' (h.heap.dist _ _ (how r hr) (how r' hr') hvr hvr' e),fun r hr hvr=>h.heap.loc _ (how r hr) hvr,
    fun r o ho hf hvd=>hv _ (h.heap.fz _ _ (hob _ _ ho) hf hvd),h.heap.ev,fun g cs hg=>(h.heap.glob g cs hg).mono hv (fun _ _=>rfl)⟩,fun r hr=>⟨(l.d0 r hr).1,?_⟩⟩
  · rcases lkS_mem (l:=S.sl) (t:=t) with e|e
    · show RS w _ _ _ (lkS S.sl t) _
      rw [e]
      trivial
    · have h1:=h.slot t
      rw [l.sl _ e] at h1
      exact (Keep.more hv).rs (RS.via h1 (l.sn _ e))
  · have h0:=lkO_mem ho
    refine ⟨?_⟩
    rcases (h.heap.obj _ _ (hob _ _ ho)).row with ⟨h1,h2,h3⟩|⟨hvd,arr,h1,h2,h3,h4,h5⟩
    · exact .inl ⟨h1,by simpa using h2,h3⟩
    · refine .inr ⟨hvd,arr,h1,h2,fun he=>by simpa using h3 he,by simpa using h4,fun i x hx=>?_⟩
      obtain ⟨u,hu,hr⟩:=h5 i (x.ren ρ) (by simp [hx])
      exact ⟨u,hu,(Keep.more hv).rc (RC.via hr fun r hr=>l.on _ h0 r (by simp only [objNames];exact List.mem_flatMap.2 ⟨x,List.mem_of_getElem? hx,hr⟩))⟩
  · have h1:=(h.names r hr).2
    have h2:=(l.d0 r hr).2
    exact ⟨by show m.g (ρ r)=_;rw [h2];exact h1.1,by show m.N (ρ r)=_;rw [h2];exact h1.2.1,by show m.vd (ρ r)=_;rw [h2];exact h1.2.2⟩
def renK:List (Nat × Nat)→Nat→Nat
  | [],r=>r
  | (a,b)::l,r=>if r=a then b else renK l r
def eqS (ρ:Nat→Nat) (f:Nat→SV):List (Nat × SV)→Prop
  | []=>True
  | (k,v)::l=>f k=v.ren ρ∧eqS ρ f l
def eqO (ρ:Nat→Nat) (H:Hp):List (Nat × Option AObj)→Prop
  | []=>True
  | (k,v)::l=>H (ρ k)=some (objRen ρ v)∧eqO ρ H l
def nmR (ob:List (Nat × Option AObj)) (r:Nat):Bool:=(lkO ob r).isSome
def nmC (ob:List (Nat × Option AObj)) (x:C):Prop:= ∀ r∈x.names,nmR ob r=true
def nmL (ob:List (Nat × Option AObj)) (l:List C):Prop:= ∀ x∈l,nmC ob x
def nmA (ob:List (Nat × Option AObj)):AV→Prop
  | .c x=>nmC ob x
  | .agg l=>nmL ob l
def nmT (ob:List (Nat × Option AObj)):List AV→Prop
  | []=>True
  | x::l=>nmA ob x∧nmT ob l
def nmS (ob:List (Nat × Option AObj)):List (Nat × SV)→Prop
  | []=>True
  | (_,.a x)::l=>nmA ob x∧nmS ob l
  | (_,.tup x)::l=>nmT ob x∧nmS ob l
  | (_,_)::l=>nmS ob l
def nmO (ob:List (Nat × Option AObj)):List (Nat × Option AObj)→Prop
  | []=>True
  | (_,some o)::l=>nmL ob o.cs∧nmO ob l
  | (_,none)::l=>nmO ob l
theorem nmR_ne {ob:List (Nat × Option AObj)} {r:Nat} (h:nmR ob r=true):lkO ob r≠none:=by
  intro e
  rw [nmR,e] at h
  cases h
theorem nmA_ok {ob:List (Nat × Option AObj)}: ∀ {x:AV},nmA ob x→ ∀ r∈x.names,lkO ob r≠none
  | .c x,h=>fun r hr=>nmR_ne (h r hr)
  | .agg l,h=>fun r hr=>by
    obtain ⟨x,hx,hr⟩:=List.mem_flatMap.1 hr
    exact nmR_ne (h x hx r hr)
theorem nmT_ok {ob:List (Nat × Option AObj)}: ∀ {l:List AV},nmT ob l→ ∀ r∈l.flatMap AV.names,lkO ob r≠none
  | [],h=>fun r hr=>by cases hr
  | x::l,h=>fun r hr=>by
    rw [List.flatMap_cons] at hr
    exact (List.mem_append.1 hr).elim (nmA_ok h.1 r) (nmT_ok h.2 r)
theorem nmS_ok {ob:List (Nat × Option AObj)}: ∀ {l:List (Nat × SV)},nmS ob l→ ∀ p∈l,∀ r∈p.2.names,lkO ob r≠none
  | [],_,_,hp=>by cases hp
  | (k,v)::l,h,p,hp=>by
    rcases List.mem_cons.1 hp with rfl|hp'
    · cases v with
      | bot=>intro r hr;cases hr
      | undef=>intro r hr;cases hr
      | a x=>exact nmA_ok h.1
      | tup x=>exact nmT_ok h.1
    · cases v with
      | bot=>exact nmS_ok (l:=l) h p hp'
      | undef=>exact nmS_ok (l:=l) h p hp'
      | a x=>exact nmS_ok h.2 p hp'
      | tup x=>exact nmS_ok h.2 p hp'
theorem nmO_ok {ob:List (Nat × Option AObj)}: ∀ {l:List (Nat × Option AObj)},nmO ob l→ ∀ p∈l,∀ r∈objNames p.2,lkO ob r≠none
  | [],_,_,hp=>by cases hp
  | (k, v) :: l, h, p,hp=>by
    rcases List.mem_cons.1 hp with rfl|hp'
    · cases v with
      | none=>intro r hr;cases hr
      | some o=>exact fun r hr=>by
                    obtain ⟨x,hx,hr⟩:=List.mem_flatMap.1 hr
                    exact nmR_ne (h.1 x hx r hr)
    · cases v with
      | none=>exact nmO_ok (l:=l) h p hp'
      | some o=>exact nmO_ok h.2 p hp'
def d0Ok (ρ:Nat→Nat) (F:Fr) (ob:List (Nat × Option AObj)):Prop:= ∀ r,F.d0 r→nmR ob r=true∧ρ r=r
def LessL (ρ:Nat→Nat) (S:LSt) (F:Fr) (s:FSt):Prop:=
  eqS ρ s.sl S.sl∧eqO ρ s.ob S.ob∧(S.ob.map fun p=>ρ p.1).Nodup∧nmS S.ob S.sl∧nmO S.ob S.ob∧d0Ok ρ F S.ob
theorem eqS_ok {ρ:Nat→Nat} {f:Nat→SV}: ∀ {l:List (Nat × SV)},eqS ρ f l→ ∀ p∈l,f p.1=p.2.ren ρ
  | [],_,_,hp=>by cases hp
  | (k,v)::l,h,p,hp=>by
    rcases List.mem_cons.1 hp with rfl|hp
    · exact h.1
    · exact eqS_ok h.2 p hp
theorem eqO_ok {ρ:Nat→Nat} {H:Hp}: ∀ {l:List (Nat × Option AObj)},eqO ρ H l→ ∀ p∈l,H (ρ p.1)=some (objRen ρ p.2)
  | [],_,_,hp=>by cases hp
  | (k,v)::l,h,p,hp=>by
    rcases List.mem_cons.1 hp with rfl|hp
    · exact h.1
    · exact eqO_ok h.2 p hp
theorem lessL_ok {ρ:Nat→Nat} {S:LSt} (h:LessL ρ S F s):LessR ρ S s F.d0:=
  ⟨eqS_ok h.1,eqO_ok h.2.1,h.2.2.1,nmS_ok h.2.2.2.1,nmO_ok h.2.2.2.2.1,fun r hr=>⟨nmR_ne (h.2.2.2.2.2 r hr).1,(h.2.2.2.2.2 r hr).2⟩⟩
theorem sound_lessR {c:Code} (S:LSt) (l:List (Nat × Nat)) (hl:LessL (renK l) S F s) (h:Sound P K F c Q S.st):Sound P K F c Q s:=fun m a w hr=>h _ a w (hr.lessR (lessL_ok hl))
theorem sound_loopR {c:Code} {X:Type} (S:X→LSt) (μ:X→Nat) (x0:X) (l:List (Nat × Nat)) (h0:LessL (renK l) (S x0) F s)
    (h: ∀ x,Sound P K F c (Then (fun s'=> ∃ l x',LessL (renK l) (S x') F s'∧μ x'<μ x) Q) (S x).st):Sound P K F (.loop c) Q s:=fun m a w hr=>by
  refine wp_loop_relR x0 (hr.lessR (lessL_ok h0)) h
where
  wp_loop_relR {c:Code} {X:Type} {S:X→LSt} {μ:X→Nat} {m:NM} {a:Act} {w:World} (x0:X) (h0:Rel K F m (S x0).st a w)
      (h: ∀ x,Sound P K F c (Then (fun s'=> ∃ l x',LessL (renK l) (S x') F s'∧μ x'<μ x) Q) (S x).st):(Code.loop c).wp P (Lift K F Q) a w:=by
    intro b k cs
    have key: ∀ n x m a w, μ x=n→Rel K F m (S x).st a w→ ∃ e a' w',Lift K F Q e a' w'∧Arrives P (lone (b.at a (.code c:: .inLoop c::k)) cs w) b k cs e a' w':=by
      intro n
      induction n using Nat.strongRecOn with
      | _ n ih =>
        intro x m a w hn hr
        obtain ⟨e,a₁,w₁,⟨m₁,s₁,hr₁,hq⟩,harr⟩:=h x m a w hr b (.inLoop c::k) cs
        cases e with
        | normal =>
          obtain ⟨l,x',hl,hlt⟩:=hq
          obtain ⟨e₂,a₂,w₂,hq₂,harr₂⟩:=ih (μ x') (hn▸hlt) x' _ a₁ w₁ rfl (hr₁.lessR (lessL_ok hl))
          exact ⟨e₂,a₂,w₂,hq₂,.of_steps (Steps.trans harr (.one step_inLoop)) harr₂⟩
        | exit id=>exact ⟨_,a₁,w₁,⟨m₁,s₁,hr₁,hq⟩,.pass (x:= .inLoop c) rfl (fun _ _=> .inl (by simp)) harr⟩
        | goto l=>exact ⟨_,a₁,w₁,⟨m₁,s₁,hr₁,hq⟩,.pass (x:= .inLoop c) rfl (fun _ _=> .inl (by simp)) harr⟩
        | ret=>exact ⟨_,a₁,w₁,⟨m₁,s₁,hr₁,hq⟩,.pass (x:= .inLoop c) rfl (fun _ _=> .inl (by simp)) harr⟩
        | panic ch=>exact ⟨_,a₁,w₁,⟨m₁,s₁,hr₁,hq⟩,.pass (x:= .inLoop c) rfl (fun _ _=> .inl (by simp)) harr⟩
        | outgrown=>exact ⟨_,a₁,w₁,⟨m₁,s₁,hr₁,hq⟩,.pass (x:= .inLoop c) rfl (fun _ _=> .inl (by simp)) harr⟩
    obtain ⟨e,a',w',hq,harr⟩:=key _ x0 m a w rfl h0
    exact ⟨e,a',w',hq,.of_steps (.one step_loop) harr⟩
theorem Rel.reslot {t:Nat} {v:SV} (h:Rel K F m s a w) (hv:RS w (Vis K m s.ob w) m s.ob.dom v (a.tmps.getD t undef)):Rel K F m ⟨upd s.sl t v,s.ob⟩ a w:=
  ⟨h.size,h.defers,fun t'=>by
    show RS w _ _ _ (upd s.sl t v t') _
    unfold upd
    split
    · rename_i e
      rw [e]
      exact hv
    · exact h.slot t',h.heap,h.names⟩
def voidO (e:TypeId):Option (Option AObj):=some (some ⟨e,[],false,false⟩)
theorem Rel.void {R:Nat} {e:TypeId} (h:Rel K F m s a w) (hf:s.ob R=none):Rel K F (m.set R 0 0 true) ⟨s.sl,upd s.ob R (voidO e)⟩ a w:=by
  have hne: ∀ r,s.ob.dom r→r≠R:=fun r hr e=>hr (by rw [e];exact hf)
  have t:Turn K m (m.set R 0 0 true) s.ob (upd s.ob R (voidO e)) w w (fun r=>r=R):=by
    refine ⟨fun r hr=>upd_ne hr,fun r hr=>?_,fun r hr=>(NM.set_other (hne r hr)).1,fun r hr=>(NM.set_other (hne r hr)).2.1,fun r hr=>(NM.set_other (hne r hr)).2.2,Ev.refl _ _,
      fun r hr _ hv=>?_,fun r r' hr hr' _ _ _ _ _=>hr.trans hr'.symm⟩
    · show upd s.ob R _ r≠none
      rw [upd_ne (hne r hr)]
      exact hr
    · subst hr
      rw [NM.set_same.2.2] at hv
      cases hv
  have hh:HRel K (m.set R 0 0 true) (upd s.ob R (voidO e)) w:=t.rel h.heap (fun r o hr ho=>by
      subst hr
      rw [upd_same] at ho
      injection ho with ho
      injection ho with ho
      subst ho
      exact ⟨.inl ⟨NM.set_same.2.2,rfl,rfl⟩⟩) (fun r o hr ho hf _=>by
      subst hr
      rw [upd_same] at ho
      injection ho with ho
      injection ho with ho
      subst ho
      cases hf)
  exact h.turn (dst:=none) (v:= .bot) (u:=undef) t hh (fun d hd=>by cases hd) trivial
theorem rc_void {R sz:Nat} {dom:Nat→Prop} {S:Nat→Prop} (hd:dom R):RC w S (m.set R 0 0 true) dom (.row R sz 0 0 .grow) (.slice none 0 0):=
  ⟨hd,none,0,rfl,Nat.le_refl _,by omega,rfl,.inl ⟨NM.set_same.2.2,rfl,rfl,rfl⟩⟩
theorem sound_void {c:Code} (t R sz:Nat) (e:TypeId) (h1:s.sl t= .a (.c .nil)) (h2:s.ob R=none) (h:Sound P K F c Q ⟨upd s.sl t (.a (.c (.row R sz 0 0 .grow))),upd s.ob R (voidO e)⟩):Sound P K F c Q s:=fun m a w hr=>by
  have hv:=hr.slot t
  rw [h1] at hv
  have hv:a.tmps.getD t undef= .slice none 0 0:=hv
  refine h _ a w (Rel.reslot (hr.void h2) ?_)
  rw [hv]
  exact (show RC w (Vis K (m.set R 0 0 true) (upd s.ob R (voidO e)) w) (m.set R 0 0 true) (Hp.dom (upd s.ob R (voidO e))) (.row R sz 0 0 .grow) (.slice none 0 0) from rc_void (by simp [Hp.dom,upd,voidO]))
theorem sound_data {c:Code} (t:Nat) (h:(cvArgs [s.sl t] fun ds U=> .done (.tup (ds.map DV.av)) U).run s.ob [] (fun _ out=>match out with
    | .val (.tup [v]) U=>Sound P K F c Q ⟨upd s.sl t (.a v),updO s.ob U⟩
    | _=>False)):Sound P K F c Q s:=fun m a w hr=>by
  have hsl:=hr.slot t
  have key:QG s (fun out=>match out with
    | .val (.tup [v]) U=>Rel K F m ⟨upd s.sl t (.a v),updO s.ob U⟩ a w
    | _=>True) (cvArgs [s.sl t] fun ds U=> .done (.tup (ds.map DV.av)) U):=by
    refine ok_cvArgs (us:=[a.tmps.getD t undef]) hr rfl (fun i x v hx hv=>?_) fun ys U hcv=> .done ?_
    · cases i with
      | zero =>
        have hx:some (s.sl t)=some x:=hx
        have hv:some (a.tmps.getD t undef)=some v:=hv
        injection hx with hx
        injection hv with hv
        subst hx hv
        exact hsl
      | succ i=>simp at hx
    · obtain ⟨hf1,hf2⟩:=hcv
      obtain ⟨k1,k2,k3,_⟩:=Rel.freezeAll (s:=s) U s hr rfl (fun r x hx=> .inl hx) hf1 (fun b hb=>hb)
      obtain ⟨hd1,hd2⟩:=hf2 _ k1.heap k2 k3
      match ys,hd1 with
      | [y],_ =>
        refine Rel.reslot k1 (ra_of_drd ?_)
        exact hd2 0 y _ rfl rfl
  obtain ⟨rs,out,h1,h2⟩:=key _ _ h
  cases out with
  | val v U =>
    match v,h1,h2 with
    | .tup [v],h1,h2=>exact h1 _ a w h2
  | pan v U=>exact h1.elim
end
@[go_sem] theorem ba_list {x:List UInt8}:ByteArray.toList ⟨x.toArray⟩=x:=by simp [ByteArray.toList_eq]
theorem zI {y:List UInt8} {p:List UInt8→Prop} (h:p y): ∃ x:List UInt8,(x.length=y.length∧y.map bD=x.map bD)∧p x:=⟨y,⟨rfl,rfl⟩,h⟩
theorem spec_empty {G:Nat→Option (List D)} {P:Program} {f:FuncId} {pre post:List DV} {out:DR} (hp:out.plain=true) (h: ∀ A c,Spec P G f (pre++ .c (.v (.slice A 0 c))::post) out):Spec P G f (pre++ .c (.sl 0 [])::post) out:=by
  refine .mk0 hp ?_
  intro w S vs hS hT hA
  obtain ⟨hl,hc⟩:=hA
  have hlt:pre.length<vs.length:=by rw [hl];simp
  obtain ⟨A,c,hu,_⟩:=rd_sl (w:=w) (S:=S) (cs:=[]) (n:=0) (u:=vs[pre.length]) (hc pre.length (.c (.sl 0 [])) _ (by simp) (List.getElem?_eq_getElem hlt))
  refine (h A c).get0 hp w S vs hS hT ⟨by rw [hl];simp,fun i x v hx hv=>?_⟩
  by_cases hi:i=pre.length
  · subst hi
    rw [List.getElem?_append_right (Nat.le_refl _),Nat.sub_self] at hx
    have hx:some (DV.c (.v (.slice A 0 c)))=some x:=hx
    injection hx with hx
    subst hx
    rw [List.getElem?_eq_getElem hlt,hu] at hv
    injection hv with hv
    subst hv
    exact .v _ rfl
  · refine hc i x v ?_ hv
    rw [List.getElem?_append] at hx ⊢
    split at hx
    · rename_i h1
      rw [if_pos h1]
      exact hx
    · rename_i h1
      rw [if_neg h1]
      obtain ⟨j,hj⟩: ∃ j,i-pre.length=j+1:=⟨i-pre.length-1,by omega⟩
      rw [hj] at hx ⊢
      exact hx
attribute [go_sem] renK eqS eqO nmA nmT nmS nmO objRen SV.ren AV.ren C.ren voidO
section
variable {ob:List (Nat × Option AObj)} {ρ:Nat→Nat}
@[go_sem] theorem nmC_d {x:D}:nmC ob (.d x)=True:=by simp [nmC,C.names]
@[go_sem] theorem nmC_nil:nmC ob .nil=True:=by simp [nmC,C.names]
@[go_sem] theorem nmC_ptr {r off:Nat}:nmC ob (.ptr r off)=(nmR ob r=true):=by simp [nmC,C.names]
@[go_sem] theorem nmC_row {r sz off n:Nat} {cap:Cap}:nmC ob (.row r sz off n cap)=(nmR ob r=true):=by simp [nmC,C.names]
@[go_sem] theorem nmL_nil:nmL ob []=True:=by simp [nmL]
@[go_sem] theorem nmL_cons {x:C} {l:List C}:nmL ob (x::l)=(nmC ob x∧nmL ob l):=by simp [nmL]
@[go_sem] theorem nmL_mapd {l:List D}:nmL ob (l.map C.d)=True:=by simp [nmL,nmC,C.names]
@[go_sem] theorem nmL_rep {n:Nat} {x:D}:nmL ob (List.replicate n (.d x))=True:=by simp +contextual [nmL,nmC,C.names]
@[go_sem] theorem ren_mapd {l:List D}:(l.map C.d).map (C.ren ρ)=l.map C.d:=by simp [C.ren]
@[go_sem] theorem ren_rep {n:Nat} {x:D}:(List.replicate n (C.d x)).map (C.ren ρ)=List.replicate n (C.d x):=by simp [C.ren]
@[go_sem] theorem nmR_in {r:Nat}:nmR ob r=(lkO ob r).isSome:=rfl
@[go_sem] theorem d0Ok_0 {n:Nat}:d0Ok ρ (Fr0 n) ob=True:=eq_true fun r h=>h.elim
@[go_sem] theorem d0Ok_O {n:Nat} {m:NM} {l:List Nat}:d0Ok ρ (FrO n m l) ob=(l.all (fun r=>nmR ob r&&ρ r==r)=true):=by
  rw [List.all_eq_true]
  simp [d0Ok,FrO]
@[go_sem] theorem lessL_eq {F:Fr} {s:FSt} {S:LSt}:LessL ρ S F s=(eqS ρ s.sl S.sl∧eqO ρ s.ob S.ob∧(S.ob.map fun p=>ρ p.1).Nodup∧nmS S.ob S.sl∧nmO S.ob S.ob∧d0Ok ρ F S.ob):=rfl
end
@[go_sem] theorem dOnly_map {l:List D}:dOnly (l.map C.d)=some l:=by
  induction l with
  | nil=>rfl
  | cons x l ih=>simp [dOnly,dOf,ih]
@[go_sem] theorem dOnly_append {a b:List C}:dOnly (a++b)=(dOnly a).bind fun x=>(dOnly b).map (x++ ·):=by
  induction a with
  | nil=>cases h:dOnly b <;> simp [dOnly,h]
  | cons y a ih =>
    show dOnly (y::(a++b))=_
    simp only [dOnly,ih]
    cases dOf y <;> cases dOnly a <;> cases dOnly b <;> rfl
theorem flat_len {α:Type} {f:α→List D} {n:Nat} (hf: ∀ x,(f x).length=n): ∀ l:List α,(l.flatMap f).length=l.length*n
  | []=>by simp
  | x::l=>by rw [List.flatMap_cons,List.length_append,hf,flat_len hf l,List.length_cons,Nat.add_mul];omega
theorem flat_at {α:Type} {f:α→List D} {n:Nat} (hf: ∀ x,(f x).length=n): ∀ {l:List α} {k:Nat} {x:α},l[k]?=some x→((l.flatMap f).drop (k*n)).take n=f x
  | [],k,x,h=>by simp at h
  | y::l,0,x,h=>by
    have h:y=x:=by simpa using h
    subst h
    simp [List.flatMap_cons,List.take_append,hf]
  | y::l,k+1,x,h=>by
    have h:l[k]?=some x:=by simpa using h
    rw [List.flatMap_cons,List.drop_append,List.drop_of_length_le (by rw [hf,Nat.add_mul];omega),List.nil_append,hf,show (k+1)*n-n=k*n by rw [Nat.add_mul];omega]
    exact flat_at hf h
theorem pos_beq {n:Nat}:decide ((0:Int)<(n:Int))= !(n==0):=by
  rw [Bool.eq_iff_iff]
  simp
  omega
theorem wrap8 {x:Int} (h0:0≤x) (h1:x≤255):IntKind.u8.wrap x=x:=by
  rw [IntKind.wrap_u8]
  omega
theorem max_r {a b:Int} (h:b≤a):(if b>a then b else a)=a:=by
  rw [if_neg (by omega)]
theorem max_l {a b:Int} (h:a<b):(if b>a then b else a)=b:=by
  rw [if_pos (by omega)]
theorem min_r {a b:Int} (h:a≤b):(if b<a then b else a)=a:=by
  rw [if_neg (by omega)]
theorem min_l {a b:Int} (h:b<a):(if b<a then b else a)=b:=by
  rw [if_pos (by omega)]
theorem wq:(∀ x:Int, -9223372036854775808≤x→x≤9223372036854775807→IntKind.i64.wrap x=x)∧(∀ x:Int,0≤x→x≤255→IntKind.u8.wrap x=x)∧(∀ a b:Int,b≤a→(if b>a then b else a)=a)∧(∀ a b:Int,a<b→(if b>a then b else a)=b)∧(∀ a b:Int,a≤b→(if b<a then b else a)=a)∧(∀ a b:Int,b<a→(if b<a then b else a)=b):=
  ⟨fun _=>wrap_id,fun _=>wrap8,fun _ _=>max_r,fun _ _=>max_l,fun _ _=>min_r,fun _ _=>min_l⟩
theorem ijq:(∀ a b,(SV.a a=SV.a b)=(a=b))∧(∀ a b,(AV.c a=AV.c b)=(a=b))∧(∀ a b,(C.d a=C.d b)=(a=b))∧(∀ a b,(D.v a=D.v b)=(a=b))∧(∀ k a j b,(Value.int k a=Value.int j b)=(k=j∧a=b))∧(∀ a b,(DR.one a=DR.one b)=(a=b))∧(∀ a b,(DV.c a=DV.c b)=(a=b)):=
  ⟨SV.a.injEq,AV.c.injEq,C.d.injEq,D.v.injEq,Value.int.injEq,DR.one.injEq,DV.c.injEq⟩
theorem rep_one {c:C}:(List.replicate 1 [c]).flatten=[c]:=rfl
attribute [go_sem] bne List.replicate_zero List.flatten_nil rep_one List.size_toArray
@[go_sem] def vI (n:Int):SV:= .a (.c (.d (.v (.int .i64 n))))
@[go_sem] def vB (b:Bool):SV:= .a (.c (.d (.v (.bool b))))
@[go_sem] def vD (x:D):SV:= .a (.c (.d x))
@[go_sem] def vP (r off:Nat):SV:= .a (.c (.ptr r off))
@[go_sem] def vR (r sz n:Nat):SV:= .a (.c (.row r sz 0 n .grow))
attribute [go_sem] List.getElem?_toArray Option.bind_eq_bind
attribute [go_sem] List.nodup_nil List.nodup_cons List.mem_cons List.not_mem_nil Option.isSome_some Option.isSome_none
attribute [go_sem] ownArgs renN callO svOf rawOf initA someO List.find?_cons List.find?_nil List.contains_cons List.contains_nil Option.getD_some Option.getD_none
end Go.Proofs.YtdakeodebgggfaaGreatDoor
namespace Go.Proofs.YtdakeodebgggfaaGreatDoor
open Go.RowKit
section
variable {G:Nat→Option (List D)} {P:Program} {K:Ctx G} {F:Fr} {Qx:Exit→FSt→Prop} {s:FSt} {m:NM} {a:Act} {w:World}
def AObj.trim (o:AObj) (k:Nat):AObj:={ o with cs:=o.cs.take k,ex:=false }
theorem Rel.trim {r k:Nat} {o:AObj} (h:Rel K F m s a w) (ho:s.ob r=some (some o)):Rel K F m ⟨s.sl,upd s.ob r (some (some (o.trim k)))⟩ a w:=by
  obtain ⟨H,hH⟩: ∃ H:Hp,upd s.ob r (some (some (o.trim k)))=H:=⟨_,rfl⟩
  rw [hH]
  have hr:H r=some (some (o.trim k)):=by rw [← hH,upd_same]
  have hne: ∀ x,x≠r→H x=s.ob x:=fun x hx=>by rw [← hH,upd_ne hx]
  have hdom: ∀ x,s.ob.dom x→H.dom x:=fun x hx=>by
    by_cases e:x=r
    · subst e
      simp [Hp.dom,hr]
    · simpa [Hp.dom,hne x e] using hx
  have hown: ∀ x,H.own x→s.ob.own x:=fun x ⟨o',h1,h2⟩=>by
    by_cases e:x=r
    · subst e
      rw [hr] at h1
      injection h1 with h1
      injection h1 with h1
      subst h1
      exact ⟨o,ho,h2⟩
    · rw [hne x e] at h1
      exact ⟨o',h1,h2⟩
  have hv: ∀ b,Vis K m s.ob w b→Vis K m H w b:=fun b hb=>⟨hb.1,hb.2.1,fun x hx=>hb.2.2 x (hown x hx)⟩
  have kp:Keep w w (Vis K m s.ob w) (Vis K m H w) m m s.ob.dom H.dom:=⟨hv,fun _ _=>rfl,hdom,fun _ _=>rfl,fun _ _=>rfl,fun _ _=>rfl⟩
  refine ⟨h.size,h.defers,fun t=>kp.rs (h.slot t),⟨fun x o' hx=>?_,fun x y hx hy=>h.heap.dist x y (hown x hx) (hown y hy),fun x hx=>h.heap.loc x (hown x hx),fun x o' hx hf hvd=>?_,h.heap.ev,fun g cs hg=>(h.heap.glob g cs hg).mono hv (fun _ _=>rfl)⟩,fun x hx=>⟨hdom x (h.names x hx).1,(h.names x hx).2⟩⟩
  · by_cases e:x=r
    · subst e
      have hx:H x=some (some o'):=hx
      rw [hr] at hx
      injection hx with hx
      injection hx with hx
      subst hx
      refine ⟨?_⟩
      rcases (h.heap.obj x o ho).row with ⟨h1,h2,h3⟩|⟨h1,arr,h2,h3,h4,h5,h6⟩
      · exact .inl ⟨h1,by simp [AObj.trim,h2],rfl⟩
      · refine .inr ⟨h1,arr,h2,h3,(fun e=>by cases e),by simp only [AObj.trim,List.length_take];omega,fun i y hy=>?_⟩
        simp only [AObj.trim,List.getElem?_take] at hy
        split at hy
        · obtain ⟨u,hu,hc⟩:=h6 i y hy
          exact ⟨u,hu,kp.rc hc⟩
        · cases hy
    · have hx:H x=some (some o'):=hx
      rw [hne x e] at hx
      refine ⟨?_⟩
      rcases (h.heap.obj x o' hx).row with h1|⟨h1,arr,h2,h3,h4,h5,h6⟩
      · exact .inl h1
      · exact .inr ⟨h1,arr,h2,h3,h4,h5,fun i y hy=>by
          obtain ⟨u,hu,hc⟩:=h6 i y hy
          exact ⟨u,hu,kp.rc hc⟩⟩
  · by_cases e:x=r
    · subst e
      have hx:H x=some (some o'):=hx
      rw [hr] at hx
      injection hx with hx
      injection hx with hx
      subst hx
      exact hv _ (h.heap.fz x o ho hf hvd)
    · have hx:H x=some (some o'):=hx
      rw [hne x e] at hx
      exact hv _ (h.heap.fz x o' hx hf hvd)
theorem sound_trim {c:Code} (r k:Nat) {o:AObj} (ho:s.ob r=some (some o)) (h:Sound P K F c Qx ⟨s.sl,upd s.ob r (some (some (o.trim k)))⟩):Sound P K F c Qx s:=fun m a w hr=>h m a w (hr.trim ho)
theorem sound_grow {c:Code} (t r sz n k:Nat) {o:AObj} (h1:s.sl t= .a (.c (.row r sz 0 n (.ex k)))) (h2:s.ob r=some (some o)) (h3:o.ex=true) (h4:o.cs.length=k*sz) (h:Sound P K F c Qx ⟨upd s.sl t (.a (.c (.row r sz 0 n .grow))),s.ob⟩):Sound P K F c Qx s:=fun m a w hr=>by
  have hv:=hr.slot t
  rw [h1] at hv
  obtain ⟨hdm,A,c',hu,hnc,hcm,hcap⟩:=rs_row hv
  obtain ⟨rfl,hA⟩:=hcap
  obtain ⟨hvd,hA⟩:=hA (.inr rfl)
  obtain ⟨arr,g1,g2,g3,g4,g5⟩:=hr.obj h2 hvd
  refine h m a w (hr.reslot ?_)
  exact ⟨hdm,A,c',hu,hnc,hcm,rfl,.inr ⟨hvd,hA,by rw [← g2,g3 h3,h4]⟩⟩
def LoopU (P:Program) {G:Nat→Option (List D)} (K:Ctx G) (F:Fr) (c:Code) (Q:Exit→FSt→Prop):Nat→FSt→Prop
  | 0,_=>False
  | n+1,s=>Sound P K F c (Then (LoopU P K F c Q n) Q) s
theorem zJ {c:Code} {n:Nat} (h:Sound P K F c (Then (LoopU P K F c Qx n) Qx) s):LoopU P K F c Qx (n+1) s:=h
instance {c:Code} {n:Nat}:Nx (LoopU P K F c Qx (n+1) s) (Sound P K F c (Then (LoopU P K F c Qx n) Qx) s):=⟨fun h=>h⟩
theorem sound_loopN {c:Code} (n:Nat) (h:LoopU P K F c Qx n s):Sound P K F (.loop c) Qx s:=fun m a w hr=>by
  intro b k cs
  have key: ∀ n s m a w,LoopU P K F c Qx n s→Rel K F m s a w→ ∃ e a' w',Lift K F Qx e a' w'∧Arrives P (lone (b.at a (.code c:: .inLoop c::k)) cs w) b k cs e a' w':=by
    intro n
    induction n with
    | zero=>exact fun _ _ _ _ h=>h.elim
    | succ n ih =>
      intro s m a w h hr
      obtain ⟨e,a₁,w₁,⟨m₁,s₁,hr₁,hq⟩,harr⟩:=h m a w hr b (.inLoop c::k) cs
      cases e with
      | normal =>
        obtain ⟨e₂,a₂,w₂,hq₂,harr₂⟩:=ih s₁ m₁ a₁ w₁ hq hr₁
        exact ⟨e₂,a₂,w₂,hq₂,.of_steps (Steps.trans harr (.one step_inLoop)) harr₂⟩
      | exit id=>exact ⟨_,a₁,w₁,⟨m₁,s₁,hr₁,hq⟩,.pass (x:= .inLoop c) rfl (fun _ _=> .inl (by simp)) harr⟩
      | goto l=>exact ⟨_,a₁,w₁,⟨m₁,s₁,hr₁,hq⟩,.pass (x:= .inLoop c) rfl (fun _ _=> .inl (by simp)) harr⟩
      | ret=>exact ⟨_,a₁,w₁,⟨m₁,s₁,hr₁,hq⟩,.pass (x:= .inLoop c) rfl (fun _ _=> .inl (by simp)) harr⟩
      | panic ch=>exact ⟨_,a₁,w₁,⟨m₁,s₁,hr₁,hq⟩,.pass (x:= .inLoop c) rfl (fun _ _=> .inl (by simp)) harr⟩
      | outgrown=>exact ⟨_,a₁,w₁,⟨m₁,s₁,hr₁,hq⟩,.pass (x:= .inLoop c) rfl (fun _ _=> .inl (by simp)) harr⟩
  obtain ⟨e,a',w',hq,harr⟩:=key n s m a w h hr
  exact ⟨e,a',w',hq,.of_steps (.one step_loop) harr⟩
variable {H:Hp} {rs:List Nat} {Kc:List Nat→Out→Prop} {t e:TypeId} {xs ys:List C}
theorem run_agg_eql {b:Bool} {L1 L2:List Lit} (h1:eqTy P t=true) (h2:KeyL P t xs L1) (h3:KeyL P t ys L2) (h4:b=true↔L1=L2) (h:Kc rs (.val (vB b) [])):Q.run H rs Kc (aggQ P .eql t xs ys):=⟨(L1,L2),b,⟨h1,h2,h3,h4⟩,h⟩
theorem run_agg_neq {b:Bool} {L1 L2:List Lit} (h1:eqTy P t=true) (h2:KeyL P t xs L1) (h3:KeyL P t ys L2) (h4:b=true↔L1=L2) (h:Kc rs (.val (vB !b) [])):Q.run H rs Kc (aggQ P .neq t xs ys):=⟨(L1,L2),b,⟨h1,h2,h3,h4⟩,h⟩
def litB (x:UInt8):Lit:= .int .u8 x.toNat
theorem litB_map {l k:List UInt8}:(l==k)=true↔l.map litB=k.map litB:=by
  rw [beq_iff_eq]
  refine ⟨fun h=>by rw [h],fun h=>?_⟩
  induction l generalizing k with
  | nil=>cases k <;> first|rfl|cases h
  | cons x l ih =>
    cases k with
    | nil=>cases h
    | cons y k =>
      simp only [List.map_cons,List.cons.injEq,litB,Lit.int.injEq,true_and] at h
      rw [ih (k:=k) (by simpa [litB] using h.2),UInt8.toNat_inj.1 (show x.toNat=y.toNat by omega)]
theorem valsOf_bytes {l:List UInt8}:valsOf ((l.map bD).map C.d)=some (l.map fun b=> .int .u8 (b.toNat:Int)):=by
  induction l with
  | nil=>rfl
  | cons x l ih=>simp only [List.map_cons,bD,valsOf] at ih ⊢;rw [ih];rfl
theorem mapM_bytes {f:Nat→Option (List Lit)}: ∀ {l:List UInt8} {k:Nat},(∀ i x,l[i]?=some x→f (k+i)=some [litB x])→((List.range' k l.length).mapM f)=some (l.map fun x=>[litB x])
  | [],k,h=>by simp
  | x::l,k,h=>by
    rw [List.length_cons,List.range'_succ,List.mapM_cons,show f k=_ from h 0 x rfl]
    rw [mapM_bytes (l:=l) (k:=k+1) fun i y hy=>by rw [show k+1+i=k+(i+1) by omega];exact h (i+1) y (by simpa using hy)]
    rfl
theorem keyL_bytes {n:Nat} {l:List UInt8} (ht:P.underlying t=some (.array n e)) (he:P.underlying e=some (.int .u8)) (h1:P.cellsOf e=1) (h2:P.cellsOf t=n) (hl:l.length=n):KeyL P t ((l.map bD).map C.d) (l.map litB):=by
  refine ⟨2,_,valsOf_bytes,by rw [List.length_map,h2];exact hl,?_⟩
  unfold Program.keyLits
  simp only [ht]
  rw [if_pos (by rw [List.length_map,h2];exact hl)]
  rw [← hl,List.range_eq_range',mapM_bytes]
  · rw [Option.map_some]
    congr 1
    clear hl
    induction l with
    | nil=>rfl
    | cons x l ih=>simpa using ih
  · intro i x hx
    rw [Nat.zero_add,h1,Nat.mul_one]
    have h3:((l.map fun b=>Value.int .u8 (b.toNat:Int)).drop i).take 1=[.int .u8 (x.toNat:Int)]:=by
      rw [List.drop_eq_getElem?_toList_append,List.getElem?_map,hx]
      rfl
    rw [h3]
    unfold Program.keyLits
    simp only [he]
    have:(Lit.int .u8 (x.toNat:Int)).wf=true:=by
      have:=x.toNat_lt
      simp only [Lit.wf,Bool.and_eq_true,decide_eq_true_eq]
      rw [show IntKind.u8.min=0 by decide,show IntKind.u8.max=255 by decide]
      omega
    simp [this,litB]
end
section
variable {G:Nat→Option (List D)} {P:Program} {s:FSt} {rl:List ResultVar}
def obAt (H:Hp):List (Nat × Option AObj)→Prop
  | []=>True
  | (r,o)::l=>H r=some o∧obAt H l
theorem obAt_ok {H:Hp}: ∀ {l:List (Nat × Option AObj)},obAt H l→ ∀ p∈l,H p.1=some p.2
  | (r,o)::l,h,p,hp=>by
    rcases List.mem_cons.1 hp with rfl|hp
    · exact h.1
    · exact obAt_ok h.2 p hp
def rawQ (v:SV) (H':List (Nat × Option AObj)):List SV→Q:=fun vs=> .any Bool fun raw=>match raw with
  | true=> .need (rawOf vs=v∧vs.length=1∧ ∀ r∈v.names,lkO H' r≠none) (.done .bot [])
  | false=>cvArgs vs fun ds U=> .need (svOf ds=v∧offU H' U) (.done .bot [])
theorem zK {v:SV} {H':List (Nat × Option AObj)} (h:obAt s.ob H') (h2:(resQ P s.sl rl (rawQ v H')).run s.ob [] (fun _ _=>True)):RetO P rl (.ret v H') .ret s:=⟨obAt_ok h,h2⟩
theorem zL {v:SV} {H':List (Nat × Option AObj)} (h:obAt s.ob H') (h2:(resQ P s.sl rl (rawQ v H')).run s.ob [] (fun _ _=>True)):RetO P rl (.ret v H') .normal s:=⟨obAt_ok h,h2⟩
theorem raw_t {v:SV} {H':List (Nat × Option AObj)} {vs:List SV} {H:Hp} {rs:List Nat} (h:rawOf vs=v) (h1:vs.length=1) (h2:v.names.all (fun r=>(lkO H' r).isSome)=true):(rawQ v H' vs).run H rs (fun _ _=>True):=
  ⟨true,⟨h,h1,fun r hr=>by
    have:=List.all_eq_true.1 h2 r hr
    intro e
    rw [e] at this
    cases this⟩,trivial⟩
theorem raw_f {v:SV} {H':List (Nat × Option AObj)} {vs:List SV} {H:Hp} {rs:List Nat} (h:(cvArgs vs fun ds U=> .need (svOf ds=v∧offU H' U) (.done .bot [])).run H rs (fun _ _=>True)):(rawQ v H' vs).run H rs (fun _ _=>True):=⟨false,h⟩
theorem specO_go {f:FuncId} {fn:Func} {c:Code} {args:List AV} {H:List (Nat × AObj)} {out:OutO} {n:Nat} (hf:P.funcs[f]?=some fn) (hb:fn.body=some c) (hr:fn.results=⟨rl⟩) (hn:fn.ntmps=n) (ha:Nat.ble args.length n=true)
    (hd:hpOk out.hp) (hk:H.all (fun p=>(lkO out.hp p.1).isSome)=true)
    (h: ∀ (K:Ctx G) (m:NM),Sound P K (FrO n m (H.map (·.1))) c (RetO P rl out) ⟨lkS (initA 0 args),lkO (someO H)⟩):SpecO P G f args H out:=
  specO_of hf hb hr hn ha (hpOk_ok hd) (fun r hr e=>by
    obtain ⟨p,hp,rfl⟩:=List.mem_map.1 hr
    have:=List.all_eq_true.1 hk p hp
    rw [e] at this
    cases this) h
theorem int_beq {a b:Nat}:((a:Int)==(b:Int))=(a==b):=by
  rw [Bool.eq_iff_iff]
  simp only [beq_iff_eq]
  omega
theorem int_beqL {a b:Nat}:((a:Int)==(no_index (OfNat.ofNat b)))=(a==OfNat.ofNat b):=int_beq (b:=b)
theorem int_beq0 {n:Nat}:((n:Int)==0)=(n==0):=by
  rw [Bool.eq_iff_iff]
  simp
theorem flat_atC {α:Type} {f:α→List D} {n:Nat} (hf: ∀ x,(f x).length=n) {l:List α} {k:Nat} {x:α} (h:l[k]?=some x):(((l.flatMap f).map C.d).drop (k*n)).take n=(f x).map C.d:=by
  rw [← List.map_drop,← List.map_take,flat_at hf h]
theorem splice_same {cs:List C} {off n:Nat} {vs:List C} (h:(cs.drop off).take n=vs):cs.take off++vs++cs.drop (off+n)=cs:=by
  conv=>rhs;rw [← List.take_append_drop off cs,← List.take_append_drop n (cs.drop off),h,List.drop_drop]
  rw [List.append_assoc]
@[go_sem] theorem dOnly_mapf {α:Type} {f:α→D} {l:List α}:dOnly (l.map fun x=>C.d (f x))=some (l.map f):=by
  have:=dOnly_map (l:=l.map f)
  rwa [List.map_map] at this
@[go_sem] theorem rep_2 {α:Type} {x:α}:List.replicate 2 x=[x,x]:=rfl
@[go_sem] theorem rep_3 {α:Type} {x:α}:List.replicate 3 x=[x,x,x]:=rfl
@[go_sem] theorem rep_4 {α:Type} {x:α}:List.replicate 4 x=[x,x,x,x]:=rfl
@[go_sem] theorem rep_8 {α:Type} {x:α}:List.replicate 8 x=[x,x,x,x,x,x,x,x]:=rfl
attribute [go_sem] Option.map_some Option.bind_some List.flatten_cons
theorem specO_empty {f:FuncId} {pre post:List AV} {H:List (Nat × AObj)} {out:OutO} (h: ∀ A c,SpecO P G f (pre++ .c (.d (.v (.slice A 0 c)))::post) H out):SpecO P G f (pre++ .c (.d (.sl 0 []))::post) H out:=by
  intro K m vs hS hB hH hl hc
  have hlt:pre.length<vs.length:=by rw [hl];simp
  have h0:RD K.w0 _ (.sl 0 []) vs[pre.length]:=hc pre.length (.c (.d (.sl 0 []))) _ (by simp) (List.getElem?_eq_getElem hlt)
  obtain ⟨A,c,hu,_⟩:=rd_sl h0
  refine h A c K m vs hS hB hH (by rw [hl];simp) fun i x v hx hv=>?_
  by_cases hi:i=pre.length
  · subst hi
    rw [List.getElem?_append_right (Nat.le_refl _),Nat.sub_self] at hx
    have hx:some (AV.c (.d (.v (.slice A 0 c))))=some x:=hx
    injection hx with hx
    subst hx
    rw [List.getElem?_eq_getElem hlt,hu] at hv
    injection hv with hv
    subst hv
    exact RD.v _ rfl
  · refine hc i x v ?_ hv
    rw [List.getElem?_append] at hx ⊢
    split at hx
    · rename_i h1
      rw [if_pos h1]
      exact hx
    · rename_i h1
      rw [if_neg h1]
      obtain ⟨j,hj⟩: ∃ j,i-pre.length=j+1:=⟨i-pre.length-1,by omega⟩
      rw [hj] at hx ⊢
      exact hx
attribute [go_sem] OutO.hp hpOk offN obAt offU List.map_nil
end
@[go_sem] def bytesD (l:List UInt8):D:= .sl l.length (l.map bD)
end Go.Proofs.YtdakeodebgggfaaGreatDoor
namespace Go.Proofs.YtdakeodebgggfaaGreatDoor
open Go.RowKit
inductive Tree where
  | mk (list hinted:Bool) (hint data:List UInt8) (kids:List Tree)
def Tree.list:Tree→Bool| .mk l _ _ _ _=>l
def Tree.hinted:Tree→Bool| .mk _ h _ _ _=>h
def Tree.hint:Tree→List UInt8| .mk _ _ x _ _=>x
def Tree.data:Tree→List UInt8| .mk _ _ _ d _=>d
def Tree.kids:Tree→List Tree| .mk _ _ _ _ k=>k
theorem Tree.kid_lt {t x:Tree} (h:x∈t.kids):SizeOf.sizeOf x<SizeOf.sizeOf t:=by
  cases t
  have:=List.sizeOf_lt_of_mem h
  simp only [Tree.kids] at this
  simp only [Tree.mk.sizeOf_spec]
  omega
theorem Tree.ind {P:Tree→Prop} (h: ∀ t,(∀ x∈t.kids,P x)→P t) (t:Tree):P t:=
  h t fun x hx=>Tree.ind h x
termination_by SizeOf.sizeOf t
decreasing_by exact Tree.kid_lt hx
def Tree.rd (w:World) (S:Nat→Prop) (cs:List Value) (t:Tree):Prop:=
  ∃ A1 n1 c1 A2 n2 c2 A3 n3 c3,cs=[.bool t.list,.bool t.hinted,.slice A1 n1 c1,.slice A2 n2 c2,.slice A3 n3 c3]∧Rep.u8.sl w S A1 n1 c1 t.hint∧Rep.u8.sl w S A2 n2 c2 t.data ∧
    t.kids.length=n3∧n3≤c3∧c3≤9223372036854775807∧(0<n3→ ∃ b o,A3=some ⟨b,o,none⟩∧S b ∧
      ∀ i x,(hx:t.kids[i]?=some x)→ ∃ es,Tree.rd w S es x∧ ∀ j u,es[j]?=some u→w.cell? ⟨b,o+i*5+j,none⟩=some u)
termination_by SizeOf.sizeOf t
decreasing_by exact Tree.kid_lt (List.mem_of_getElem? hx)
theorem Tree.rd_len {w:World} {S:Nat→Prop} {cs:List Value} {t:Tree} (h:Tree.rd w S cs t):cs.length=5:=by
  rw [Tree.rd] at h
  obtain ⟨_,_,_,_,_,_,_,_,_,rfl,_⟩:=h
  rfl
theorem Tree.rd_keep {w w':World} {S:Nat→Prop} (hk: ∀ p:Addr,S p.block→w'.cell? p=w.cell? p): ∀ (t:Tree) {cs:List Value},Tree.rd w S cs t→Tree.rd w' S cs t:=by
  refine Tree.ind fun t ih cs h=>?_
  rw [Tree.rd] at h ⊢
  obtain ⟨A1,n1,c1,A2,n2,c2,A3,n3,c3,rfl,h1,h2,h3,h4,h5,h6⟩:=h
  refine ⟨A1,n1,c1,A2,n2,c2,A3,n3,c3,rfl,Rep.sl_keep h1 hk,Rep.sl_keep h2 hk,h3,h4,h5,fun hn=>?_⟩
  obtain ⟨b,o,rfl,hb,hr⟩:=h6 hn
  refine ⟨b,o,rfl,hb,fun i x hx=>?_⟩
  obtain ⟨es,he,hc⟩:=hr i x hx
  exact ⟨es,ih x (List.mem_of_getElem? hx) he,fun j u hu=>by rw [hk _ hb];exact hc j u hu⟩
theorem Tree.rd_more {w:World} {S S':Nat→Prop} (hS: ∀ b,S b→S' b): ∀ (t:Tree) {cs:List Value},Tree.rd w S cs t→Tree.rd w S' cs t:=by
  refine Tree.ind fun t ih cs h=>?_
  rw [Tree.rd] at h ⊢
  obtain ⟨A1,n1,c1,A2,n2,c2,A3,n3,c3,rfl,h1,h2,h3,h4,h5,h6⟩:=h
  refine ⟨A1,n1,c1,A2,n2,c2,A3,n3,c3,rfl,Rep.sl_more h1 hS,Rep.sl_more h2 hS,h3,h4,h5,fun hn=>?_⟩
  obtain ⟨b,o,rfl,hb,hr⟩:=h6 hn
  refine ⟨b,o,rfl,hS _ hb,fun i x hx=>?_⟩
  obtain ⟨es,he,hc⟩:=hr i x hx
  exact ⟨es,ih x (List.mem_of_getElem? hx) he,hc⟩
def Rep.tree:Rep Tree where
  size:=5
  pos:=by omega
  rd:=Tree.rd
  len:=Tree.rd_len
  keep:=fun h hk=>Tree.rd_keep hk _ h
  more:=fun h hS=>Tree.rd_more hS _ h
  one:=fun h u hu=>by
    rw [Tree.rd] at h
    obtain ⟨_,_,_,_,_,_,_,_,_,rfl,_⟩:=h
    simp only [List.mem_cons,List.not_mem_nil,or_false] at hu
    rcases hu with rfl|rfl|rfl|rfl|rfl <;> rfl
def Parts (w:World) (S:Nat→Prop) (t:Tree) (A1:Option Addr) (n1 c1:Nat) (A2:Option Addr) (n2 c2:Nat) (A3:Option Addr) (n3 c3:Nat):Prop:=
  Rep.u8.sl w S A1 n1 c1 t.hint∧Rep.u8.sl w S A2 n2 c2 t.data∧Rep.tree.sl w S A3 n3 c3 t.kids
theorem Rep.tree_mk {w:World} {S:Nat→Prop} {t:Tree} {A1 A2 A3:Option Addr} {n1 c1 n2 c2 n3 c3:Nat} (h:Parts w S t A1 n1 c1 A2 n2 c2 A3 n3 c3) :
    Rep.tree.rd w S [.bool t.list,.bool t.hinted,.slice A1 n1 c1,.slice A2 n2 c2,.slice A3 n3 c3] t:=by
  show Tree.rd w S _ t
  rw [Tree.rd]
  exact ⟨A1,n1,c1,A2,n2,c2,A3,n3,c3,rfl,h.1,h.2.1,h.2.2.1,h.2.2.2.1,h.2.2.2.2.1,h.2.2.2.2.2⟩
def Tree.wt (t:Tree):Nat:=1+t.hint.length+t.data.length+(t.kids.attach.map fun x=>Tree.wt x.1).sum
termination_by SizeOf.sizeOf t
decreasing_by exact Tree.kid_lt x.2
theorem Tree.wt_eq (t:Tree):t.wt=1+t.hint.length+t.data.length+(t.kids.map Tree.wt).sum:=by
  rw [Tree.wt]
  congr 2
  simp
theorem sum_mem {l:List Tree} {x:Tree} (f:Tree→Nat) (h:x∈l):f x≤(l.map f).sum:=by
  induction l with
  | nil=>cases h
  | cons y l ih =>
    simp only [List.map_cons,List.sum_cons]
    rcases List.mem_cons.1 h with rfl|h
    · omega
    · have:=ih h;omega
theorem Tree.wt_kid {t x:Tree} (h:x∈t.kids):x.wt<t.wt:=by
  rw [Tree.wt_eq t]
  have:=sum_mem Tree.wt h
  omega
theorem Tree.wt_kids (t:Tree):t.kids.length≤t.wt:=by
  rw [Tree.wt_eq t]
  have: ∀ l:List Tree,l.length≤(l.map Tree.wt).sum:=by
    intro l
    induction l with
    | nil=>simp
    | cons y l ih =>
      have:1≤y.wt:=by rw [Tree.wt_eq];omega
      simp only [List.map_cons,List.sum_cons,List.length_cons]
      omega
  have:=this t.kids
  omega
theorem Tree.wt_hint (t:Tree):t.hint.length≤t.wt:=by rw [Tree.wt_eq];omega
theorem Tree.wt_data (t:Tree):t.data.length≤t.wt:=by rw [Tree.wt_eq];omega
end Go.Proofs.YtdakeodebgggfaaGreatDoor
namespace Go.Proofs.YtdakeodebgggfaaGreatDoor
def Tree.nodes (t:Tree):Nat:=1+(t.kids.attach.map fun x=>Tree.nodes x.1).sum
termination_by SizeOf.sizeOf t
decreasing_by exact Tree.kid_lt x.2
theorem Tree.nodes_eq (t:Tree):t.nodes=1+(t.kids.map Tree.nodes).sum:=by
  rw [Tree.nodes]
  congr 2
  simp
theorem Tree.nodes_wt: ∀ t:Tree,t.nodes≤t.wt:=Tree.ind fun t ih=>by
  rw [Tree.nodes_eq,Tree.wt_eq]
  have: ∀ l:List Tree,(∀ x∈l,x.nodes≤x.wt)→(l.map Tree.nodes).sum≤(l.map Tree.wt).sum:=by
    intro l
    induction l with
    | nil=>simp
    | cons x l ih =>
      intro h
      have h0:=h x (by simp)
      have:=ih fun y hy=>h y (by simp [hy])
      simp only [List.map_cons,List.sum_cons]
      omega
  have:=this t.kids ih
  omega
def Tree.fair (t:Tree):Bool:=if t.list then !t.hinted&&t.hint.length==0&&t.data.length==0 else t.kids.length==0&&(t.hinted||t.hint.length==0)
def Tree.clean (t:Tree):Bool:=t.fair&&t.kids.attach.all fun x=>Tree.clean x.1
termination_by SizeOf.sizeOf t
decreasing_by exact Tree.kid_lt x.2
theorem Tree.clean_eq (t:Tree):t.clean=(t.fair&&t.kids.all Tree.clean):=by
  rw [Tree.clean]
  congr 1
  simp
def most (l:List Nat):Nat:=l.foldl max 0
def Tree.deep (t:Tree):Nat:=if t.list then most (t.kids.attach.map fun x=>Tree.deep x.1)+1 else 0
termination_by SizeOf.sizeOf t
decreasing_by exact Tree.kid_lt x.2
theorem Tree.deep_eq (t:Tree):t.deep=if t.list then most (t.kids.map Tree.deep)+1 else 0:=by
  rw [Tree.deep]
  congr 2
  simp
theorem most_snoc (l:List Nat) (k:Nat):most (l++[k])=max (most l) k:=by simp [most]
theorem most_le {l:List Nat} {n:Nat}:most l≤n↔ ∀ k∈l,k≤n:=by
  have: ∀ (l:List Nat) (a:Nat),l.foldl max a≤n↔a≤n∧ ∀ k∈l,k≤n:=by
    intro l
    induction l with
    | nil=>simp
    | cons x l ih =>
      intro a
      rw [List.foldl_cons,ih]
      simp only [List.mem_cons,forall_eq_or_imp,Nat.max_le,and_assoc]
  have:=this l 0
  simpa [most] using this
theorem Tree.deep_wt: ∀ t:Tree,t.deep≤t.wt:=Tree.ind fun t ih=>by
  rw [Tree.deep_eq]
  split
  · have:most (t.kids.map Tree.deep)≤t.wt-1:=most_le.2 fun k hk=>by
      obtain ⟨x,hx,rfl⟩:=List.mem_map.1 hk
      have h1:=ih x hx
      have h2:=Tree.wt_kid hx
      omega
    have:1≤t.wt:=by rw [Tree.wt_eq];omega
    omega
  · omega
def dec (n:Nat):List UInt8:=if n<10 then [UInt8.ofNat (48+n)] else dec (n/10)++[UInt8.ofNat (48+n%10)]
theorem dec_len {n:Nat}: ∀ k,n<10^(k+1)→(dec n).length≤k+1:=by
  intro k
  induction k generalizing n with
  | zero =>
    intro h
    rw [dec,if_pos (by simpa using h)]
    simp
  | succ k ih =>
    intro h
    rw [dec]
    split
    · simp
    · rw [List.length_append,List.length_singleton]
      have:=ih (n:=n/10) (by rw [Nat.div_lt_iff_lt_mul (by omega)];rw [Nat.pow_succ] at h;omega)
      omega
def textB (b:List UInt8):List UInt8:=dec b.length++[58]++b
theorem textB_len {b:List UInt8} {n:Nat} (h:b.length≤n) (hn:n<100000000):(textB b).length≤n+9:=by
  have:=dec_len (n:=b.length) 7 (by simp only [Nat.reduceAdd,Nat.reducePow];omega)
  simp only [textB,List.length_append,List.length_singleton]
  omega
def Tree.atomF (t:Tree):List UInt8:=(if t.hinted then [91]++textB t.hint++[93] else [])++textB t.data
def Tree.form (t:Tree):List UInt8:=if t.list then [40]++(t.kids.attach.map fun x=>Tree.form x.1).flatten++[41] else t.atomF
termination_by SizeOf.sizeOf t
decreasing_by exact Tree.kid_lt x.2
theorem Tree.form_eq (t:Tree):t.form=if t.list then [40]++(t.kids.map Tree.form).flatten++[41] else t.atomF:=by
  rw [Tree.form]
  congr 3
  simp
theorem Tree.form_wt: ∀ t:Tree,t.wt≤10000000→t.form.length≤21*t.wt:=Tree.ind fun t ih=>by
  intro hw
  rw [Tree.form_eq]
  split
  · have: ∀ l:List Tree,(∀ x∈l,x.form.length≤21*x.wt)→(l.map Tree.form).flatten.length≤21*(l.map Tree.wt).sum:=by
      intro l
      induction l with
      | nil=>simp
      | cons x l ih =>
        intro h
        have h0:=h x (by simp)
        have:=ih fun y hy=>h y (by simp [hy])
        simp only [List.map_cons,List.sum_cons,List.flatten_cons,List.length_append]
        omega
    have:=this t.kids fun x hx=>ih x hx (by have:=Tree.wt_kid hx;omega)
    rw [Tree.wt_eq]
    simp only [List.length_append,List.length_singleton]
    omega
  · have h1:=textB_len (b:=t.hint) (Nat.le_refl _) (by have:=t.wt_hint;omega)
    have h2:=textB_len (b:=t.data) (Nat.le_refl _) (by have:=t.wt_data;omega)
    rw [Tree.wt_eq]
    unfold Tree.atomF
    split <;> simp only [List.length_append,List.length_singleton,List.length_nil] <;> omega
def Tree.may (t:Tree):Bool:=t.clean&&decide (t.nodes≤512)&&decide (t.deep≤16)&&decide (t.form.length≤4096)
noncomputable def Tree.same (t u:Tree):Bool:= @decide (t=u) (Classical.propDecidable _)
theorem Tree.ext_iff {t u:Tree}:t=u↔t.list=u.list∧t.hinted=u.hinted∧t.hint=u.hint∧t.data=u.data∧t.kids=u.kids:=by
  cases t
  cases u
  simp [Tree.list,Tree.hinted,Tree.hint,Tree.data,Tree.kids]
end Go.Proofs.YtdakeodebgggfaaGreatDoor
namespace Go.Proofs.YtdakeodebgggfaaGreatDoor
open Go.RowKit
def treeC (t:Tree):List D:=[.v (.bool t.list),.v (.bool t.hinted),bytesD t.hint,bytesD t.data,.sl t.kids.length (t.kids.attach.map fun x=>treeC x.1).flatten]
termination_by SizeOf.sizeOf t
decreasing_by exact Tree.kid_lt x.2
@[go_sem] def treeK (t:Tree):List C:=[.d (.v (.bool t.list)),.d (.v (.bool t.hinted)),.d (bytesD t.hint),.d (bytesD t.data),.d (.sl t.kids.length (t.kids.flatMap treeC))]
theorem treeC_eq (t:Tree):treeC t=[.v (.bool t.list),.v (.bool t.hinted),bytesD t.hint,bytesD t.data,.sl t.kids.length (t.kids.flatMap treeC)]:=by
  rw [treeC]
  simp [List.flatMap]
@[go_sem] theorem treeC_len (t:Tree):(treeC t).length=5:=by rw [treeC_eq];rfl
theorem treeC_mk (l h:Bool) (x d:List UInt8) (k:List Tree):treeC (.mk l h x d k)=[.v (.bool l),.v (.bool h),bytesD x,bytesD d,.sl k.length (k.flatMap treeC)]:=treeC_eq _
@[go_sem] theorem treeC_t5 (t:Tree):(treeC t).take 5=treeC t:=List.take_of_length_le (by rw [treeC_len];exact Nat.le_refl _)
@[go_sem] theorem treeC_take (t:Tree):((treeC t).map C.d).take 5=(treeC t).map C.d:=List.take_of_length_le (by rw [List.length_map,treeC_len];exact Nat.le_refl _)
@[go_sem] theorem treeC_flen (l:List Tree):(l.flatMap treeC).length=l.length*5:=flat_len treeC_len l
theorem sum_at {α:Type} {l:List α} {k:Nat} {x:α} (f:α→Nat) (h:l[k]?=some x):((l.take (k+1)).map f).sum=((l.take k).map f).sum+f x:=by
  rw [List.take_add_one,h]
  simp
theorem sum_upto {α:Type} {l:List α} {k:Nat} (f:α→Nat):((l.take k).map f).sum≤(l.map f).sum:=by
  induction l generalizing k with
  | nil=>simp
  | cons x l ih =>
    cases k with
    | zero=>simp
    | succ k =>
      have:=ih (k:=k)
      simp only [List.take_succ_cons,List.map_cons,List.sum_cons]
      omega
theorem nodes_m {G:Nat→Option (List D)}: ∀ t:Tree,∀ cs:List D,treeC t=cs→t.wt≤1000000000→Spec Tryz.prog G 16 [.g cs] (.one (.c (.v (.int .i64 t.nodes)))):=Tree.ind fun t ih cs hcs hw=>by
  subst hcs
  refine spec_of Tryz.func16 rfl rfl rfl (by kernel_rfl) rfl fun K=>?_
  rw [treeC_eq]
  (repeat' (first|with_reducible (first|refine zA fun Kn hK=>?_|refine zB (by kernel_rfl) ?_|refine Nx.go ?_|go_step)|(with_reducible refine zM (fun hb=>?_) (fun hb=>?_) <;> (try simp only [hb]))|simp (maxSteps:=9999999) (implicitDefEqProofs:=false) only [go_sem]))
  refine sound_loopR (fun x:{k:Nat // k≤t.kids.length}=>⟨[(1,vP 1 0),(3,vI (1+((t.kids.take x.1).map Tree.nodes).sum:Nat)),(7,vI t.kids.length),(8,vI x.1)],[(1,some ⟨25,treeK t,true,false⟩)]⟩) (fun x=>t.kids.length-x.1) ⟨0,by omega⟩ [] ?_ (fun ⟨k,hk⟩=>?_)
  · simp (maxSteps:=9999999) (implicitDefEqProofs:=false) only [go_sem]
    simp
  by_cases hlt:k<t.kids.length
  · obtain ⟨x,hx⟩: ∃ x,t.kids[k]?=some x:=⟨_,List.getElem?_eq_getElem hlt⟩
    have hb:decide ((k:Int)<(t.kids.length:Int))=true:=by simpa using hlt
    have h1:=sum_at Tree.nodes hx
    have h2:=sum_upto (l:=t.kids) (k:=k+1) Tree.nodes
    have h3:=t.nodes_wt
    have h4:=t.nodes_eq
    have h5:=t.wt_kids
    (repeat' (first|with_reducible (first|refine zA fun Kn hK=>?_|refine zB (by kernel_rfl) ?_|refine Nx.go ?_|go_step)|(refine ⟨_,ih x (List.mem_of_getElem? hx) _ rfl (by have:=Tree.wt_kid (List.mem_of_getElem? hx);omega),?_⟩)|with_reducible (first|refine zI ?_|refine zJ ?_|refine zK ?_ ?_|refine zL ?_ ?_|refine zR (by kernel_rfl) ?_)|simp (disch:=omega) only [wq]|(with_reducible refine zM (fun hb=>?_) (fun hb=>?_) <;> (try simp only [hb]))|(with_reducible refine And.intro (by first|omega|(simp;done)|(simp;omega)) ?_)|simp (maxSteps:=9999999) (implicitDefEqProofs:=false) only [go_sem,hb,flat_at treeC_len hx]|fail))
    refine ⟨[],⟨k+1,hlt⟩,?_⟩
    (iterate 2 ((try simp (maxSteps:=9999999) (implicitDefEqProofs:=false) only [go_sem,hb]);(try simp (disch:=omega) only [wq])))
    (simp only [ijq,true_and,and_true];first|done|omega|(split <;> omega)|(simp;done)|(simp;omega))
  · have hb:decide ((k:Int)<(t.kids.length:Int))=false:=by simpa using hlt
    obtain rfl:k=t.kids.length:=by omega
    (repeat' (first|with_reducible (first|refine zA fun Kn hK=>?_|refine zB (by kernel_rfl) ?_|refine Nx.go ?_|go_step)|fail|with_reducible (first|refine zI ?_|refine zJ ?_|refine zK ?_ ?_|refine zL ?_ ?_|refine zR (by kernel_rfl) ?_)|simp (disch:=omega) only [wq]|(with_reducible refine zM (fun hb=>?_) (fun hb=>?_) <;> (try simp only [hb]))|(with_reducible refine And.intro (by first|omega|(simp;done)|(simp;omega)) ?_)|simp (maxSteps:=9999999) (implicitDefEqProofs:=false) only [go_sem,hb,List.take_length]|fail))
    rw [t.nodes_eq]
theorem clean_m {G:Nat→Option (List D)}: ∀ t:Tree,∀ cs:List D,treeC t=cs→t.wt≤1000000000→Spec Tryz.prog G 66 [.g cs] (.one (.c (.v (.bool t.clean)))):=Tree.ind fun t ih cs hcs hw=>by
  subst hcs
  refine spec_of Tryz.func66 rfl rfl rfl (by kernel_rfl) rfl fun K=>?_
  rw [treeC_eq]
  refine zA fun Kn hK=>?_
  refine zB (by kernel_rfl) ?_
  (iterate 2 ((try simp (maxSteps:=9999999) (implicitDefEqProofs:=false) only [go_sem,true_and]);(try simp (disch:=omega) only [wq])))
  refine hK _ ?_;clear hK;clear Kn
  refine zA fun Kn hK=>?_
  have hL : t.fair=true→ ∀ s,LessL (renK []) ⟨[(1,vP 1 0)],[(1,some ⟨25,treeK t,true,false⟩)]⟩ (Fr0 Tryz.f66.ntmps) s→Kn s:=by
    intro hf s hl
    refine hK _ (sound_lessR _ _ hl ?_)
    clear hK hl
    (repeat' (first|with_reducible (first|refine zA fun Kn hK=>?_|refine zB (by kernel_rfl) ?_|refine Nx.go ?_|go_step)|fail|with_reducible (first|refine zI ?_|refine zJ ?_|refine zK ?_ ?_|refine zL ?_ ?_|refine zR (by kernel_rfl) ?_)|simp (disch:=omega) only [wq]|(with_reducible refine zM (fun hb=>?_) (fun hb=>?_) <;> (try simp only [hb]))|(with_reducible refine And.intro (by first|omega|(simp;done)|(simp;omega)) ?_)|simp (maxSteps:=9999999) (implicitDefEqProofs:=false) only [go_sem,true_and]|fail))
    refine sound_loopR (fun x:{k:Nat // k≤t.kids.length∧(t.kids.take k).all Tree.clean=true}=>⟨[(1,vP 1 0),(46,vI t.kids.length),(47,vI x.1)],[(1,some ⟨25,treeK t,true,false⟩)]⟩) (fun x=>t.kids.length-x.1) ⟨0,by simp⟩ [] (by simp (maxSteps:=9999999) (implicitDefEqProofs:=false) only [go_sem];simp) (fun ⟨k,hk,hall⟩=>?_)
    have h5:=t.wt_kids
    by_cases hlt:k<t.kids.length
    · obtain ⟨x,hx⟩: ∃ x,t.kids[k]?=some x:=⟨_,List.getElem?_eq_getElem hlt⟩
      have hb:decide ((k:Int)<(t.kids.length:Int))=true:=by simpa using hlt
      have hm:=List.mem_of_getElem? hx
      (repeat' (first|with_reducible (first|refine zA fun Kn hK=>?_|refine zB (by kernel_rfl) ?_|refine Nx.go ?_|go_step)|(refine ⟨_,ih x hm _ rfl (by have:=Tree.wt_kid hm;omega),?_⟩)|with_reducible (first|refine zI ?_|refine zJ ?_|refine zK ?_ ?_|refine zL ?_ ?_|refine zR (by kernel_rfl) ?_)|simp (disch:=omega) only [wq]|(with_reducible refine zM (fun hb=>?_) (fun hb=>?_) <;> (try simp only [hb]))|(with_reducible refine And.intro (by first|omega|(simp;done)|(simp;omega)) ?_)|simp (maxSteps:=9999999) (implicitDefEqProofs:=false) only [go_sem,hb,flat_at treeC_len hx]|fail))
      · refine ⟨[],⟨k+1,hlt,?_⟩,?_⟩
        · rw [List.take_add_one,hx]
          simp_all
        · (iterate 2 ((try simp (maxSteps:=9999999) (implicitDefEqProofs:=false) only [go_sem,true_and]);(try simp (disch:=omega) only [wq])))
          (simp only [ijq,true_and,and_true];first|done|omega|(split <;> omega)|(simp;done)|(simp;omega))
      · rw [t.clean_eq,hf]
        have:t.kids.all Tree.clean=false:=List.all_eq_false.2 ⟨x,hm,by simp_all⟩
        rw [this]
        rfl
    · have hb:decide ((k:Int)<(t.kids.length:Int))=false:=by simpa using hlt
      obtain rfl:k=t.kids.length:=by omega
      (repeat' (first|with_reducible (first|refine zA fun Kn hK=>?_|refine zB (by kernel_rfl) ?_|refine Nx.go ?_|go_step)|fail|with_reducible (first|refine zI ?_|refine zJ ?_|refine zK ?_ ?_|refine zL ?_ ?_|refine zR (by kernel_rfl) ?_)|simp (disch:=omega) only [wq]|(with_reducible refine zM (fun hb=>?_) (fun hb=>?_) <;> (try simp only [hb]))|(with_reducible refine And.intro (by first|omega|(simp;done)|(simp;omega)) ?_)|simp (maxSteps:=9999999) (implicitDefEqProofs:=false) only [go_sem,hb]|fail))
      rw [List.take_length] at hall
      rw [t.clean_eq,hf,hall]
      rfl
  clear hK
  (repeat' (first|with_reducible (first|refine zA fun Kn hK=>?_|refine zB (by kernel_rfl) ?_|refine Nx.go ?_|go_step)|(refine hL (by rw [Tree.fair];simp only [*];rfl) _ ?_)|with_reducible (first|refine zI ?_|refine zJ ?_|refine zK ?_ ?_|refine zL ?_ ?_|refine zR (by kernel_rfl) ?_)|simp (disch:=omega) only [wq]|(with_reducible refine zM (fun hb=>?_) (fun hb=>?_) <;> (try simp only [hb]))|(with_reducible refine And.intro (by first|omega|(simp;done)|(simp;omega)) ?_)|simp (maxSteps:=9999999) (implicitDefEqProofs:=false) only [go_sem,gt_iff_lt,pos_beq]|fail))
  all_goals (clear ih;first|(simp only [*];done)|(rw [t.clean_eq,Tree.fair];simp only [*];rfl)|(rw [t.clean_eq,Tree.fair];simp only [*];simp;done))
end Go.Proofs.YtdakeodebgggfaaGreatDoor
namespace Go.Proofs.YtdakeodebgggfaaGreatDoor
open Go.RowKit
def digit (n:Nat):UInt8:=UInt8.ofNat (48+n%10)
theorem digit_D (n:Nat):bD (digit n)= .v (.int .u8 (48+((n%10:Nat):Int))):=by
  unfold bD digit
  rw [UInt8.toNat_ofNat']
  congr 2
  omega
theorem dec_small {n:Nat} (h:n<10):dec n=[digit n]:=by
  rw [dec,if_pos h,digit,Nat.mod_eq_of_lt h]
theorem dec_big {n:Nat} (h: ¬ n<10):dec n=dec (n/10)++[digit n]:=by
  rw [dec,if_neg h,digit]
theorem str_app (x y:List UInt8):(⟨x.toArray⟩:ByteArray)++⟨y.toArray⟩=⟨(x++y).toArray⟩:=by
  ext1
  simp [ByteArray.data_append]
theorem str_size (x:List UInt8):(⟨x.toArray⟩:ByteArray).size=x.length:=by simp [ByteArray.size]
theorem dec_m {G:Nat→Option (List D)}: ∀ n:Nat,n≤1000000000→Spec Tryz.prog G 73 [.c (.v (.int .i64 n))] (.one (.c (.v (.string ⟨(dec n).toArray⟩)))):=by
  intro n
  induction n using Nat.strongRecOn with
  | _ n ih =>
  intro hn
  refine spec_of Tryz.func73 rfl rfl rfl (by kernel_rfl) rfl fun K=>?_
  by_cases h10:n<10
  · have d1:decide ((n:Int)<10)=true:=decide_eq_true (by omega)
    have d2:n%10=n:=Nat.mod_eq_of_lt h10
    (repeat' (first|with_reducible (first|refine zA fun Kn hK=>?_|refine zB (by kernel_rfl) ?_|refine Nx.go ?_|go_step)|(refine ⟨[digit n],?_⟩)|with_reducible (first|refine zI ?_|refine zJ ?_|refine zK ?_ ?_|refine zL ?_ ?_|refine zR (by kernel_rfl) ?_)|simp (maxSteps:=9999999) (disch:=omega) only [wq]|(with_reducible refine zM (fun hb=>?_) (fun hb=>?_) <;> (try simp only [hb]))|(with_reducible refine And.intro (by first|omega|(simp;done)|(simp;omega)) ?_)|simp (maxSteps:=9999999) (implicitDefEqProofs:=false) only [go_sem,d1,digit_D,d2]|fail))
    rw [dec_small h10]
  · have d1:decide ((n:Int)<10)=false:=decide_eq_false (by omega)
    have d2:(n:Int).tdiv 10=((n/10:Nat):Int):=by rw [Int.tdiv_eq_ediv_of_nonneg (by omega)];omega
    have d3:(n:Int).tmod 10=((n%10:Nat):Int):=by rw [Int.tmod_eq_emod_of_nonneg (by omega)];omega
    have hl:=dec_len (n:=n/10) 9 (by simp only [Nat.reduceAdd,Nat.reducePow];omega)
    (repeat' (first|with_reducible (first|refine zA fun Kn hK=>?_|refine zB (by kernel_rfl) ?_|refine Nx.go ?_|go_step)|(refine ⟨_,ih (n/10) (by omega) (by omega),?_⟩)|(refine ⟨[digit n],?_⟩)|with_reducible (first|refine zI ?_|refine zJ ?_|refine zK ?_ ?_|refine zL ?_ ?_|refine zR (by kernel_rfl) ?_)|simp (maxSteps:=9999999) (disch:=omega) only [wq]|(with_reducible refine zM (fun hb=>?_) (fun hb=>?_) <;> (try simp only [hb]))|(with_reducible refine And.intro (by first|omega|(simp;done)|(simp;omega)) ?_)|simp (maxSteps:=9999999) (implicitDefEqProofs:=false) only [go_sem,d1,d2,d3,digit_D]|fail))
    rw [dec_big h10,str_app]
end Go.Proofs.YtdakeodebgggfaaGreatDoor
namespace Go.Proofs.YtdakeodebgggfaaGreatDoor
def atomT (s:List UInt8):Tree:= .mk false false [] s []
def listT (l:List Tree):Tree:= .mk true false [] [] l
def isB (t:Tree) (s:List UInt8):Bool:= !t.list&& !t.hinted&&(t.data==s)
def headB (t:Tree) (s:List UInt8):Bool:=t.list&&(match t.kids with
  | []=>false
  | x::_=>isB x s)
end Go.Proofs.YtdakeodebgggfaaGreatDoor
