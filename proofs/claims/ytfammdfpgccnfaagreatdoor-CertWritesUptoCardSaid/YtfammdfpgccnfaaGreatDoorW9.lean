/- Parts of the proof, laid together. -/
import Derived.Test.YtfammdfpgccnfaaGreatDoorW8
set_option linter.unusedVariables false
set_option linter.unusedSimpArgs false
set_option maxRecDepth 100000
set_option maxHeartbeats 8000000
namespace Go.Proofs.YtfammdfpgccnfaaGreatDoor
open Go.RowKit
def Wd.big (w:Wd):Nat:=if (-9223372036854775808≤w.frm∧w.frm≤9223372036854775807)∧(-9223372036854775808≤w.to∧w.to≤9223372036854775807) then 0 else 10000000
theorem big_64 {w:Wd} (h:w.big≤2000000):w.in64:=by
 unfold Wd.big at h
 split at h
 ·assumption
 ·omega
def Ct.wt (c:Ct):Nat:=c.tag.wt+c.win.big
theorem wt_both {c:Ct} (h:c.wt≤2000000):c.tag.wt≤2000000∧c.win.in64:=by
 unfold Ct.wt at h
 exact ⟨by omega,big_64 (by omega)⟩
section
variable {G:Nat→Option (List D)}
theorem certwrites_m (hG:G 0=some powD) (c:Ct) (hc:c.wt≤2000000):Spec Tryz.prog G 10 [.g (ctC c)] (.one (.c (.v (.bool true)))):=by
 have hw:=awake17_m (G:=G) hG
 obtain ⟨wa,ia⟩:=wt_both hc
 have g1:=rcgreat_m (G:=G) c (by omega) rfl
 have fa:=fun h=>great_fit (c:=c) h wa ia
 obtain ⟨a0,a1,a2,a3,a4,a5,a6,a7,a8,a9,a10,a11,a12,a13,a14,a15,a16,a17,a18,a19,a20,a21,a22,a23,hca⟩:=ct_law c
 cases hga:c.great with
 | true =>
  rw [hga,hca] at g1
  rw [hca]
  clear hca fa
  refine spec_of Tryz.func10 rfl rfl rfl (by kernel_rfl) rfl fun K=>?_
  (repeat' (first|with_reducible (first|refine zA fun Kn hK=>?_|refine zU ?_|refine Nx.go ?_|go_step)|refine ⟨_,g1,?_⟩|refine ⟨_,hw,?_⟩|with_reducible (first|refine zI ?_|refine zV ?_)|simp (maxSteps:=9^9) (disch:=omega) only [wq]|with_reducible refine zM (fun hb=>?_) (fun hb=>?_)<;>try simp only [hb]|with_reducible refine And.intro (by first|omega|(simp;done)|(simp;omega)) ?_|simp (maxSteps:=9^9) -implicitDefEqProofs only [go_sem,true_and]))
 | false =>
  rw [hga,hca] at g1
  have hf:=fa hga
  have p1:=cput_m (G:=G) hG c rfl hf
  have m1:=cmay_m (G:=G) hG c rfl hf
  have k1:=parts17_m (G:=G) c hf rfl
  unfold cputD at p1
  cases hm:c.may with
  | false =>
   rw [hm] at p1 m1
   rw [if_neg (by decide),if_neg (by decide),zeroT_C] at p1
   have z1:Spec Tryz.prog G 16 [.g [.v (.bool false),.v (.bool false),.sl 0 [],.sl 0 [],.sl 0 []],.g [.v (.bool false),.v (.bool false),.sl 0 [],.sl 0 [],.sl 0 []]] (.one (.c (.v (.bool true)))):=by
    have h:=sameref_m (G:=G) zeroT zeroT _ _ rfl rfl (by rw [zeroT_wt];omega)
    rw [same_t rfl,zeroT_C] at h
    exact h
   cases hok:c.ok with
   | false =>
    rw [hok] at k1
    rw [hca] at p1 m1 k1 ⊢
    clear hca fa hf
    refine spec_of Tryz.func10 rfl rfl rfl (by kernel_rfl) rfl fun K=>?_
    (repeat' (first|with_reducible (first|refine zA fun Kn hK=>?_|refine zU ?_|refine Nx.go ?_|go_step)|refine ⟨_,g1,?_⟩|refine ⟨_,p1,?_⟩|refine ⟨_,m1,?_⟩|refine ⟨_,k1,?_⟩|refine ⟨_,z1,?_⟩|refine ⟨_,hw,?_⟩|with_reducible (first|refine zI ?_|refine zV ?_)|simp (maxSteps:=9^9) (disch:=omega) only [wq]|with_reducible refine zM (fun hb=>?_) (fun hb=>?_)<;>try simp only [hb]|with_reducible refine And.intro (by first|omega|(simp;done)|(simp;omega)) ?_|simp (maxSteps:=9^9) -implicitDefEqProofs only [go_sem,Bool.true_and,decide_true,bne,Bool.not_true,Bool.not_false]))
   | true =>
    have l1:=long17_m (G:=G) c hf hok rfl
    have hl:longC c=true:=by
     cases hq:longC c with
     | true=>rfl
     | false=>rw [long_may hok hq] at hm;cases hm
    rw [hl] at l1
    rw [hok] at k1
    rw [hca] at p1 m1 k1 l1 ⊢
    clear hca fa hf
    refine spec_of Tryz.func10 rfl rfl rfl (by kernel_rfl) rfl fun K=>?_
    (repeat' (first|with_reducible (first|refine zA fun Kn hK=>?_|refine zU ?_|refine Nx.go ?_|go_step)|refine ⟨_,g1,?_⟩|refine ⟨_,p1,?_⟩|refine ⟨_,m1,?_⟩|refine ⟨_,k1,?_⟩|refine ⟨_,l1,?_⟩|refine ⟨_,z1,?_⟩|refine ⟨_,hw,?_⟩|with_reducible (first|refine zI ?_|refine zV ?_)|simp (maxSteps:=9^9) (disch:=omega) only [wq]|with_reducible refine zM (fun hb=>?_) (fun hb=>?_)<;>try simp only [hb]|with_reducible refine And.intro (by first|omega|(simp;done)|(simp;omega)) ?_|simp (maxSteps:=9^9) -implicitDefEqProofs only [go_sem,Bool.true_and,decide_true,bne,Bool.not_true,Bool.not_false]))
  | true =>
   rw [hm] at p1 m1
   rw [if_pos rfl,if_pos rfl] at p1
   have hm2:=hm
   rw [Ct.may,Bool.and_eq_true] at hm2
   have hvw:=may_wt hm2.2
   have hr:=refC_val hm
   have t1:=cget_m (G:=G) hG c.val rfl (by omega)
   have r1:=rcGet_m (G:=G) c.val rfl (by omega)
   unfold cgetD at t1
   rw [hr,Option.getD_some] at t1 r1
   rw [show (if (some c).isSome=true then (0:Int) else 3)=0 from rfl] at t1
   rw [Option.isSome_some] at r1
   have y1:=rcsame_m (G:=G) c c hf hf rfl rfl
   rw [ctSame_refl] at y1
   have v1:=may_m (G:=G) c.val rfl (by omega)
   rw [hm2.2] at v1
   rw [hm2.1] at k1
   generalize c.val=V at *
   rw [treeC_eq V] at p1 t1 r1 v1
   rw [hca] at p1 m1 k1 t1 r1 y1 ⊢
   clear hca fa hf hm hm2 hr
   simp only [bD,bytesD] at *
   refine spec_of Tryz.func10 rfl rfl rfl (by kernel_rfl) rfl fun K=>?_
   (repeat' (first|with_reducible (first|refine zA fun Kn hK=>?_|refine zU ?_|refine Nx.go ?_|go_step)|refine ⟨_,g1,?_⟩|refine ⟨_,p1,?_⟩|refine ⟨_,m1,?_⟩|refine ⟨_,k1,?_⟩|refine ⟨_,t1,?_⟩|refine ⟨_,r1,?_⟩|refine ⟨_,y1,?_⟩|refine ⟨_,v1,?_⟩|refine ⟨_,hw,?_⟩|with_reducible (first|refine zI ?_|refine zV ?_)|simp (maxSteps:=9^9) (disch:=omega) only [wq]|with_reducible refine zM (fun hb=>?_) (fun hb=>?_)<;>try simp only [hb]|with_reducible refine And.intro (by first|omega|(simp;done)|(simp;omega)) ?_|simp (maxSteps:=9^9) -implicitDefEqProofs only [go_sem,Bool.true_and,decide_true,bne,Bool.not_true,Bool.not_false]))
end
end Go.Proofs.YtfammdfpgccnfaaGreatDoor
namespace Go.Proofs.YtfammdfpgccnfaaGreatDoor
open Go.ChangeShapes Go.WideShapes Go.ChangeAt Go.RowKit Go.Deep
theorem in64_big {w:Wd} (h:w.in64):w.big=0:=by
 unfold Wd.in64 at h
 unfold Wd.big
 rw [if_pos h]
section
variable {P:Program} {t:TypeId}
theorem opensN_cert {tK tB tS tb tT tW ti ty:TypeId} {fs fk fw:Array Field} (ht:P.underlying t=some (.struct fs)) (hf:fs.toList.map (fun f=>(f.type,f.offset))=[(tK,0),(tB,2),(tS,3),(tb,9),(tT,10),(tW,20)]) (hc:P.cellsOf t=24)
  (hK:P.underlying tK=some (.struct fk)) (hfk:fk.toList.map (fun f=>(f.type,f.offset))=[(tb,0),(tB,1)]) (cK:P.cellsOf tK=2)
  (hB:P.underlying tB=some (.slice ty)) (cB:P.cellsOf tB=1) (hy:P.underlying ty=some (.int .u8)) (cy:P.cellsOf ty=1)
  (hS: ∀ fuel,OpensN P fuel tS Rep.sb (fun _=>0)) (cS:P.cellsOf tS=6) (hT: ∀ fuel,OpensN P fuel tT Rep.tag Tg.wt) (cT:P.cellsOf tT=10) (hb:P.underlying tb=some .bool) (cb:P.cellsOf tb=1)
  (hW:P.underlying tW=some (.struct fw)) (hfw:fw.toList.map (fun f=>(f.type,f.offset))=[(tb,0),(ti,1),(tb,2),(ti,3)]) (cW:P.cellsOf tW=4) (hi:P.underlying ti=some (.int .i64)) (ci:P.cellsOf ti=1) (fuel:Nat) :
  OpensN P fuel t Rep.cert Ct.wt:=by
 intro H enc w sp held cs x h
 obtain ⟨m,xs,rfl,hx,hlx,hcl,hg⟩:=field_at ht h hf
 rw [hc] at hcl
 match xs,hlx,cs,hcl with
 | [x4,x5,x0,x1,x2,x3],_,[c0,c1,c2,c3,c4,c5,c6,c7,c8,c9,c10,c11,c12,c13,c14,c15,c16,c17,c18,c19,c20,c21,c22,c23],_ =>
  have e4:=hg 0 _ _ rfl rfl
  have e5:=hg 1 _ _ rfl rfl
  have e0:=hg 2 _ _ rfl rfl
  have e1:=hg 3 _ _ rfl rfl
  have e2:=hg 4 _ _ rfl rfl
  have e3:=hg 5 _ _ rfl rfl
  dsimp only at e0 e1 e2 e3 e4 e5
  rw [cK] at e4
  rw [cB] at e5
  rw [cS] at e0
  rw [cb] at e1
  rw [cT] at e2
  rw [cW] at e3
  obtain ⟨b4,y4,A4,n4,k4,q4,s4⟩:=key_at hK hfk cK hb cb hB cB hy cy e4
  obtain ⟨y5,A5,n5,k5,q5,s5,_⟩:=bytes_at hB hy cy e5
  obtain ⟨y0,r0,_⟩:=hS _ _ _ _ _ _ _ _ e0
  obtain ⟨b1,q1,_⟩:=DataW.trod_bool hb e1
  obtain ⟨y2,r2,w2⟩:=hT _ _ _ _ _ _ _ _ e2
  obtain ⟨v3,q3,i3⟩:=win_at hW hfw cW hb cb hi ci e3
  simp only [List.drop_zero,List.drop_succ_cons,List.take_succ_cons,List.take_zero,List.cons.injEq,and_true] at r0 q1 r2 q3 q4 q5
  obtain ⟨q4a,q4b⟩:=q4
  subst q1 q4a q4b q5
  refine ⟨⟨b4,y4,y5,y0,b1,y2,v3⟩,⟨A4,n4,k4,A5,n5,k5,_,rfl,s4,s5,[c3,c4,c5,c6,c7,c8],[c10,c11,c12,c13,c14,c15,c16,c17,c18,c19],?_,r0,r2⟩,?_⟩
  ·rw [← q3]
   rfl
  ·have hb:=in64_big i3
   unfold Ct.wt
   dsimp only
   rw [hx]
   simp only [Rows.uptoBulk,Rows.uptoBulkAll,List.map_cons,List.map_nil]
   omega
end
theorem opens_sb (fuel:Nat):OpensN Tryz.prog fuel 28 Rep.sb (fun _=>0):=
 opensN_sb Tryz.underlying28 (by kernel_rfl) (by kernel_rfl) Tryz.underlying24 (by kernel_rfl) (by kernel_rfl) Tryz.underlying5 (by kernel_rfl) Tryz.underlying4 Tryz.underlying22 Tryz.underlying5 Tryz.underlying26 Tryz.underlying25 (by kernel_rfl) Tryz.underlying3 (by kernel_rfl) (by kernel_rfl) (by kernel_rfl) (by kernel_rfl) (by kernel_rfl) fuel
theorem opens_cert (fuel:Nat):OpensN Tryz.prog fuel 39 Rep.cert Ct.wt:=
 opensN_cert Tryz.underlying39 (by kernel_rfl) (by kernel_rfl) Tryz.underlying24 (by kernel_rfl) (by kernel_rfl) Tryz.underlying22 (by kernel_rfl) Tryz.underlying5 (by kernel_rfl) opens_sb (by kernel_rfl) opens_tag (by kernel_rfl) Tryz.underlying4 (by kernel_rfl) Tryz.underlying37 (by kernel_rfl) (by kernel_rfl) Tryz.underlying2 (by kernel_rfl) fuel
theorem cellsOf_sb:CellsOf Rep.sb sbC:=by
 intro w S cs y h
 revert cs
 refine Sb.ind (P:=fun y=> ∀ {cs:List Value},Rep.sb.rd w S cs y→CellsR w S (sbC y) cs) (fun t ih cs h=>?_) y
 have h:Sb.rd w S cs t:=h
 rw [Sb.rd] at h
 obtain ⟨A1,n1,c1,A2,n2,c2,A3,n3,c3,rfl,h1,h2,h3,h4,h5,h6⟩:=h
 rw [sbC_eq]
 refine cellsR_cons (.v _ rfl) (cellsR_cons (.v _ rfl) (cellsR_cons (rd_bytes h1) (cellsR_cons ?_ (cellsR_cons (.v _ rfl) (cellsR_cons ?_ cellsR_nil)))))
 ·have:=rd_slice (r:=Rep.u8.slice) (f:=fun x=>[bytesD x]) (fun _=>rfl) (fun {y cs} _ hr=>?_) h2
  ·rwa [show (t.names.flatMap fun x=>[bytesD x])=t.names.map bytesD from by induction t.names with|nil=>rfl|cons x l ih=>rw [List.flatMap_cons,ih];rfl] at this
  ·obtain ⟨A,n,c,rfl,hs⟩:=hr
   exact cellsR_cons (rd_bytes hs) cellsR_nil
 ·exact rd_slice (r:=Rep.sb) sbC_len (fun hy hr=>ih _ hy hr) ⟨h3,h4,h5,h6⟩
theorem cellsR_wd {w:World} {S:Nat→Prop} (v:Wd):CellsR w S (wdC v) (wdV v):=by
 unfold wdC wdV
 exact cellsR_cons (.v _ rfl) (cellsR_cons (.v _ rfl) (cellsR_cons (.v _ rfl) (cellsR_cons (.v _ rfl) cellsR_nil)))
theorem cellsOf_cert:CellsOf Rep.cert ctC:=by
 intro w S cs y h
 obtain ⟨A1,n1,c1,A2,n2,c2,l,rfl,h1,h2,l1,l2,rfl,h3,h4⟩:=h
 exact cellsR_cons (.v _ rfl) (cellsR_cons (rd_bytes h1) (cellsR_cons (rd_bytes h2) (cellsR_app (cellsOf_sb h3) (cellsR_cons (.v _ rfl) (cellsR_app (cellsOf_tag h4) (cellsR_wd _))))))
end Go.Proofs.YtfammdfpgccnfaaGreatDoor
