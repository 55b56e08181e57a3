/- Parts of the proof, laid together. -/
import Derived.Test.YtfammdfpgccnfaaGreatDoorR8
set_option linter.unusedVariables false
set_option linter.unusedSimpArgs false
set_option maxRecDepth 100000
set_option maxHeartbeats 8000000
namespace Go.Proofs.YtfammdfpgccnfaaGreatDoor
open Go.RowKit
section
variable {G:Nat→Option (List D)}
theorem certreads_m (hG:G 0=some powD) (v:Tree) (hv:v.wt≤2000000):Spec Tryz.prog G 9 [.g (treeC v)] (.one (.c (.v (.bool true)))):=by
 have hw:=awake17_m (G:=G) hG
 have g1:=great_m (G:=G) v _ 0 rfl (by omega) (by omega)
 have t1:=cget_m (G:=G) hG v rfl (by omega)
 have r1:=rcGet_m (G:=G) v rfl (by omega)
 have s1:=sameref_m (G:=G) v v _ _ rfl rfl (by omega)
 rw [same_t rfl] at s1
 have z1:=rcsame_m (G:=G) Ct.none Ct.none none_fit none_fit rfl rfl
 rw [ctSame_refl] at z1
 have hu: ∀ c,refC v=some c→c.fit∧c.may=true∧c.val=v:=fun c h=>by
  obtain ⟨a,b,e⟩:=(getC_eq v).1 c h
  exact ⟨by rw [← a];exact readC_fit (refC_may h) hv,b,e⟩
 unfold cgetD at t1
 generalize v.great 0=q1 at *
 rw [ct_zero] at z1
 have ev:=treeC_eq v
 rw [ev] at g1 t1 r1 ⊢
 cases q1 with
 | true =>
  clear t1 r1 s1 z1
  refine spec_of Tryz.func9 rfl rfl rfl (by kernel_rfl) rfl fun K=>?_
  (repeat' (first|with_reducible (first|refine zA fun Kn hK=>?_|refine zB (by kernel_rfl) ?_|refine Nx.go ?_|go_step)|refine ⟨_,g1,?_⟩|refine ⟨_,hw,?_⟩|with_reducible (first|refine zI ?_|refine zJ ?_|refine zK ?_ ?_|refine zL ?_ ?_|refine zR (by kernel_rfl) ?_)|simp (maxSteps:=9^9) (disch:=omega) only [wq]|(with_reducible refine zM (fun hb=>?_) (fun hb=>?_)<;>(try simp only [hb]))|(with_reducible refine And.intro (by first|omega|(simp;done)|(simp;omega)) ?_)|simp (maxSteps:=9^9) -implicitDefEqProofs only [go_sem,true_and]))
 | false =>
  cases ho:refC v with
  | none =>
   rw [ho,Option.getD_none,ct_zero] at t1 r1
   rw [show (if (none:Option Ct).isSome=true then (0:Int) else 3)=3 from rfl] at t1
   rw [Option.isSome_none] at r1
   clear s1
   simp only [bD,bytesD] at *
   refine spec_of Tryz.func9 rfl rfl rfl (by kernel_rfl) rfl fun K=>?_
   (repeat' (first|with_reducible (first|refine zA fun Kn hK=>?_|refine zB (by kernel_rfl) ?_|refine Nx.go ?_|go_step)|refine ⟨_,g1,?_⟩|refine ⟨_,t1,?_⟩|refine ⟨_,r1,?_⟩|refine ⟨_,z1,?_⟩|refine ⟨_,hw,?_⟩|with_reducible (first|refine zI ?_|refine zJ ?_|refine zK ?_ ?_|refine zL ?_ ?_|refine zR (by kernel_rfl) ?_)|simp (maxSteps:=9^9) (disch:=omega) only [wq]|(with_reducible refine zM (fun hb=>?_) (fun hb=>?_)<;>(try simp only [hb]))|(with_reducible refine And.intro (by first|omega|(simp;done)|(simp;omega)) ?_)|simp (maxSteps:=9^9) -implicitDefEqProofs only [go_sem,Bool.true_and,decide_true,bne,Bool.not_true,Bool.not_false]))
  | some c =>
   obtain ⟨hf,hm,hval⟩:=hu c ho
   rw [ho,Option.getD_some] at t1 r1
   rw [show (if (some c).isSome=true then (0:Int) else 3)=0 from rfl] at t1
   rw [Option.isSome_some] at r1
   have p1:=cput_m (G:=G) hG c rfl hf
   unfold cputD at p1
   rw [hm,if_pos rfl,if_pos rfl,hval] at p1
   have y1:=rcsame_m (G:=G) c c hf hf rfl rfl
   rw [ctSame_refl] at y1
   obtain ⟨a0,a1,a2,a3,a4,a5,a6,a7,a8,a9,a10,a11,a12,a13,a14,a15,a16,a17,a18,a19,a20,a21,a22,a23,hca⟩:=ct_law c
   rw [hca] at t1 r1 p1 y1
   rw [ev] at p1 s1
   clear z1 hca hf hm hval hu ho
   simp only [bD,bytesD] at *
   refine spec_of Tryz.func9 rfl rfl rfl (by kernel_rfl) rfl fun K=>?_
   (repeat' (first|with_reducible (first|refine zA fun Kn hK=>?_|refine zB (by kernel_rfl) ?_|refine Nx.go ?_|go_step)|refine ⟨_,g1,?_⟩|refine ⟨_,t1,?_⟩|refine ⟨_,r1,?_⟩|refine ⟨_,p1,?_⟩|refine ⟨_,y1,?_⟩|refine ⟨_,s1,?_⟩|refine ⟨_,hw,?_⟩|with_reducible (first|refine zI ?_|refine zJ ?_|refine zK ?_ ?_|refine zL ?_ ?_|refine zR (by kernel_rfl) ?_)|simp (maxSteps:=9^9) (disch:=omega) only [wq]|(with_reducible refine zM (fun hb=>?_) (fun hb=>?_)<;>(try simp only [hb]))|(with_reducible refine And.intro (by first|omega|(simp;done)|(simp;omega)) ?_)|simp (maxSteps:=9^9) -implicitDefEqProofs only [go_sem,Bool.true_and,decide_true,bne,Bool.not_true,Bool.not_false]))
end
end Go.Proofs.YtfammdfpgccnfaaGreatDoor
namespace Go.Proofs.YtfammdfpgccnfaaGreatDoor
open Go.ChangeShapes Go.WideShapes Go.ChangeAt Go.RowKit Go.Deep
section
variable {P:Program} {t:TypeId}
end
end Go.Proofs.YtfammdfpgccnfaaGreatDoor
