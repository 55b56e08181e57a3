/- Parts of the proof, laid together. -/
import Derived.Test.YtdakeodebgggfaaGreatDoorA6
import Derived.Test.YtdakeodebgggfaaGreatDoorRows
set_option linter.unusedVariables false
set_option linter.unusedSimpArgs false
set_option maxRecDepth 100000
set_option maxHeartbeats 8000000
namespace Go.Proofs.YtdakeodebgggfaaGreatDoor
open Go.RowKit
section
variable {G:Nat→Option (List D)}
theorem erest_w {n:Nat} {ls:List D} {h r:List UInt8} (lh:h.length=64) (lr:r.length=32) (hs:Spec Tryz.prog G 88 [.c (.sl n ls)] (.one (.g (h.map bD)))) (hr:Spec Tryz.prog G 77 [.c (.sl 64 (h.map bD))] (.one (.g (r.map bD)))) :
    Spec Tryz.prog G 45 [.c (.sl n ls)] (.one (.g (r.map bD))):=by
  obtain ⟨z1,z2,z3⟩:=cd_facts (l:=h.map bD) (n:=64) (by rw [List.length_map,lh])
  obtain ⟨n1,n2,n3⟩:=cd_facts (l:=r.map bD) (n:=32) (by rw [List.length_map,lr])
  refine spec_of Tryz.func45 rfl rfl rfl (by kernel_rfl) rfl fun K=>?_
  (repeat' (first|with_reducible (first|refine zA fun Kn hK=>?_|refine zB (by kernel_rfl) ?_|refine Nx.go ?_|go_step)|(refine ⟨none,?_⟩)|(refine ⟨_,hs,?_⟩)|(refine ⟨_,hr,?_⟩)|with_reducible (first|refine zI ?_|refine zJ ?_|refine zK ?_ ?_|refine zL ?_ ?_|refine zR (by kernel_rfl) ?_)|simp (maxSteps:=9999999) (disch:=omega) only [wq]|(with_reducible refine zM (fun hb=>?_) (fun hb=>?_) <;> (try simp only [hb]))|(with_reducible refine And.intro (by first|omega|(simp;done)|(simp;omega)) ?_)|simp (maxSteps:=9999999) (implicitDefEqProofs:=false) only [go_sem,z1,z2,z3,n1,n2,n3,lh,lr,List.length_map,List.length_replicate,List.drop_replicate,List.append_nil]|fail))
theorem epub_w {seed N P k:List UInt8} {B Q:List D} (ls:seed.length=32) (lN:N.length=32) (lk:k.length=32) (h1:Spec Tryz.prog G 53 [.c (.sl 32 (seed.map bD))] (.many [.g (N.map bD),.c (bytesD P)]))
    (h2:Spec Tryz.prog G 46 [] (.one (.g B))) (h3:Spec Tryz.prog G 47 [.g B,.g (N.map bD)] (.one (.g Q))) (h4:Spec Tryz.prog G 54 [.g Q] (.one (.g (k.map bD)))) :
    Spec Tryz.prog G 23 [.c (bytesD seed)] (.many [.g (k.map bD),.c (.v (.int .i64 0))]):=by
  obtain ⟨z1,z2,z3⟩:=cd_facts (l:=N.map bD) (n:=32) (by rw [List.length_map,lN])
  obtain ⟨n1,n2,n3⟩:=cd_facts (l:=k.map bD) (n:=32) (by rw [List.length_map,lk])
  have d0:(((32:Nat):Int)==32)=true:=rfl
  refine spec_of Tryz.func23 rfl rfl rfl (by kernel_rfl) rfl fun K=>?_
  (repeat' (first|with_reducible (first|refine zA fun Kn hK=>?_|refine zB (by kernel_rfl) ?_|refine Nx.go ?_|go_step)|(refine ⟨none,?_⟩)|(refine ⟨_,h1,?_⟩)|(refine ⟨_,h2,?_⟩)|(refine ⟨_,h3,?_⟩)|(refine ⟨_,h4,?_⟩)|with_reducible (first|refine zI ?_|refine zJ ?_|refine zK ?_ ?_|refine zL ?_ ?_|refine zR (by kernel_rfl) ?_)|simp (maxSteps:=9999999) (disch:=omega) only [wq]|(with_reducible refine zM (fun hb=>?_) (fun hb=>?_) <;> (try simp only [hb]))|(with_reducible refine And.intro (by first|omega|(simp;done)|(simp;omega)) ?_)|simp (maxSteps:=9999999) (implicitDefEqProofs:=false) only [go_sem,ls,d0,z1,z2,z3,n1,n2,n3,lN,lk,List.length_map,List.length_replicate,List.drop_replicate,List.append_nil]|fail))
theorem epub_bad {seed:List UInt8} (ls:seed.length≠32) :
    Spec Tryz.prog G 23 [.c (bytesD seed)] (.many [.g ((List.replicate 32 (0:UInt8)).map bD),.c (.v (.int .i64 1))]):=by
  have d1:(seed.length==32)=false:=by simpa using ls
  have hz:List.replicate 32 (C.d (.v (.int .u8 0)))=((List.replicate 32 (0:UInt8)).map bD).map C.d:=rfl
  obtain ⟨z1,z2,z3⟩:=cd_facts (l:=(List.replicate 32 (0:UInt8)).map bD) (n:=32) (by rw [List.length_map,List.length_replicate])
  have lz:(List.replicate 32 (0:UInt8)).length=32:=List.length_replicate
  generalize List.replicate 32 (0:UInt8)=Z at *
  refine spec_of Tryz.func23 rfl rfl rfl (by kernel_rfl) rfl fun K=>?_
  (repeat' (first|with_reducible (first|refine zA fun Kn hK=>?_|refine zB (by kernel_rfl) ?_|refine Nx.go ?_|go_step)|fail|with_reducible (first|refine zI ?_|refine zJ ?_|refine zK ?_ ?_|refine zL ?_ ?_|refine zR (by kernel_rfl) ?_)|simp (maxSteps:=9999999) (disch:=omega) only [wq]|(with_reducible refine zM (fun hb=>?_) (fun hb=>?_) <;> (try simp only [hb]))|(with_reducible refine And.intro (by first|omega|(simp;done)|(simp;omega)) ?_)|simp (maxSteps:=9999999) (implicitDefEqProofs:=false) only [go_sem,d1,hz,lz,z1,z2,z3,int_beqL,List.length_map,List.length_replicate,List.drop_replicate,List.append_nil]|fail))
theorem esign_w {seed text N P k R r c s:List UInt8} {B Q1 Q2:List D} (ls:seed.length=32) (lN:N.length=32) (lk:k.length=32) (lR:R.length=32) (lr:r.length=32) (lc:c.length=32) (lss:s.length=32) (lP:P.length=32) (lB:B.length=20)
    (h1:Spec Tryz.prog G 53 [.c (.sl 32 (seed.map bD))] (.many [.g (N.map bD),.c (bytesD P)]))
    (h2:Spec Tryz.prog G 46 [] (.one (.g B))) (h3:Spec Tryz.prog G 47 [.g B,.g (N.map bD)] (.one (.g Q1))) (h4:Spec Tryz.prog G 54 [.g Q1] (.one (.g (k.map bD))))
    (h5:Spec Tryz.prog G 45 [.c (.sl 2 [bytesD P,bytesD text])] (.one (.g (r.map bD))))
    (h6:Spec Tryz.prog G 47 [.g B,.g (r.map bD)] (.one (.g Q2))) (h7:Spec Tryz.prog G 54 [.g Q2] (.one (.g (R.map bD))))
    (h8:Spec Tryz.prog G 45 [.c (.sl 3 [.sl 32 (R.map bD),.sl 32 (k.map bD),bytesD text])] (.one (.g (c.map bD))))
    (h9:Spec Tryz.prog G 56 [.g (c.map bD),.g (N.map bD),.g (r.map bD)] (.one (.g (s.map bD)))) :
    Spec Tryz.prog G 25 [.c (bytesD seed),.c (bytesD text)] (.many [.g ((R++s).map bD),.c (.v (.int .i64 0))]):=by
  obtain ⟨z1,z2,z3⟩:=cd_facts (l:=N.map bD) (n:=32) (by rw [List.length_map,lN])
  obtain ⟨n1,n2,n3⟩:=cd_facts (l:=k.map bD) (n:=32) (by rw [List.length_map,lk])
  obtain ⟨R1,R2,R3⟩:=cd_facts (l:=R.map bD) (n:=32) (by rw [List.length_map,lR])
  obtain ⟨r1,r2,r3⟩:=cd_facts (l:=r.map bD) (n:=32) (by rw [List.length_map,lr])
  obtain ⟨c1,c2,c3⟩:=cd_facts (l:=c.map bD) (n:=32) (by rw [List.length_map,lc])
  obtain ⟨s1,s2,s3⟩:=cd_facts (l:=s.map bD) (n:=32) (by rw [List.length_map,lss])
  have d0:(((32:Nat):Int)==32)=true:=rfl
  obtain ⟨b1,b2,b3⟩:=cd_facts (l:=B) (n:=20) lB
  obtain ⟨o1,o2,o3⟩:=cd_facts (l:=(R++s).map bD) (n:=64) (by rw [List.length_map,List.length_append,lR,lss])
  have lo:(R++s).length=64:=by rw [List.length_append,lR,lss]
  have m1:(min 32 64:Nat)=32:=rfl
  have m2:(min 32 32:Nat)=32:=rfl
  have lRC:((R.map bD).map C.d).length=32:=by rw [List.length_map,List.length_map,lR]
  have k1:=fun (B:List C)=>List.take_left' (l₂:=B) lRC
  have k2:List.drop 64 ((R.map bD).map C.d++List.replicate 32 (C.d (.v (.int .u8 0))))=[]:=List.drop_eq_nil_of_le (by rw [List.length_append,lRC,List.length_replicate];omega)
  have k3:(R.map bD).map C.d++(s.map bD).map C.d=((R++s).map bD).map C.d:=by rw [List.map_append,List.map_append]
  unfold bytesD at h5 h8
  rw [lP] at h5
  refine spec_of Tryz.func25 rfl rfl rfl (by kernel_rfl) rfl fun K=>?_
  (repeat' (first|with_reducible (first|refine zA fun Kn hK=>?_|refine zB (by kernel_rfl) ?_|refine Nx.go ?_|go_step)|(refine ⟨none,?_⟩)|(refine ⟨_,h1,?_⟩)|(refine ⟨_,h2,?_⟩)|(refine ⟨_,h3,?_⟩)|(refine ⟨_,h4,?_⟩)|(refine ⟨_,h5,?_⟩)|(refine ⟨_,h6,?_⟩)|(refine ⟨_,h7,?_⟩)|(refine ⟨_,h8,?_⟩)|(refine ⟨_,h9,?_⟩)|with_reducible (first|refine zI ?_|refine zJ ?_|refine zK ?_ ?_|refine zL ?_ ?_|refine zR (by kernel_rfl) ?_)|simp (maxSteps:=9999999) (disch:=omega) only [wq]|(with_reducible refine zM (fun hb=>?_) (fun hb=>?_) <;> (try simp only [hb]))|(with_reducible refine And.intro (by first|omega|(simp;done)|(simp;omega)) ?_)|simp (maxSteps:=9999999) (implicitDefEqProofs:=false) only [go_sem,ls,d0,z1,z2,z3,n1,n2,n3,R1,R2,R3,r1,r2,r3,c1,c2,c3,s1,s2,s3,b1,b2,b3,o1,o2,o3,lo,Nat.sub_self,List.replicate_zero,m1,m2,k1,k2,k3,lN,lk,lR,lr,lc,lss,lP,lB,List.length_map,List.length_replicate,List.drop_replicate,List.append_nil]|fail))
end
end Go.Proofs.YtdakeodebgggfaaGreatDoor
namespace Go.Proofs.YtdakeodebgggfaaGreatDoor
open Go.RowKit
section
variable {G:Nat→Option (List D)}
theorem ever_bad1 {pub text sig:List UInt8} (h:pub.length≠32∨sig.length≠64) :
    Spec Tryz.prog G 21 [.c (bytesD pub),.c (bytesD text),.c (bytesD sig)] (.one (.c (.v (.bool false)))):=by
  by_cases hp:pub.length=32
  · have d0:(((32:Nat):Int)==32)=true:=rfl
    have d1:(sig.length==64)=false:=by simpa [hp] using h
    refine spec_of Tryz.func21 rfl rfl rfl (by kernel_rfl) rfl fun K=>?_
    (repeat' (first|with_reducible (first|refine zA fun Kn hK=>?_|refine zB (by kernel_rfl) ?_|refine Nx.go ?_|go_step)|fail|with_reducible (first|refine zI ?_|refine zJ ?_|refine zK ?_ ?_|refine zL ?_ ?_|refine zR (by kernel_rfl) ?_)|simp (maxSteps:=9999999) (disch:=omega) only [wq]|(with_reducible refine zM (fun hb=>?_) (fun hb=>?_) <;> (try simp only [hb]))|(with_reducible refine And.intro (by first|omega|(simp;done)|(simp;omega)) ?_)|simp (maxSteps:=9999999) (implicitDefEqProofs:=false) only [go_sem,hp,d0,d1,int_beqL,List.length_map]|fail))
  · have d0:(pub.length==32)=false:=by simpa using hp
    refine spec_of Tryz.func21 rfl rfl rfl (by kernel_rfl) rfl fun K=>?_
    (repeat' (first|with_reducible (first|refine zA fun Kn hK=>?_|refine zB (by kernel_rfl) ?_|refine Nx.go ?_|go_step)|fail|with_reducible (first|refine zI ?_|refine zJ ?_|refine zK ?_ ?_|refine zL ?_ ?_|refine zR (by kernel_rfl) ?_)|simp (maxSteps:=9999999) (disch:=omega) only [wq]|(with_reducible refine zM (fun hb=>?_) (fun hb=>?_) <;> (try simp only [hb]))|(with_reducible refine And.intro (by first|omega|(simp;done)|(simp;omega)) ?_)|simp (maxSteps:=9999999) (implicitDefEqProofs:=false) only [go_sem,d0,int_beqL,List.length_map]|fail))
theorem ever_bad2 {pub text sig:List UInt8} (lp:pub.length=32) (ls:sig.length=64) (h1:Spec Tryz.prog G 43 [.c (.sl 32 ((sig.drop 32).map bD))] (.one (.c (.v (.bool false))))) :
    Spec Tryz.prog G 21 [.c (bytesD pub),.c (bytesD text),.c (bytesD sig)] (.one (.c (.v (.bool false)))):=by
  have d0:(((32:Nat):Int)==32)=true:=rfl
  have d1:(((64:Nat):Int)==64)=true:=rfl
  have hd:(sig.map bD).drop 32=(sig.drop 32).map bD:=by rw [List.map_drop]
  have ht:((sig.drop 32).map bD).take 32=(sig.drop 32).map bD:=List.take_of_length_le (by rw [List.length_map,List.length_drop,ls];omega)
  generalize sig.drop 32=S at *
  refine spec_of Tryz.func21 rfl rfl rfl (by kernel_rfl) rfl fun K=>?_
  (repeat' (first|with_reducible (first|refine zA fun Kn hK=>?_|refine zB (by kernel_rfl) ?_|refine Nx.go ?_|go_step)|(refine ⟨_,h1,?_⟩)|with_reducible (first|refine zI ?_|refine zJ ?_|refine zK ?_ ?_|refine zL ?_ ?_|refine zR (by kernel_rfl) ?_)|simp (maxSteps:=9999999) (disch:=omega) only [wq]|(with_reducible refine zM (fun hb=>?_) (fun hb=>?_) <;> (try simp only [hb]))|(with_reducible refine And.intro (by first|omega|(simp;done)|(simp;omega)) ?_)|simp (maxSteps:=9999999) (implicitDefEqProofs:=false) only [go_sem,lp,ls,d0,d1,hd,ht,List.length_map]|fail))
theorem ever_w {pub text sig k:List UInt8} {PA PR B Q1 Q2 Q3:List D} {e1 e2:Int} {o1 o2 sm:Bool} (lp:pub.length=32) (ls:sig.length=64) (lk:k.length=32) (lA:PA.length=20) (lR:PR.length=20) (lB:B.length=20)
    (he1:(e1==0)=o1) (he2:(e2==0)=o2)
    (h1:Spec Tryz.prog G 43 [.c (.sl 32 ((sig.drop 32).map bD))] (.one (.c (.v (.bool true)))))
    (h2:Spec Tryz.prog G 44 [.c (.sl 32 (pub.map bD))] (.many [.g PA,.c (.v (.int .i64 e1))]))
    (h3:Spec Tryz.prog G 44 [.c (.sl 32 ((sig.take 32).map bD))] (.many [.g PR,.c (.v (.int .i64 e2))]))
    (h4:o1=true→o2=true→Spec Tryz.prog G 45 [.c (.sl 3 [.sl 32 ((sig.take 32).map bD),.sl 32 (pub.map bD),bytesD text])] (.one (.g (k.map bD))))
    (h5:Spec Tryz.prog G 46 [] (.one (.g B)))
    (h6:o1=true→o2=true→Spec Tryz.prog G 47 [.g B,.g ((sig.drop 32).map bD)] (.one (.g Q1)))
    (h7:o1=true→o2=true→Spec Tryz.prog G 47 [.g PA,.g (k.map bD)] (.one (.g Q2)))
    (h8:o1=true→o2=true→Spec Tryz.prog G 49 [.g PR,.g Q2] (.one (.g Q3)))
    (h9:o1=true→o2=true→Spec Tryz.prog G 48 [.g Q1,.g Q3] (.one (.c (.v (.bool sm))))) :
    Spec Tryz.prog G 21 [.c (bytesD pub),.c (bytesD text),.c (bytesD sig)] (.one (.c (.v (.bool (o1&&(o2&&sm)))))):=by
  have d0:(((32:Nat):Int)==32)=true:=rfl
  have d1:(((64:Nat):Int)==64)=true:=rfl
  have hd:(sig.map bD).drop 32=(sig.drop 32).map bD:=by rw [List.map_drop]
  have ht:((sig.drop 32).map bD).take 32=(sig.drop 32).map bD:=List.take_of_length_le (by rw [List.length_map,List.length_drop,ls];omega)
  have hu:(sig.map bD).take 32=(sig.take 32).map bD:=by rw [List.map_take]
  have lt:(sig.take 32).length=32:=by rw [List.length_take,ls];rfl
  have ld:(sig.drop 32).length=32:=by rw [List.length_drop,ls]
  obtain ⟨a1,a2,a3⟩:=cd_facts lA
  obtain ⟨r1,r2,r3⟩:=cd_facts lR
  obtain ⟨b1,b2,b3⟩:=cd_facts lB
  obtain ⟨c1,c2,c3⟩:=cd_facts (l:=k.map bD) (n:=32) (by rw [List.length_map,lk])
  obtain ⟨t1,t2,t3⟩:=cd_facts (l:=(sig.drop 32).map bD) (n:=32) (by rw [List.length_map,ld])
  unfold bytesD at h4
  generalize sig.drop 32=S at *
  generalize sig.take 32=R at *
  cases o1 with
  | false =>
    rw [Bool.false_and]
    refine spec_of Tryz.func21 rfl rfl rfl (by kernel_rfl) rfl fun K=>?_
    (repeat' (first|with_reducible (first|refine zA fun Kn hK=>?_|refine zB (by kernel_rfl) ?_|refine Nx.go ?_|go_step)|(refine ⟨_,h1,?_⟩)|(refine ⟨_,h2,?_⟩)|(refine ⟨_,h3,?_⟩)|with_reducible (first|refine zI ?_|refine zJ ?_|refine zK ?_ ?_|refine zL ?_ ?_|refine zR (by kernel_rfl) ?_)|simp (maxSteps:=9999999) (disch:=omega) only [wq]|(with_reducible refine zM (fun hb=>?_) (fun hb=>?_) <;> (try simp only [hb]))|(with_reducible refine And.intro (by first|omega|(simp;done)|(simp;omega)) ?_)|simp (maxSteps:=9999999) (implicitDefEqProofs:=false) only [go_sem,lp,ls,d0,d1,hd,ht,hu,lt,ld,lA,lR,lk,lB,Nat.sub_self,List.replicate_zero,a1,a2,a3,r1,r2,r3,he1,Bool.not_false,List.length_map,List.length_replicate,List.drop_replicate,List.append_nil]|fail))
  | true =>
    cases o2 with
    | false =>
      rw [Bool.true_and,Bool.false_and]
      refine spec_of Tryz.func21 rfl rfl rfl (by kernel_rfl) rfl fun K=>?_
      (repeat' (first|with_reducible (first|refine zA fun Kn hK=>?_|refine zB (by kernel_rfl) ?_|refine Nx.go ?_|go_step)|(refine ⟨_,h1,?_⟩)|(refine ⟨_,h2,?_⟩)|(refine ⟨_,h3,?_⟩)|with_reducible (first|refine zI ?_|refine zJ ?_|refine zK ?_ ?_|refine zL ?_ ?_|refine zR (by kernel_rfl) ?_)|simp (maxSteps:=9999999) (disch:=omega) only [wq]|(with_reducible refine zM (fun hb=>?_) (fun hb=>?_) <;> (try simp only [hb]))|(with_reducible refine And.intro (by first|omega|(simp;done)|(simp;omega)) ?_)|simp (maxSteps:=9999999) (implicitDefEqProofs:=false) only [go_sem,lp,ls,d0,d1,hd,ht,hu,lt,ld,lA,lR,lk,lB,Nat.sub_self,List.replicate_zero,a1,a2,a3,r1,r2,r3,he1,he2,Bool.not_false,Bool.not_true,List.length_map,List.length_replicate,List.drop_replicate,List.append_nil]|fail))
    | true =>
      have h4:=h4 rfl rfl
      have h6:=h6 rfl rfl
      have h7:=h7 rfl rfl
      have h8:=h8 rfl rfl
      have h9:=h9 rfl rfl
      rw [Bool.true_and,Bool.true_and]
      refine spec_of Tryz.func21 rfl rfl rfl (by kernel_rfl) rfl fun K=>?_
      (repeat' (first|with_reducible (first|refine zA fun Kn hK=>?_|refine zB (by kernel_rfl) ?_|refine Nx.go ?_|go_step)|(refine ⟨none,?_⟩)|(refine ⟨_,h1,?_⟩)|(refine ⟨_,h2,?_⟩)|(refine ⟨_,h3,?_⟩)|(refine ⟨_,h4,?_⟩)|(refine ⟨_,h5,?_⟩)|(refine ⟨_,h6,?_⟩)|(refine ⟨_,h7,?_⟩)|(refine ⟨_,h8,?_⟩)|(refine ⟨_,h9,?_⟩)|with_reducible (first|refine zI ?_|refine zJ ?_|refine zK ?_ ?_|refine zL ?_ ?_|refine zR (by kernel_rfl) ?_)|simp (maxSteps:=9999999) (disch:=omega) only [wq]|(with_reducible refine zM (fun hb=>?_) (fun hb=>?_) <;> (try simp only [hb]))|(with_reducible refine And.intro (by first|omega|(simp;done)|(simp;omega)) ?_)|simp (maxSteps:=9999999) (implicitDefEqProofs:=false) only [go_sem,lp,ls,d0,d1,hd,ht,hu,lt,ld,lA,lR,lk,lB,Nat.sub_self,List.replicate_zero,a1,a2,a3,r1,r2,r3,b1,b2,b3,c1,c2,c3,t1,t2,t3,he1,he2,Bool.not_false,Bool.not_true,List.length_map,List.length_replicate,List.drop_replicate,List.append_nil]|fail))
end
end Go.Proofs.YtdakeodebgggfaaGreatDoor
namespace Go.Proofs.YtdakeodebgggfaaGreatDoor
open Go.RowKit
theorem ex_bytesN {n:Nat} {y:List UInt8} {p:List UInt8→Prop} (hl:y.length=n) (h:p y): ∃ x:List UInt8,(x.length=n∧y.map bD=x.map bD)∧p x:=⟨y,⟨hl,rfl⟩,h⟩
section
variable {G:Nat→Option (List D)}
theorem rver_bad1 {pub text sig:List UInt8} (h:pub.length≠32∨sig.length≠64) :
    Spec Tryz.prog G 22 [.c (bytesD pub),.c (bytesD text),.c (bytesD sig)] (.one (.c (.v (.bool false)))):=by
  by_cases hp:pub.length=32
  · have d0:(((32:Nat):Int)==32)=true:=rfl
    have d1:(sig.length==64)=false:=by simpa [hp] using h
    refine spec_of Tryz.func22 rfl rfl rfl (by kernel_rfl) rfl fun K=>?_
    (repeat' (first|with_reducible (first|refine zA fun Kn hK=>?_|refine zB (by kernel_rfl) ?_|refine Nx.go ?_|go_step)|fail|with_reducible (first|refine zI ?_|refine zJ ?_|refine zK ?_ ?_|refine zL ?_ ?_|refine zR (by kernel_rfl) ?_)|simp (maxSteps:=9999999) (disch:=omega) only [wq]|(with_reducible refine zM (fun hb=>?_) (fun hb=>?_) <;> (try simp only [hb]))|(with_reducible refine And.intro (by first|omega|(simp;done)|(simp;omega)) ?_)|simp (maxSteps:=9999999) (implicitDefEqProofs:=false) only [go_sem,hp,d0,d1,int_beqL,List.length_map]|fail))
  · have d0:(pub.length==32)=false:=by simpa using hp
    refine spec_of Tryz.func22 rfl rfl rfl (by kernel_rfl) rfl fun K=>?_
    (repeat' (first|with_reducible (first|refine zA fun Kn hK=>?_|refine zB (by kernel_rfl) ?_|refine Nx.go ?_|go_step)|fail|with_reducible (first|refine zI ?_|refine zJ ?_|refine zK ?_ ?_|refine zL ?_ ?_|refine zR (by kernel_rfl) ?_)|simp (maxSteps:=9999999) (disch:=omega) only [wq]|(with_reducible refine zM (fun hb=>?_) (fun hb=>?_) <;> (try simp only [hb]))|(with_reducible refine And.intro (by first|omega|(simp;done)|(simp;omega)) ?_)|simp (maxSteps:=9999999) (implicitDefEqProofs:=false) only [go_sem,d0,int_beqL,List.length_map]|fail))
theorem rver_bad2 {pub text sig:List UInt8} (lp:pub.length=32) (ls:sig.length=64) (h1:Spec Tryz.prog G 50 [.c (.sl 32 ((sig.drop 32).map bD))] (.one (.c (.v (.bool false))))) :
    Spec Tryz.prog G 22 [.c (bytesD pub),.c (bytesD text),.c (bytesD sig)] (.one (.c (.v (.bool false)))):=by
  have d0:(((32:Nat):Int)==32)=true:=rfl
  have d1:(((64:Nat):Int)==64)=true:=rfl
  have hd:(sig.map bD).drop 32=(sig.drop 32).map bD:=by rw [List.map_drop]
  have ht:((sig.drop 32).map bD).take 32=(sig.drop 32).map bD:=List.take_of_length_le (by rw [List.length_map,List.length_drop,ls];omega)
  generalize sig.drop 32=S at *
  refine spec_of Tryz.func22 rfl rfl rfl (by kernel_rfl) rfl fun K=>?_
  (repeat' (first|with_reducible (first|refine zA fun Kn hK=>?_|refine zB (by kernel_rfl) ?_|refine Nx.go ?_|go_step)|(refine ⟨_,h1,?_⟩)|with_reducible (first|refine zI ?_|refine zJ ?_|refine zK ?_ ?_|refine zL ?_ ?_|refine zR (by kernel_rfl) ?_)|simp (maxSteps:=9999999) (disch:=omega) only [wq]|(with_reducible refine zM (fun hb=>?_) (fun hb=>?_) <;> (try simp only [hb]))|(with_reducible refine And.intro (by first|omega|(simp;done)|(simp;omega)) ?_)|simp (maxSteps:=9999999) (implicitDefEqProofs:=false) only [go_sem,lp,ls,d0,d1,hd,ht,List.length_map]|fail))
theorem rver_w {pub text sig k x y:List UInt8} {PA PR B Q1 Q2 Q3:List D} {o1 o2:Bool} (lp:pub.length=32) (ls:sig.length=64) (lk:k.length=32) (lA:PA.length=48) (lR:PR.length=48) (lB:B.length=48) (l1:Q1.length=48) (l3:Q3.length=48) (lx:x.length=32) (ly:y.length=32)
    (h1:Spec Tryz.prog G 50 [.c (.sl 32 ((sig.drop 32).map bD))] (.one (.c (.v (.bool true)))))
    (h2:Spec Tryz.prog G 51 [.c (.sl 32 (pub.map bD))] (.many [.g PA,.c (.v (.bool o1))]))
    (h3:Spec Tryz.prog G 51 [.c (.sl 32 ((sig.take 32).map bD))] (.many [.g PR,.c (.v (.bool o2))]))
    (h4:o1=true→o2=true→Spec Tryz.prog G 33 [.c (.sl 3 [.sl 32 ((sig.take 32).map bD),.sl 32 (pub.map bD),bytesD text])] (.one (.c (.sl 32 (k.map bD)))))
    (h5:Spec Tryz.prog G 28 [] (.one (.g B)))
    (h6:o1=true→o2=true→Spec Tryz.prog G 29 [.g B,.c (.sl 32 ((sig.drop 32).map bD))] (.one (.g Q1)))
    (h7:o1=true→o2=true→Spec Tryz.prog G 29 [.g PA,.c (.sl 32 (k.map bD))] (.one (.g Q2)))
    (h8:o1=true→o2=true→Spec Tryz.prog G 52 [.g PR,.g Q2] (.one (.g Q3)))
    (h9:o1=true→o2=true→Spec Tryz.prog G 30 [.g Q1] (.one (.c (.sl 32 (x.map bD)))))
    (h10:o1=true→o2=true→Spec Tryz.prog G 30 [.g Q3] (.one (.c (.sl 32 (y.map bD))))) :
    Spec Tryz.prog G 22 [.c (bytesD pub),.c (bytesD text),.c (bytesD sig)] (.one (.c (.v (.bool (o1&&(o2&&(x==y))))))):=by
  have d0:(((32:Nat):Int)==32)=true:=rfl
  have d1:(((64:Nat):Int)==64)=true:=rfl
  have hd:(sig.map bD).drop 32=(sig.drop 32).map bD:=by rw [List.map_drop]
  have ht:((sig.drop 32).map bD).take 32=(sig.drop 32).map bD:=List.take_of_length_le (by rw [List.length_map,List.length_drop,ls];omega)
  have hu:(sig.map bD).take 32=(sig.take 32).map bD:=by rw [List.map_take]
  have lt:(sig.take 32).length=32:=by rw [List.length_take,ls];rfl
  have ld:(sig.drop 32).length=32:=by rw [List.length_drop,ls]
  obtain ⟨a1,a2,a3⟩:=cd_facts lA
  obtain ⟨r1,r2,r3⟩:=cd_facts lR
  obtain ⟨b1,b2,b3⟩:=cd_facts lB
  obtain ⟨q1,q2,q3⟩:=cd_facts l1
  obtain ⟨t1,t2,t3⟩:=cd_facts l3
  unfold bytesD at h4
  generalize sig.drop 32=S at *
  generalize sig.take 32=R at *
  cases o1 with
  | false =>
    rw [Bool.false_and]
    refine spec_of Tryz.func22 rfl rfl rfl (by kernel_rfl) rfl fun K=>?_
    (repeat' (first|with_reducible (first|refine zA fun Kn hK=>?_|refine zB (by kernel_rfl) ?_|refine Nx.go ?_|go_step)|(refine ⟨_,h1,?_⟩)|(refine ⟨_,h2,?_⟩)|(refine ⟨_,h3,?_⟩)|with_reducible (first|refine zI ?_|refine zJ ?_|refine zK ?_ ?_|refine zL ?_ ?_|refine zR (by kernel_rfl) ?_)|simp (maxSteps:=9999999) (disch:=omega) only [wq]|(with_reducible refine zM (fun hb=>?_) (fun hb=>?_) <;> (try simp only [hb]))|(with_reducible refine And.intro (by first|omega|(simp;done)|(simp;omega)) ?_)|simp (maxSteps:=9999999) (implicitDefEqProofs:=false) only [go_sem,lp,ls,d0,d1,hd,ht,hu,lt,ld,lA,lR,a1,a2,a3,r1,r2,r3,Bool.not_false,List.length_map,List.length_replicate,List.drop_replicate,List.append_nil]|fail))
  | true =>
    cases o2 with
    | false =>
      rw [Bool.true_and,Bool.false_and]
      refine spec_of Tryz.func22 rfl rfl rfl (by kernel_rfl) rfl fun K=>?_
      (repeat' (first|with_reducible (first|refine zA fun Kn hK=>?_|refine zB (by kernel_rfl) ?_|refine Nx.go ?_|go_step)|(refine ⟨_,h1,?_⟩)|(refine ⟨_,h2,?_⟩)|(refine ⟨_,h3,?_⟩)|with_reducible (first|refine zI ?_|refine zJ ?_|refine zK ?_ ?_|refine zL ?_ ?_|refine zR (by kernel_rfl) ?_)|simp (maxSteps:=9999999) (disch:=omega) only [wq]|(with_reducible refine zM (fun hb=>?_) (fun hb=>?_) <;> (try simp only [hb]))|(with_reducible refine And.intro (by first|omega|(simp;done)|(simp;omega)) ?_)|simp (maxSteps:=9999999) (implicitDefEqProofs:=false) only [go_sem,lp,ls,d0,d1,hd,ht,hu,lt,ld,lA,lR,a1,a2,a3,r1,r2,r3,Bool.not_false,Bool.not_true,List.length_map,List.length_replicate,List.drop_replicate,List.append_nil]|fail))
    | true =>
      have h4:=h4 rfl rfl
      have h6:=h6 rfl rfl
      have h7:=h7 rfl rfl
      have h8:=h8 rfl rfl
      have h9:=h9 rfl rfl
      have h10:=h10 rfl rfl
      rw [Bool.true_and,Bool.true_and]
      refine spec_of Tryz.func22 rfl rfl rfl (by kernel_rfl) rfl fun K=>?_
      (repeat' (first|with_reducible (first|refine zA fun Kn hK=>?_|refine zB (by kernel_rfl) ?_|refine Nx.go ?_|go_step)|(refine ⟨none,?_⟩)|(refine ⟨_,h1,?_⟩)|(refine ⟨_,h2,?_⟩)|(refine ⟨_,h3,?_⟩)|(refine ⟨_,h4,?_⟩)|(refine ⟨_,h5,?_⟩)|(refine ⟨_,h6,?_⟩)|(refine ⟨_,h7,?_⟩)|(refine ⟨_,h8,?_⟩)|(refine ⟨_,h9,?_⟩)|(refine ⟨_,h10,?_⟩)|(with_reducible refine ex_bytesN lx ?_)|(with_reducible refine ex_bytesN ly ?_)|with_reducible (first|refine zI ?_|refine zJ ?_|refine zK ?_ ?_|refine zL ?_ ?_|refine zR (by kernel_rfl) ?_)|simp (maxSteps:=9999999) (disch:=omega) only [wq]|(with_reducible refine zM (fun hb=>?_) (fun hb=>?_) <;> (try simp only [hb]))|(with_reducible refine And.intro (by first|omega|(simp;done)|(simp;omega)) ?_)|simp (maxSteps:=9999999) (implicitDefEqProofs:=false) only [go_sem,lp,ls,d0,d1,hd,ht,hu,lt,ld,lA,lR,lk,lB,l1,l3,lx,ly,Nat.sub_self,List.replicate_zero,a1,a2,a3,r1,r2,r3,b1,b2,b3,q1,q2,q3,t1,t2,t3,Bool.not_false,Bool.not_true,List.length_map,List.length_replicate,List.drop_replicate,List.append_nil]|fail))
end
end Go.Proofs.YtdakeodebgggfaaGreatDoor
namespace Go.Proofs.YtdakeodebgggfaaGreatDoor
open Go.RowKit
theorem rd_of_sl {w:World} {S:Nat→Prop} {A:Option Addr} {n c:Nat} {xs:List UInt8} (h:Rep.u8.sl w S A n c xs):RD w S (bytesD xs) (.slice A n c):=by
  obtain ⟨rfl,hnc,hc,hh⟩:=h
  by_cases h0:0<xs.length
  · obtain ⟨b,o,rfl,hb,hr⟩:=hh h0
    refine .sl _ c b o _ (fun i=>((xs.map fun y=>Value.int .u8 (y.toNat:Int))[i]?).getD undef) hnc hc hb (fun i x hx=>?_) fun i x hx=>?_
    all_goals
      rw [List.getElem?_map] at hx
      cases hl:xs[i]? with
      | none=>rw [hl] at hx;cases hx
      | some y =>
        rw [hl] at hx
        have hx:some (bD y)=some x:=hx
        injection hx with hx
        subst hx
        have e:(xs.map fun y=>Value.int .u8 (y.toNat:Int))[i]?=some (.int .u8 (y.toNat:Int)):=by simp [hl]
        rw [e]
        first
          | exact .v _ rfl
          | (obtain ⟨es,he,hcc⟩:=hr i y hl
             have he:es=[.int .u8 (y.toNat:Int)]:=he
             subst he
             have:=hcc 0 _ rfl
             simpa [Rep.u8] using this)
  · have:xs=[]:=List.eq_nil_of_length_eq_zero (by omega)
    subst this
    exact .nil A c hc
theorem rows_sl {w:World} {S:Nat→Prop} {ls:List (List UInt8)} {u:Value} (h:RD w S (.sl ls.length (ls.map bytesD)) u): ∃ A c,u= .slice A ls.length c∧Rep.u8.slice.sl w S A ls.length c ls:=by
  obtain ⟨A,c,rfl,hn,hcm,hh⟩:=rd_sl h
  refine ⟨A,c,rfl,rfl,hn,hcm,fun hp=>?_⟩
  rcases hh with ⟨h0,_⟩|⟨bk,o,us,rfl,hb',h1,h2⟩
  · omega
  · refine ⟨bk,o,rfl,hb',fun i x hx=>?_⟩
    have hi:(ls.map bytesD)[i]?=some (bytesD x):=by rw [List.getElem?_map,hx];rfl
    obtain ⟨B,k,hB,hs⟩:=bytes_sl (h2 i _ hi) rfl
    refine ⟨[.slice B x.length k],⟨B,_,k,rfl,hs⟩,fun j v hv=>?_⟩
    cases j with
    | succ j=>simp at hv
    | zero =>
      simp at hv
      subst hv
      have:=h1 i _ hi
      rw [hB] at this
      simpa [Rep.slice] using this
theorem of_m {G:Nat→Option (List D)} (ls:List (List UInt8)) (hb:ls.flatten.length≤1000000000):Spec Tryz.prog G 88 [.c (.sl ls.length (ls.map bytesD))] (.one (.g ((shaL ls.flatten).map bD))):=by
  intro w S vs hS hT hA
  obtain ⟨hl,hc⟩:=hA
  match vs,hl with
  | [u],_ =>
    have hu:RD w S (.sl ls.length (ls.map bytesD)) u:=hc 0 _ _ rfl rfl
    obtain ⟨A,c,rfl,hsl⟩:=rows_sl hu
    refine Calls.mono (of_c ls A ls.length c w (Rep.sl_more hsl hS) hb) ?_
    rintro e w1 ⟨rfl,hB1⟩
    generalize shaL ls.flatten=m at *
    refine ⟨⟨hB1.os,hB1.tape,hB1.output,hB1.size,fun k hk _=>hB1.block k hk⟩,_,rfl,⟨m.map fun x=>Value.int .u8 (x.toNat:Int),by simp [bcells],by simp,fun i x v hx hv=>?_⟩⟩
    simp only [List.getElem?_map] at hx hv
    cases hq:m[i]? with
    | none=>rw [hq] at hx;cases hx
    | some y =>
      rw [hq] at hx hv
      simp at hx hv
      subst hx hv
      exact .v _ rfl
theorem own_spec {G:Nat→Option (List D)} {f:FuncId} {args:List DV} {m:List UInt8} (h: ∀ (w:World) (S:Nat→Prop) (vs:List Value),(∀ b,S b→b<w.heap.size)→DArgs w S args vs→Calls Tryz.prog f vs.toArray w (OwnPost w m)):Spec Tryz.prog G f args (.one (.c (bytesD m))):=by
  intro w S vs hS hT hA
  refine Calls.mono (h w S vs hS hA) ?_
  rintro e w1 ⟨v,rfl,ho,hB1⟩
  obtain ⟨B,k,rfl,hsl⟩:=Rep.own_sl ho
  refine ⟨⟨hB1.os,hB1.tape,hB1.output,hB1.size,fun k hk _=>hB1.block k hk⟩,_,rfl,rd_of_sl (Rep.sl_more hsl fun b hb=>?_)⟩
  rcases hb with hb|hb
  · exact hb.elim
  · exact .inr (Rep.own_lt ho _ hb)
theorem refsum_m {G:Nat→Option (List D)} (b:List UInt8) (hb:b.length≤1000000000):Spec Tryz.prog G 57 [.c (bytesD b)] (.one (.c (bytesD (shaL b)))):=by
  refine own_spec fun w S vs hS hA=>?_
  obtain ⟨hl,hc⟩:=hA
  match vs,hl with
  | [u],_ =>
    obtain ⟨A,c,rfl,hs⟩:=bytes_sl (hc 0 _ _ rfl rfl) rfl
    have hr:=refsum_c b A _ c S w hs hS hb
    rwa [ref_sum] at hr
theorem refjoin_m {G:Nat→Option (List D)} (ls:List (List UInt8)) (hb:ls.flatten.length≤1000000000):Spec Tryz.prog G 70 [.c (.sl ls.length (ls.map bytesD))] (.one (.c (bytesD ls.flatten))):=by
  refine own_spec fun w S vs hS hA=>?_
  obtain ⟨hl,hc⟩:=hA
  match vs,hl with
  | [u],_ =>
    have hu:RD w S (.sl ls.length (ls.map bytesD)) u:=hc 0 _ _ rfl rfl
    obtain ⟨A,c,rfl,hsl⟩:=rows_sl hu
    exact join_c ls A ls.length c w (Rep.sl_more hsl hS) hb
end Go.Proofs.YtdakeodebgggfaaGreatDoor
namespace Go.Proofs.YtdakeodebgggfaaGreatDoor
open Go.RowKit
section
variable {G:Nat→Option (List D)}
theorem rbytes_o (x y z:F):Spec Tryz.prog G 30 [.g (p3D x y z)] (.obj 12 (.a (.c (.row 12 1 0 32 .grow))) ⟨5,((encB (x*finv z,y*finv z)).map bD).map C.d,false,false⟩):=by
  have hi:Spec Tryz.prog G 60 [.g (rD1 z)] (.one (.g (rD1 (finv z)))):=refinv_m z
  have hm: ∀ x y:F,Spec Tryz.prog G 59 [.g (rD1 x),.g (rD1 y)] (.one (.g (rD1 (x*y)))):=fun x y=>refmul_m x y
  have hy:=hm y (finv z)
  have hx:=hm x (finv z)
  clear hm
  have hb:=refbytes_o (G:=G) (y*finv z)
  have he:encB (x*finv z,y*finv z)=if oddF (x*finv z) then setTop (leB (y*finv z).val) else leB (y*finv z).val:=rfl
  rw [he]
  have lb:=leB_len (y*finv z).val
  have ht:=leB_top (y*finv z)
  have ho:=refC_odd (x*finv z)
  have hg0:=numsC_get (l:=refC (x*finv z)) (k:=0) (by rw [refC_len];omega)
  have hg0':(rC1 (x*finv z))[0]?=some (C.d (D.v (.int .u64 ((refC (x*finv z)).getD 0 0:Nat)))):=hg0
  have hmm:(refC (x*finv z)).getD 0 0%2%18446744073709551616=(refC (x*finv z)).getD 0 0%2:=Nat.mod_eq_of_lt (by omega)
  change Spec Tryz.prog G _ [.g (rD1 (y*finv z))] _ at hb
  clear hg0
  generalize leB (y*finv z).val=b at *
  generalize hoo:oddF (x*finv z)=od at *
  have hg:((b.map bD).map C.d)[31]?=some (C.d (D.v (.int .u8 ((b.getD 31 0).toNat:Int)))):=by
    rw [List.getElem?_map,List.getElem?_map,topB_get lb]
    rfl
  have hset:=bytesC_set (l:=b) (k:=31) (v:=(b.getD 31 0).toNat%128+128) (by omega)
  rw [← show setTop b=b.set 31 (UInt8.ofNat ((b.getD 31 0).toNat%128+128)) from rfl,show (b.getD 31 0).toNat%128+128=(b.getD 31 0).toNat+128 by omega] at hset
  have hw:IntKind.u8.wrap (((b.getD 31 0).toNat:Int)+128)=(((b.getD 31 0).toNat+128:Nat):Int):=by
    rw [w8_add,Nat.mod_eq_of_lt (by omega)]
  have ls:(setTop b).length=32:=by rw [setTop,List.length_set,lb]
  obtain ⟨z1,z2,z3⟩:=cd_facts (l:=b.map bD) (n:=32) (by rw [List.length_map,lb])
  obtain ⟨z4,z5,z6⟩:=cd_facts (l:=(setTop b).map bD) (n:=32) (by rw [List.length_map,ls])
  generalize setTop b=o at *
  have l1:=rD1_len
  have l2:=rC1_len
  have e1: ∀ x,(rD1 x).map C.d=rC1 x:=fun _=>rfl
  have t1:=fun (x:F) (B:List C)=>tk16 (B:=B) (rC1_len x)
  have t2:=fun (x:F) (B:List C)=>tk32 (B:=B) (rC1_len x)
  have t3:=fun (x:F) (B:List C)=>tk48 (B:=B) (rC1_len x)
  have d1:=fun (x:F) (B:List C)=>dp16 (B:=B) (rC1_len x)
  have d2:=fun (x:F) (B:List C)=>dp32 (B:=B) (rC1_len x)
  have d3:=fun (x:F) (B:List C)=>dp48 (B:=B) (rC1_len x)
  have s1:=fun (x:F)=>(cd_facts (rD1_len x)).1
  have s2:=fun (x:F)=>(cd_facts (rD1_len x)).2.1
  have s3:=fun (x:F)=>(cd_facts (rD1_len x)).2.2
  simp only [e1] at s2 s3
  have dn: ∀ x,dOnly (rC1 x)=some (rD1 x):=fun x=>by simp only [rC1,go_sem]
  unfold p3D
  cases od <;> simp only [Bool.false_eq_true,if_true,if_false]
  all_goals
    refine specO_go Tryz.func30 rfl rfl rfl (by kernel_rfl) (by (iterate 2 ((try simp (maxSteps:=9999999) (implicitDefEqProofs:=false) only [go_sem,true_and]);(try simp (maxSteps:=9999999) (disch:=omega) only [wq])))) (by (iterate 2 ((try simp (maxSteps:=9999999) (implicitDefEqProofs:=false) only [go_sem,List.all_cons,List.all_nil]);(try simp (maxSteps:=9999999) (disch:=omega) only [wq])))) fun K m=>?_
    (repeat' (first|with_reducible (first|refine zA fun Kn hK=>?_|refine zB (by kernel_rfl) ?_|refine Nx.go ?_|go_step)|(refine ⟨_,hi,?_⟩)|(refine ⟨_,hy,?_⟩)|(refine ⟨_,hx,?_⟩)|(refine ⟨_,hb,?_⟩)|(refine raw_t (by rfl) (by rfl) (by rfl))|with_reducible (first|refine zI ?_|refine zJ ?_|refine zK ?_ ?_|refine zL ?_ ?_|refine zR (by kernel_rfl) ?_)|simp (maxSteps:=9999999) (disch:=omega) only [wq]|(with_reducible refine zM (fun hb=>?_) (fun hb=>?_) <;> (try simp only [hb]))|(with_reducible refine And.intro (by first|omega|(simp;done)|(simp;omega)) ?_)|simp (maxSteps:=9999999) (implicitDefEqProofs:=false) only [go_sem,hg,hset,hw,hg0',ho,hmm,int_beqL,wrap_nat,z1,z2,z3,z4,z5,z6,lb,ls,List.length_map,dn,Option.bind_some,Option.map_some,e1,l1,l2,t1,t2,t3,d1,d2,d3,s1,s2,s3,List.map_append,List.length_append,List.append_assoc,List.append_nil,List.length_replicate,List.drop_replicate]|fail))
end
end Go.Proofs.YtdakeodebgggfaaGreatDoor
namespace Go.Proofs.YtdakeodebgggfaaGreatDoor
open Go.RowKit
theorem sub_mod8 {y:UInt8}:IntKind.u8.wrap ((y.toNat:Int)-((y.toNat%8:Nat):Int))=((y.toNat-y.toNat%8:Nat):Int):=by
  have h:=y.toNat_lt
  have e:(y.toNat:Int)-((y.toNat%8:Nat):Int)=((y.toNat-y.toNat%8:Nat):Int):=by omega
  rw [e,wrap8_nat,Nat.mod_eq_of_lt (by omega)]
theorem add_64 {y:UInt8}:IntKind.u8.wrap (((y.toNat%64:Nat):Int)+64)=((y.toNat%64+64:Nat):Int):=by
  have h:=y.toNat_lt
  have e:((y.toNat%64:Nat):Int)+64=((y.toNat%64+64:Nat):Int):=by omega
  rw [e,wrap8_nat,Nat.mod_eq_of_lt (by omega)]
theorem mod_8 {y:UInt8}:y.toNat%8%256=y.toNat%8:=Nat.mod_eq_of_lt (by omega)
theorem mod_64 {y:UInt8}:y.toNat%64%256=y.toNat%64:=Nat.mod_eq_of_lt (by omega)
section
variable {G:Nat→Option (List D)}
theorem rsecret_w {seed h:List UInt8} (lh:h.length=64) (hs:Spec Tryz.prog G 57 [.c (bytesD seed)] (.one (.c (.sl 64 (h.map bD))))) :
    Spec Tryz.prog G 27 [.c (bytesD seed)] (.many [.c (.sl 32 ((secN h).map bD)),.c (.sl 32 ((h.drop 32).map bD))]):=by
  obtain ⟨z1,z2,z3⟩:=cd_facts (l:=h.map bD) (n:=64) (by rw [List.length_map,lh])
  have lt:(h.take 32).length=32:=by rw [List.length_take,lh];rfl
  have ld:(h.drop 32).length=32:=by rw [List.length_drop,lh]
  have ht:(h.map bD).take 32=(h.take 32).map bD:=by rw [List.map_take]
  have hd:(h.map bD).drop 32=(h.drop 32).map bD:=by rw [List.map_drop]
  have hd3:((h.drop 32).map bD).take 32=(h.drop 32).map bD:=List.take_of_length_le (by rw [List.length_map,ld];omega)
  have ht3:((h.take 32).map bD).take 32=(h.take 32).map bD:=List.take_of_length_le (by rw [List.length_map,lt];omega)
  have e0:(h.take 32)[0]?=some (h.getD 0 0):=by
    rw [List.getElem?_take,if_pos (by omega),List.getD_eq_getElem?_getD]
    rw [List.getElem?_eq_getElem (by omega),Option.getD_some]
  have e1:((h.take 32).set 0 (UInt8.ofNat ((h.getD 0 0).toNat-(h.getD 0 0).toNat%8)))[31]?=some (h.getD 31 0):=by
    rw [List.getElem?_set_ne (by omega),List.getElem?_take,if_pos (by omega),List.getD_eq_getElem?_getD]
    rw [List.getElem?_eq_getElem (by omega),Option.getD_some]
  have g0:=bytesC_get e0
  have g1:=bytesC_get e1
  have s0:=bytesC_set (l:=h.take 32) (k:=0) (v:=(h.getD 0 0).toNat-(h.getD 0 0).toNat%8) (by have:=(h.getD 0 0).toNat_lt;omega)
  have s1:=bytesC_set (l:=(h.take 32).set 0 (UInt8.ofNat ((h.getD 0 0).toNat-(h.getD 0 0).toNat%8))) (k:=31) (v:=(h.getD 31 0).toNat%64+64) (by omega)
  have hsn:((h.take 32).set 0 (UInt8.ofNat ((h.getD 0 0).toNat-(h.getD 0 0).toNat%8))).set 31 (UInt8.ofNat ((h.getD 31 0).toNat%64+64))=secN h:=rfl
  rw [hsn] at s1
  have ln:=secN_len lh
  have lm:((h.take 32).set 0 (UInt8.ofNat ((h.getD 0 0).toNat-(h.getD 0 0).toNat%8))).length=32:=by rw [List.length_set,lt]
  obtain ⟨n1,n2,n3⟩:=cd_facts (l:=(secN h).map bD) (n:=32) (by rw [List.length_map,ln])
  generalize secN h=N at *
  generalize (h.take 32).set 0 (UInt8.ofNat ((h.getD 0 0).toNat-(h.getD 0 0).toNat%8))=M at *
  generalize h.getD 0 0=b0 at *
  generalize h.getD 31 0=b31 at *
  generalize h.take 32=T at *
  generalize h.drop 32=P at *
  refine spec_of Tryz.func27 rfl rfl rfl (by kernel_rfl) rfl fun K=>?_
  (repeat' (first|with_reducible (first|refine zA fun Kn hK=>?_|refine zB (by kernel_rfl) ?_|refine Nx.go ?_|go_step)|(refine ⟨none,?_⟩)|(refine ⟨_,hs,?_⟩)|with_reducible (first|refine zI ?_|refine zJ ?_|refine zK ?_ ?_|refine zL ?_ ?_|refine zR (by kernel_rfl) ?_)|simp (maxSteps:=9999999) (disch:=omega) only [wq]|(with_reducible refine zM (fun hb=>?_) (fun hb=>?_) <;> (try simp only [hb]))|(with_reducible refine And.intro (by first|omega|(simp;done)|(simp;omega)) ?_)|simp (maxSteps:=9999999) (implicitDefEqProofs:=false) only [go_sem,ht,hd,hd3,ht3,n1,n2,n3,g0,g1,s0,s1,z1,z2,z3,lt,ld,ln,lm,lh,sub_mod8,add_64,wrap8_nat,mod_8,mod_64,List.length_map,List.length_replicate,List.drop_replicate,List.append_nil,List.nil_append]|fail))
theorem rrest_w {n:Nat} {ls:List D} {m h r:List UInt8} (hj:Spec Tryz.prog G 70 [.c (.sl n ls)] (.one (.c (bytesD m)))) (hs:Spec Tryz.prog G 57 [.c (bytesD m)] (.one (.c (bytesD h)))) (hr:Spec Tryz.prog G 69 [.c (bytesD h)] (.one (.c (bytesD r)))) :
    Spec Tryz.prog G 33 [.c (.sl n ls)] (.one (.c (bytesD r))):=by
  unfold bytesD at *
  refine spec_of Tryz.func33 rfl rfl rfl (by kernel_rfl) rfl fun K=>?_
  (repeat' (first|with_reducible (first|refine zA fun Kn hK=>?_|refine zB (by kernel_rfl) ?_|refine Nx.go ?_|go_step)|(refine ⟨_,hj,?_⟩)|(refine ⟨_,hs,?_⟩)|(refine ⟨_,hr,?_⟩)|with_reducible (first|refine zI ?_|refine zJ ?_|refine zK ?_ ?_|refine zL ?_ ?_|refine zR (by kernel_rfl) ?_)|simp (maxSteps:=9999999) (disch:=omega) only [wq]|(with_reducible refine zM (fun hb=>?_) (fun hb=>?_) <;> (try simp only [hb]))|(with_reducible refine And.intro (by first|omega|(simp;done)|(simp;omega)) ?_)|simp (maxSteps:=9999999) (implicitDefEqProofs:=false) only [go_sem,true_and]|fail))
theorem rpub_w {seed N P k:List UInt8} {B Q:List D} (lB:B.length=48) (lQ:Q.length=48) (h1:Spec Tryz.prog G 27 [.c (bytesD seed)] (.many [.c (.sl 32 (N.map bD)),.c (.sl 32 (P.map bD))]))
    (h2:Spec Tryz.prog G 28 [] (.one (.g B))) (h3:Spec Tryz.prog G 29 [.g B,.c (.sl 32 (N.map bD))] (.one (.g Q))) (h4:Spec Tryz.prog G 30 [.g Q] (.one (.c (.sl 32 (k.map bD))))) :
    Spec Tryz.prog G 12 [.c (bytesD seed)] (.one (.c (.sl 32 (k.map bD)))):=by
  unfold bytesD at *
  refine spec_of Tryz.func12 rfl rfl rfl (by kernel_rfl) rfl fun K=>?_
  (repeat' (first|with_reducible (first|refine zA fun Kn hK=>?_|refine zB (by kernel_rfl) ?_|refine Nx.go ?_|go_step)|(refine ⟨none,?_⟩)|(refine ⟨_,h1,?_⟩)|(refine ⟨_,h2,?_⟩)|(refine ⟨_,h3,?_⟩)|(refine ⟨_,h4,?_⟩)|with_reducible (first|refine zI ?_|refine zJ ?_|refine zK ?_ ?_|refine zL ?_ ?_|refine zR (by kernel_rfl) ?_)|simp (maxSteps:=9999999) (disch:=omega) only [wq]|(with_reducible refine zM (fun hb=>?_) (fun hb=>?_) <;> (try simp only [hb]))|(with_reducible refine And.intro (by first|omega|(simp;done)|(simp;omega)) ?_)|simp (maxSteps:=9999999) (implicitDefEqProofs:=false) only [go_sem,lB,lQ,List.length_map]|fail))
end
end Go.Proofs.YtdakeodebgggfaaGreatDoor
namespace Go.Proofs.YtdakeodebgggfaaGreatDoor
open Go.RowKit
def kR (ls:List (List UInt8)):Nat:=leV (shaL ls.flatten)%lQ
def kB (ls:List (List UInt8)):List UInt8:=leB (kR ls)
theorem lQ_pos:0<lQ:=by decide +kernel
theorem lQ_lt:lQ<2^256:=by decide +kernel
theorem kR_lt (ls:List (List UInt8)):kR ls<lQ:=Nat.mod_lt _ lQ_pos
theorem kB_len (ls:List (List UInt8)):(kB ls).length=32:=leB_len _
theorem kB_val (ls:List (List UInt8)):leV (kB ls)=kR ls:=leV_leB (Nat.lt_trans (kR_lt ls) lQ_lt)
def keyN (seed:List UInt8):List UInt8:=secN (shaL seed)
theorem keyN_len (seed:List UInt8):(keyN seed).length=32:=secN_len (shaL_len seed)
def keyP (seed:List UInt8):List UInt8:=(shaL seed).drop 32
theorem keyP_len (seed:List UInt8):(keyP seed).length=32:=by rw [keyP,List.length_drop,shaL_len]
def pubP (seed:List UInt8):F × F:=nmul (leV (keyN seed)) pB
def pubB (seed:List UInt8):List UInt8:=encB (pubP seed)
def firstP (seed text:List UInt8):F × F:=nmul (kR [keyP seed,text]) pB
def firstB (seed text:List UInt8):List UInt8:=encB (firstP seed text)
def lastB (seed text:List UInt8):List UInt8:=leB (maF (kB [firstB seed text,pubB seed,text]) (keyN seed) (kB [keyP seed,text]))
def sigB (seed text:List UInt8):List UInt8:=firstB seed text++lastB seed text
def verP (pub text sig:List UInt8):Bool:=decide (nmul (leV (sig.drop 32)) pB=pAdd (decP (sig.take 32)) (nmul (kR [sig.take 32,pub,text]) (decP pub)))
def verB (pub text sig:List UInt8):Bool:=if pub.length=32∧sig.length=64∧leV (sig.drop 32)<lQ then decOk pub&&(decOk (sig.take 32)&&verP pub text sig) else false
section
variable {G:Nat→Option (List D)}
theorem erest_m (ls:List (List UInt8)) (hb:ls.flatten.length≤1000000000):Spec Tryz.prog G 45 [.c (.sl ls.length (ls.map bytesD))] (.one (.g ((kB ls).map bD))):=by
  have h1:=of_m (G:=G) ls hb
  have h2:=reduce_m (G:=G) (shaL ls.flatten) (by rw [shaL_len];omega)
  unfold bytesD at h2
  rw [shaL_len] at h2
  exact erest_w (shaL_len _) (leB_len _) h1 h2
theorem rrest_m (ls:List (List UInt8)) (hb:ls.flatten.length≤1000000000):Spec Tryz.prog G 33 [.c (.sl ls.length (ls.map bytesD))] (.one (.c (bytesD (kB ls)))):=
  rrest_w (refjoin_m ls hb) (refsum_m _ hb) (refreduce_m _ (by rw [shaL_len];omega))
theorem esecret_m (seed:List UInt8) (hb:seed.length≤1000000000):Spec Tryz.prog G 53 [.c (bytesD seed)] (.many [.g ((keyN seed).map bD),.c (bytesD (keyP seed))]):=by
  have h:=of_m (G:=G) [seed] (by simpa using hb)
  rw [show [seed].flatten=seed by simp] at h
  exact secret_w (shaL_len seed) h
theorem rsecret_m (seed:List UInt8) (hb:seed.length≤1000000000):Spec Tryz.prog G 27 [.c (bytesD seed)] (.many [.c (.sl 32 ((keyN seed).map bD)),.c (.sl 32 ((keyP seed).map bD))]):=by
  have h:=refsum_m (G:=G) seed hb
  unfold bytesD at h
  rw [shaL_len] at h
  exact rsecret_w (shaL_len seed) h
theorem epub_m (seed:List UInt8) (ls:seed.length=32):Spec Tryz.prog G 23 [.c (bytesD seed)] (.many [.g ((pubB seed).map bD),.c (.v (.int .i64 0))]):=by
  have h:=esecret_m (G:=G) seed (by omega)
  have hst:=timesP_st PLB_st (keyN_len seed)
  have h3:=timesP_m (G:=G) PLB_st (keyN_len seed)
  have h4:=bytesP_m (G:=G) hst
  rw [bytesD,ls] at h
  exact epub_w ls (keyN_len seed) (encB_len _) h baseP_m h3 h4
theorem firstP_st (seed text:List UInt8):St (oP PLB (kB [keyP seed,text]) 64) (firstP seed text):=by
  have h:=timesP_st PLB_st (kB_len [keyP seed,text])
  rwa [kB_val] at h
theorem esign_m (seed text:List UInt8) (ls:seed.length=32) (lt:text.length≤1000000):Spec Tryz.prog G 25 [.c (bytesD seed),.c (bytesD text)] (.many [.g ((sigB seed text).map bD),.c (.v (.int .i64 0))]):=by
  have h:=esecret_m (G:=G) seed (by omega)
  have hst:=timesP_st PLB_st (keyN_len seed)
  have h3:=timesP_m (G:=G) PLB_st (keyN_len seed)
  have h4:=bytesP_m (G:=G) hst
  have h5:=erest_m (G:=G) [keyP seed,text] (by simp [keyP_len];omega)
  have h6:=timesP_m (G:=G) PLB_st (kB_len [keyP seed,text])
  have h7:=bytesP_m (G:=G) (firstP_st seed text)
  have h8:=erest_m (G:=G) [firstB seed text,pubB seed,text] (by simp [firstB,pubB,encB_len];omega)
  have h9:=mulAdd_m (G:=G) (kB [firstB seed text,pubB seed,text]) (keyN seed) (kB [keyP seed,text]) (kB_len _) (keyN_len _) (kB_len _)
  rw [bytesD,ls] at h
  have e1:bytesD (firstB seed text)= .sl 32 ((firstB seed text).map bD):=by rw [bytesD,firstB,encB_len]
  have e2:bytesD (pubB seed)= .sl 32 ((pubB seed).map bD):=by rw [bytesD,pubB,encB_len]
  simp only [List.map_cons,List.map_nil,List.length_cons,List.length_nil,e1,e2] at h8
  exact esign_w ls (keyN_len seed) (encB_len _) (encB_len _) (kB_len _) (kB_len _) (leB_len _) (keyP_len seed) (PL.Ok.len PLB_st.ok) h baseP_m h3 h4 h5 h6 h7 h8 h9
theorem ever_m (pub text sig:List UInt8) (lp:pub.length≤1000000) (lt:text.length≤1000000) (lsg:sig.length≤1000000):Spec Tryz.prog G 21 [.c (bytesD pub),.c (bytesD text),.c (bytesD sig)] (.one (.c (.v (.bool (verB pub text sig))))):=by
  by_cases h:pub.length=32∧sig.length=64
  · obtain ⟨hp,hs⟩:=h
    have ld:(sig.drop 32).length=32:=by rw [List.length_drop,hs]
    have lk:(sig.take 32).length=32:=by rw [List.length_take,hs];rfl
    have h1:=mayS_m (G:=G) (sig.drop 32) (by omega)
    unfold bytesD at h1
    rw [ld] at h1
    by_cases hl:leV (sig.drop 32)<lQ
    · rw [decide_eq_true ⟨rfl,hl⟩] at h1
      have hv:verB pub text sig=(decOk pub&&(decOk (sig.take 32)&&verP pub text sig)):=if_pos ⟨hp,hs,hl⟩
      rw [hv]
      obtain ⟨PA,e1,hA,h2,l2,z2⟩: ∃ PA e1,((e1==(0:Int))=decOk pub)∧Spec Tryz.prog G 44 [.c (.sl 32 (pub.map bD))] (.many [.g PA,.c (.v (.int .i64 e1))])∧PA.length=20∧(decOk pub=true→PA=(decPL pub).D):=by
        have h2:=getP_m (G:=G) pub
        rw [bytesD,hp] at h2
        by_cases ho:decOk pub=true
        · rw [if_pos ho] at h2
          exact ⟨_,_,by rw [ho];rfl,h2,PL.Ok.len (decPL_st ho).ok,fun _=>rfl⟩
        · rw [if_neg ho,decErr,if_pos hp] at h2
          exact ⟨_,_,by rw [Bool.not_eq_true] at ho;rw [ho];rfl,h2,rfl,fun h=>absurd h ho⟩
      obtain ⟨PR,e2,hR,h3,l3,z3⟩: ∃ PR e2,((e2==(0:Int))=decOk (sig.take 32))∧Spec Tryz.prog G 44 [.c (.sl 32 ((sig.take 32).map bD))] (.many [.g PR,.c (.v (.int .i64 e2))])∧PR.length=20∧(decOk (sig.take 32)=true→PR=(decPL (sig.take 32)).D):=by
        have h2:=getP_m (G:=G) (sig.take 32)
        rw [bytesD,lk] at h2
        by_cases ho:decOk (sig.take 32)=true
        · rw [if_pos ho] at h2
          exact ⟨_,_,by rw [ho];rfl,h2,PL.Ok.len (decPL_st ho).ok,fun _=>rfl⟩
        · rw [if_neg ho,decErr,if_pos lk] at h2
          exact ⟨_,_,by rw [Bool.not_eq_true] at ho;rw [ho];rfl,h2,rfl,fun h=>absurd h ho⟩
      have h4:=erest_m (G:=G) [sig.take 32,pub,text] (by simp [hp,hs];omega)
      have e1:bytesD (sig.take 32)= .sl 32 ((sig.take 32).map bD):=by rw [bytesD,lk]
      have e2:bytesD pub= .sl 32 (pub.map bD):=by rw [bytesD,hp]
      simp only [List.map_cons,List.map_nil,List.length_cons,List.length_nil,e1,e2] at h4
      have h6:=timesP_m (G:=G) PLB_st ld
      have hk:=kB_len [sig.take 32,pub,text]
      refine ever_w (Q1:=(oP PLB (sig.drop 32) 64).D) (Q2:=(oP (decPL pub) (kB [sig.take 32,pub,text]) 64).D) (Q3:=(addPL (decPL (sig.take 32)) (oP (decPL pub) (kB [sig.take 32,pub,text]) 64)).D) hp hs hk l2 l3 (PL.Ok.len PLB_st.ok) hA hR h1 h2 h3 (fun _ _=>h4) baseP_m (fun _ _=>h6) (fun h1 h2=>?_) (fun h1 h2=>?_) (fun h1 h2=>?_)
      · rw [z2 h1]
        exact timesP_m (decPL_st h1) hk
      · rw [z3 h2]
        exact addM_m (decPL_st h2) (timesP_st (decPL_st h1) hk)
      · have hq:=timesP_st (decPL_st h1) hk
        rw [kB_val] at hq
        exact sameP_m (timesP_st PLB_st ld) (add_st (decPL_st h2) hq)
    · rw [decide_eq_false fun h=>hl h.2] at h1
      have hv:verB pub text sig=false:=if_neg fun h=>hl h.2.2
      rw [hv]
      exact ever_bad2 hp hs h1
  · have hv:verB pub text sig=false:=if_neg fun h2=>h ⟨h2.1,h2.2.1⟩
    rw [hv]
    refine ever_bad1 ?_
    by_cases hp:pub.length=32
    · exact .inr fun hs=>h ⟨hp,hs⟩
    · exact .inl hp
theorem rTimes_st (t:T3) {P:F × F} (h:PrjT t P) {n:List UInt8} (ln:n.length=32):PrjT (tmB t (leV n) 256) (nmul (leV n) P):=tmB_full h ln
theorem rEnc {t:T3} {P:F × F} (h:PrjT t P):Spec Tryz.prog G 30 [.g (t3D t)] (.one (.c (.sl 32 ((encB P).map bD)))):=by
  have h1:=rbytes_m (G:=G) t.1 t.2.1 t.2.2
  rw [prj_x h,prj_y h,bytesD,encB_len] at h1
  exact h1
theorem rEncO {t:T3} {P:F × F} (h:PrjT t P):Spec Tryz.prog G 30 [.g (t3D t)] (.obj 12 (.a (.c (.row 12 1 0 32 .grow))) ⟨5,((encB P).map bD).map C.d,false,false⟩):=by
  have h1:=rbytes_o (G:=G) t.1 t.2.1 t.2.2
  rw [prj_x h,prj_y h] at h1
  exact h1
def tB:T3:=(xBase,yBase,1)
theorem tB_st:PrjT tB pB:=prj_of pB_on
theorem rBase_m:Spec Tryz.prog G 28 [] (.one (.g (t3D tB))):=rbase_m
theorem rTimes_m (t:T3) {n:List UInt8} (ln:n.length=32):Spec Tryz.prog G 29 [.g (t3D t),.c (.sl 32 (n.map bD))] (.one (.g (t3D (tmB t (leV n) 256)))):=by
  have h:=rtimes_m (G:=G) t n ln
  rwa [bytesD,ln] at h
theorem rpub_m (seed:List UInt8) (ls:seed.length≤1000000):Spec Tryz.prog G 12 [.c (bytesD seed)] (.one (.c (.sl 32 ((pubB seed).map bD)))):=
  rpub_w (t3D_len _) (t3D_len _) (rsecret_m seed (by omega)) rBase_m (rTimes_m tB (keyN_len seed)) (rEnc (rTimes_st tB tB_st (keyN_len seed)))
theorem rgetT_m {b:List UInt8} (lb:b.length=32): ∃ t:T3,(decOk b=true→PrjT t (decP b))∧Spec Tryz.prog G 51 [.c (.sl 32 (b.map bD))] (.many [.g (t3D t),.c (.v (.bool (decOk b)))]):=by
  have h:=rget_m (G:=G) lb
  rw [bytesD,lb] at h
  by_cases ho:decOk b=true
  · rw [if_pos ho] at h
    exact ⟨((decP b).1,(decP b).2,1),fun h=>prj_of (decP_on h),h⟩
  · rw [if_neg ho] at h
    exact ⟨(0,0,0),fun h=>absurd h ho,h⟩
theorem rAddT_m (s t:T3):Spec Tryz.prog G 52 [.g (t3D s),.g (t3D t)] (.one (.g (t3D (aT s t)))):=rAdd_m _ _ _ _ _ _
theorem rver_p {pub text sig k:List UInt8} {tA tR tK tQ:T3} {PS PK:F × F} {o1 o2:Bool} (lp:pub.length=32) (ls:sig.length=64) (lk:k.length=32)
    (h1:Spec Tryz.prog G 50 [.c (.sl 32 ((sig.drop 32).map bD))] (.one (.c (.v (.bool true)))))
    (h2:Spec Tryz.prog G 51 [.c (.sl 32 (pub.map bD))] (.many [.g (t3D tA),.c (.v (.bool o1))]))
    (h3:Spec Tryz.prog G 51 [.c (.sl 32 ((sig.take 32).map bD))] (.many [.g (t3D tR),.c (.v (.bool o2))]))
    (h4:Spec Tryz.prog G 33 [.c (.sl 3 [.sl 32 ((sig.take 32).map bD),.sl 32 (pub.map bD),bytesD text])] (.one (.c (.sl 32 (k.map bD)))))
    (h6:Spec Tryz.prog G 29 [.g (t3D tB),.c (.sl 32 ((sig.drop 32).map bD))] (.one (.g (t3D tQ))))
    (h7:Spec Tryz.prog G 29 [.g (t3D tA),.c (.sl 32 (k.map bD))] (.one (.g (t3D tK))))
    (hQ:PrjT tQ PS) (hS:o1=true→o2=true→PrjT (aT tR tK) PK) :
    Spec Tryz.prog G 22 [.c (bytesD pub),.c (bytesD text),.c (bytesD sig)] (.one (.c (.v (.bool (o1&&(o2&&(encB PS==encB PK))))))):=
  rver_w (x:=encB PS) (y:=encB PK) lp ls lk (t3D_len _) (t3D_len _) (t3D_len _) (t3D_len _) (t3D_len _) (encB_len _) (encB_len _) h1 h2 h3 (fun _ _=>h4) rBase_m (fun _ _=>h6) (fun _ _=>h7) (fun _ _=>rAddT_m _ _) (fun _ _=>rEnc hQ) (fun h1 h2=>rEnc (hS h1 h2))
theorem rver_m (pub text sig:List UInt8) (lp:pub.length≤1000000) (lt:text.length≤1000000) (lsg:sig.length≤1000000):Spec Tryz.prog G 22 [.c (bytesD pub),.c (bytesD text),.c (bytesD sig)] (.one (.c (.v (.bool (verB pub text sig))))):=by
  by_cases h:pub.length=32∧sig.length=64
  · obtain ⟨hp,hs⟩:=h
    have ld:(sig.drop 32).length=32:=by rw [List.length_drop,hs]
    have lk:(sig.take 32).length=32:=by rw [List.length_take,hs];rfl
    have h1:=refmay_m (G:=G) (sig.drop 32) (by omega)
    unfold bytesD at h1
    rw [ld] at h1
    by_cases hl:leV (sig.drop 32)<lQ
    · rw [decide_eq_true ⟨rfl,hl⟩] at h1
      have hv:verB pub text sig=(decOk pub&&(decOk (sig.take 32)&&verP pub text sig)):=if_pos ⟨hp,hs,hl⟩
      rw [hv]
      obtain ⟨tA,hA,h2⟩:=rgetT_m (G:=G) hp
      obtain ⟨tR,hR,h3⟩:=rgetT_m (G:=G) lk
      have h4:=rrest_m (G:=G) [sig.take 32,pub,text] (by simp [hp,hs];omega)
      have hk:=kB_len [sig.take 32,pub,text]
      have hkv:=kB_val [sig.take 32,pub,text]
      have e1:bytesD (sig.take 32)= .sl 32 ((sig.take 32).map bD):=by rw [bytesD,lk]
      have e2:bytesD pub= .sl 32 (pub.map bD):=by rw [bytesD,hp]
      have e3:bytesD (kB [sig.take 32,pub,text])= .sl 32 ((kB [sig.take 32,pub,text]).map bD):=by rw [bytesD,hk]
      simp only [List.map_cons,List.map_nil,List.length_cons,List.length_nil,e1,e2,e3] at h4
      have hvp:verP pub text sig=decide (nmul (leV (sig.drop 32)) pB=pAdd (decP (sig.take 32)) (nmul (kR [sig.take 32,pub,text]) (decP pub))):=rfl
      rw [hvp]
      generalize kB [sig.take 32,pub,text]=kb at *
      generalize kR [sig.take 32,pub,text]=kr at *
      have h6:=rTimes_m (G:=G) tB ld
      have h7:=rTimes_m (G:=G) tA hk
      have hQ:=rTimes_st tB tB_st ld
      have hS:decOk pub=true→decOk (sig.take 32)=true→PrjT (aT tR (tmB tA (leV kb) 256)) (pAdd (decP (sig.take 32)) (nmul kr (decP pub))):=fun h1 h2=>by
        have h5:=rTimes_st tA (hA h1) hk
        have h9:PrjT (tmB tA (leV kb) 256) (nmul kr (decP pub)):=by
          rw [← hkv]
          exact h5
        exact prjT_add (hR h2) h9
      have hr:=rver_p (text:=text) hp hs hk h1 h2 h3 h4 h6 h7 hQ hS
      have hcmp:(decOk pub&&(decOk (sig.take 32)&&decide (nmul (leV (sig.drop 32)) pB=pAdd (decP (sig.take 32)) (nmul kr (decP pub)))))=(decOk pub&&(decOk (sig.take 32)&&(encB (nmul (leV (sig.drop 32)) pB)==encB (pAdd (decP (sig.take 32)) (nmul kr (decP pub)))))):=by
        cases ho1:decOk pub
        · rfl
        cases ho2:decOk (sig.take 32)
        · rfl
        have hq:=(hS ho1 ho2).on
        simp only [Bool.true_and]
        rw [Bool.eq_iff_iff,beq_iff_eq,encB_inj (nmul_on pB_on _) hq,decide_eq_true_eq]
      rw [hcmp]
      exact hr
    · rw [decide_eq_false fun h=>hl h.2] at h1
      have hv:verB pub text sig=false:=if_neg fun h=>hl h.2.2
      rw [hv]
      exact rver_bad2 hp hs h1
  · have hv:verB pub text sig=false:=if_neg fun h2=>h ⟨h2.1,h2.2.1⟩
    rw [hv]
    refine rver_bad1 ?_
    by_cases hp:pub.length=32
    · exact .inr fun hs=>h ⟨hp,hs⟩
    · exact .inl hp
end
end Go.Proofs.YtdakeodebgggfaaGreatDoor
namespace Go.Proofs.YtdakeodebgggfaaGreatDoor
open Go.RowKit
@[go_sem] theorem flat_bytes {l:List UInt8}:((l.map bD).map C.d).all C.flat=true:=by
  rw [List.all_eq_true]
  intro x hx
  obtain ⟨y,hy,rfl⟩:=List.mem_map.1 hx
  obtain ⟨z,_,rfl⟩:=List.mem_map.1 hy
  rfl
section
variable {G:Nat→Option (List D)}
theorem rrest_ow {n:Nat} {ls:List D} {m h r:List UInt8} (hj:Spec Tryz.prog G 70 [.c (.sl n ls)] (.one (.c (bytesD m)))) (hs:Spec Tryz.prog G 57 [.c (bytesD m)] (.one (.c (bytesD h)))) (hr:Spec Tryz.prog G 69 [.c (bytesD h)] (.obj 5 (.a (.c (.row 5 1 0 32 .grow))) ⟨5,(r.map bD).map C.d,false,false⟩)) :
    Spec Tryz.prog G 33 [.c (.sl n ls)] (.obj 6 (.a (.c (.row 6 1 0 32 .grow))) ⟨5,(r.map bD).map C.d,false,false⟩):=by
  unfold bytesD at *
  refine specO_go Tryz.func33 rfl rfl rfl (by kernel_rfl) (by (iterate 2 ((try simp (maxSteps:=9999999) (implicitDefEqProofs:=false) only [go_sem,true_and]);(try simp (maxSteps:=9999999) (disch:=omega) only [wq])))) (by (iterate 2 ((try simp (maxSteps:=9999999) (implicitDefEqProofs:=false) only [go_sem,List.all_cons,List.all_nil]);(try simp (maxSteps:=9999999) (disch:=omega) only [wq])))) fun K m=>?_
  (repeat' (first|with_reducible (first|refine zA fun Kn hK=>?_|refine zB (by kernel_rfl) ?_|refine Nx.go ?_|go_step)|(refine ⟨_,hj,?_⟩)|(refine ⟨_,hs,?_⟩)|(refine ⟨_,hr,?_⟩)|(refine raw_t (by rfl) (by rfl) (by rfl))|with_reducible (first|refine zI ?_|refine zJ ?_|refine zK ?_ ?_|refine zL ?_ ?_|refine zR (by kernel_rfl) ?_)|simp (maxSteps:=9999999) (disch:=omega) only [wq]|(with_reducible refine zM (fun hb=>?_) (fun hb=>?_) <;> (try simp only [hb]))|(with_reducible refine And.intro (by first|omega|(simp;done)|(simp;omega)) ?_)|simp (maxSteps:=9999999) (implicitDefEqProofs:=false) only [go_sem,true_and]|fail))
theorem rrest_o (ls:List (List UInt8)) (hb:ls.flatten.length≤1000000000):Spec Tryz.prog G 33 [.c (.sl ls.length (ls.map bytesD))] (.obj 6 (.a (.c (.row 6 1 0 32 .grow))) ⟨5,((kB ls).map bD).map C.d,false,false⟩):=
  rrest_ow (refjoin_m ls hb) (refsum_m _ hb) (refreduce_o _ (by rw [shaL_len];omega))
theorem rsign_w {seed text N P k R r c s:List UInt8} {B Q2:List D} (ls:seed.length=32) (lN:N.length=32) (lk:k.length=32) (lR:R.length=32) (lr:r.length=32) (lc:c.length=32) (lss:s.length=32) (lP:P.length=32) (lB:B.length=48)
    (h1:Spec Tryz.prog G 27 [.c (bytesD seed)] (.many [.c (.sl 32 (N.map bD)),.c (.sl 32 (P.map bD))]))
    (h2:Spec Tryz.prog G 28 [] (.one (.g B))) (h3:Spec Tryz.prog G 12 [.c (bytesD seed)] (.one (.c (.sl 32 (k.map bD)))))
    (h5:Spec Tryz.prog G 33 [.c (.sl 2 [.sl 32 (P.map bD),bytesD text])] (.obj 6 (.a (.c (.row 6 1 0 32 .grow))) ⟨5,(r.map bD).map C.d,false,false⟩))
    (hQ:Q2.all D.flat=true)
    (h6:Spec Tryz.prog G 29 [.g B,.c (.sl 32 (r.map bD))] (.one (.g Q2))) (h7:Spec Tryz.prog G 30 [.g Q2] (.obj 12 (.a (.c (.row 12 1 0 32 .grow))) ⟨5,(R.map bD).map C.d,false,false⟩))
    (h8:Spec Tryz.prog G 33 [.c (.sl 3 [.sl 32 (R.map bD),.sl 32 (k.map bD),bytesD text])] (.obj 6 (.a (.c (.row 6 1 0 32 .grow))) ⟨5,(c.map bD).map C.d,false,false⟩))
    (h9:Spec Tryz.prog G 34 [.c (.sl 32 (c.map bD)),.c (.sl 32 (N.map bD)),.c (.sl 32 (r.map bD))] (.obj 92 (.a (.c (.row 92 1 0 32 .grow))) ⟨5,(s.map bD).map C.d,false,false⟩)) :
    Spec Tryz.prog G 14 [.c (bytesD seed),.c (bytesD text)] (.one (.c (.sl 64 ((R++s).map bD)))):=by
  obtain ⟨R1,R2,R3⟩:=cd_facts (l:=R.map bD) (n:=32) (by rw [List.length_map,lR])
  obtain ⟨s1,s2,s3⟩:=cd_facts (l:=s.map bD) (n:=32) (by rw [List.length_map,lss])
  obtain ⟨r1,r2,r3⟩:=cd_facts (l:=r.map bD) (n:=32) (by rw [List.length_map,lr])
  obtain ⟨c1,c2,c3⟩:=cd_facts (l:=c.map bD) (n:=32) (by rw [List.length_map,lc])
  obtain ⟨o1,o2,o3⟩:=cd_facts (l:=(R++s).map bD) (n:=64) (by rw [List.length_map,List.length_append,lR,lss])
  have lo:(R++s).length=64:=by rw [List.length_append,lR,lss]
  have k3:(R.map bD).map C.d++(s.map bD).map C.d=((R++s).map bD).map C.d:=by rw [List.map_append,List.map_append]
  unfold bytesD at *
  refine spec_of Tryz.func14 rfl rfl rfl (by kernel_rfl) rfl fun K=>?_
  (repeat' (first|with_reducible (first|refine zA fun Kn hK=>?_|refine zB (by kernel_rfl) ?_|refine Nx.go ?_|go_step)|(refine ⟨some [4096],?_⟩)|(refine ⟨_,h1,?_⟩)|(refine ⟨_,h2,?_⟩)|(refine ⟨_,h3,?_⟩)|(refine ⟨_,h5,?_⟩)|(refine ⟨_,h6,?_⟩)|(refine ⟨_,h7,?_⟩)|(refine ⟨_,h8,?_⟩)|(refine ⟨_,h9,?_⟩)|with_reducible (first|refine zI ?_|refine zJ ?_|refine zK ?_ ?_|refine zL ?_ ?_|refine zR (by kernel_rfl) ?_)|simp (maxSteps:=9999999) (disch:=omega) only [wq]|(with_reducible refine zM (fun hb=>?_) (fun hb=>?_) <;> (try simp only [hb]))|(with_reducible refine And.intro (by first|omega|(simp;done)|(simp;omega)) ?_)|simp (maxSteps:=9999999) (implicitDefEqProofs:=false) only [go_sem,hQ,R1,R2,R3,s1,s2,s3,r1,r2,r3,c1,c2,c3,o1,o2,o3,lo,k3,lN,lk,lR,lr,lc,lss,lP,List.length_map]|fail))
theorem t3D_flat (t:T3):(t3D t).all D.flat=true:=by
  have h: ∀ x,(rD1 x).all D.flat=true:=fun x=>by
    rw [List.all_eq_true]
    intro y hy
    obtain ⟨z,_,rfl⟩:=List.mem_map.1 hy
    rfl
  rw [t3D,p3D,List.all_append,List.all_append,h,h,h]
  rfl
theorem rsign_m (seed text:List UInt8) (ls:seed.length=32) (lt:text.length≤1000000):Spec Tryz.prog G 14 [.c (bytesD seed),.c (bytesD text)] (.one (.c (.sl 64 ((sigB seed text).map bD)))):=by
  have h5:=rrest_o (G:=G) [keyP seed,text] (by simp [keyP_len];omega)
  have h8:=rrest_o (G:=G) [firstB seed text,pubB seed,text] (by simp [firstB,pubB,encB_len];omega)
  have hF:=rTimes_st tB tB_st (kB_len [keyP seed,text])
  rw [kB_val] at hF
  have h7:=rEncO (G:=G) (rTimes_st tB tB_st (kB_len [keyP seed,text]))
  rw [kB_val] at h7
  have h6:=rTimes_m (G:=G) tB (kB_len [keyP seed,text])
  rw [kB_val] at h6
  have h9:=refmulAdd_o (G:=G) (kB [firstB seed text,pubB seed,text]) (keyN seed) (kB [keyP seed,text]) (kB_len _) (keyN_len _) (kB_len _)
  have e1:bytesD (firstB seed text)= .sl 32 ((firstB seed text).map bD):=by rw [bytesD,firstB,encB_len]
  have e2:bytesD (pubB seed)= .sl 32 ((pubB seed).map bD):=by rw [bytesD,pubB,encB_len]
  have e3:bytesD (keyP seed)= .sl 32 ((keyP seed).map bD):=by rw [bytesD,keyP_len]
  simp only [List.map_cons,List.map_nil,List.length_cons,List.length_nil,e1,e2] at h8
  simp only [List.map_cons,List.map_nil,List.length_cons,List.length_nil,e3] at h5
  unfold bytesD at h9
  rw [kB_len,kB_len,keyN_len] at h9
  exact rsign_w ls (keyN_len seed) (encB_len _) (encB_len _) (kB_len _) (kB_len _) (leB_len _) (keyP_len seed) (t3D_len _) (rsecret_m seed (by omega)) rBase_m (rpub_m seed (by omega)) h5 (t3D_flat _) h6 h7 h8 h9
end
end Go.Proofs.YtdakeodebgggfaaGreatDoor
namespace Go.Proofs.YtdakeodebgggfaaGreatDoor
open Go.RowKit
theorem sigB_len (seed text:List UInt8):(sigB seed text).length=64:=by rw [sigB,List.length_append,firstB,encB_len,lastB,leB_len]
theorem pubB_len (seed:List UInt8):(pubB seed).length=32:=encB_len _
theorem sig_take (seed text:List UInt8):(sigB seed text).take 32=firstB seed text:=List.take_left' (encB_len _)
theorem sig_drop (seed text:List UInt8):(sigB seed text).drop 32=lastB seed text:=List.drop_left' (encB_len _)
theorem last_val (seed text:List UInt8):leV (lastB seed text)=(kR [firstB seed text,pubB seed,text]*leV (keyN seed)+kR [keyP seed,text])%lQ:=by
  rw [lastB,leV_leB,maF,kB_val,kB_val]
  exact Nat.lt_trans (Nat.mod_lt _ lQ_pos) lQ_lt
theorem sign_ok (seed text:List UInt8):verB (pubB seed) text (sigB seed text)=true:=by
  have hP:=dec_enc (nmul_on pB_on (leV (keyN seed)))
  have hR:=dec_enc (nmul_on pB_on (kR [keyP seed,text]))
  have hl:=last_val seed text
  unfold verB verP
  rw [sig_take,sig_drop]
  rw [if_pos ⟨pubB_len seed,sigB_len seed text,by rw [hl];exact Nat.mod_lt _ lQ_pos⟩,hl,nmul_mod]
  have e1:decOk (pubB seed)=true:=hP.1
  have e2:decP (pubB seed)=pubP seed:=hP.2
  have e3:decOk (firstB seed text)=true:=hR.1
  have e4:decP (firstB seed text)=firstP seed text:=hR.2
  rw [e1,e2,e3,e4,Bool.true_and,Bool.true_and]
  apply decide_eq_true
  generalize kR [firstB seed text,pubB seed,text]=k
  rw [nmul_add pB_on,Nat.mul_comm,nmul_mul pB_on,pAdd_comm]
  rfl
end Go.Proofs.YtdakeodebgggfaaGreatDoor
namespace Go.Proofs.YtdakeodebgggfaaGreatDoor
open Go.RowKit
def rightB (b:Tree) (p s:List UInt8):Bool:=sMay b p s&&verB p b.form s
section
variable {G:Nat→Option (List D)}
theorem rvalue18_m (b:Tree) (p s:List UInt8) (hp:p.length≤1000000) (hs:s.length≤1000000):Spec Tryz.prog G 32 [.g (sgnC b p s)] (.one (.g (treeC (signedT b p s)))):=by
  have hb:=treeC_eq b
  have hk:=treeC_eq (keyV false p)
  have hv:=value_m (G:=G) false p (by omega)
  have e:treeC (signedT b p s)=[.v (.bool true),.v (.bool false),.sl 0 [],.sl 0 [],.sl 4 (treeC (atomT tSigned)++(treeC b++(treeC (keyV false p)++(treeC (atomT s)++[]))))]:=by
    rw [signedT,listT,treeC_mk]
    rfl
  rw [e]
  generalize keyV false p=kv at *
  rw [hk] at hv ⊢
  rw [hb]
  refine spec_of Tryz.func32 rfl rfl rfl (by kernel_rfl) rfl fun K=>?_
  (repeat' (first|with_reducible (first|refine zA fun Kn hK=>?_|refine zB (by kernel_rfl) ?_|refine Nx.go ?_|go_step)|(refine ⟨_,atomref_m tSigned (by decide),?_⟩)|(refine ⟨_,hv,?_⟩)|with_reducible (first|refine zI ?_|refine zJ ?_|refine zK ?_ ?_|refine zL ?_ ?_|refine zR (by kernel_rfl) ?_)|simp (maxSteps:=9999999) (disch:=omega) only [wq]|(with_reducible refine zM (fun hb=>?_) (fun hb=>?_) <;> (try simp only [hb]))|(with_reducible refine And.intro (by first|omega|(simp;done)|(simp;omega)) ?_)|simp (maxSteps:=9999999) (implicitDefEqProofs:=false) only [go_sem,hb,atomT,treeC_mk]|fail))
  rfl
theorem rmay18_m (b:Tree) (p s:List UInt8) (hw:b.wt≤5000000) (hp:p.length≤1000000) (hs:s.length≤1000000):Spec Tryz.prog G 13 [.g (sgnC b p s)] (.one (.c (.v (.bool (sMay b p s))))):=by
  have hw2:=signed_wt (b:=b) (p:=p) (s:=s)
  have h1:=rvalue18_m (G:=G) b p s hp hs
  have h2:=may_m (G:=G) (signedT b p s) rfl (by omega)
  have hb:=treeC_eq b
  rw [sMay]
  generalize (signedT b p s).may=q at *
  generalize treeC (signedT b p s)=T at *
  unfold sgnC at *
  rw [hb] at h1 ⊢
  cases d1:p.length==32 <;> cases d2:s.length==64
  all_goals
    refine spec_of Tryz.func13 rfl rfl rfl (by kernel_rfl) rfl fun K=>?_
    (repeat' (first|with_reducible (first|refine zA fun Kn hK=>?_|refine zB (by kernel_rfl) ?_|refine Nx.go ?_|go_step)|(refine ⟨_,h1,?_⟩)|(refine ⟨_,h2,?_⟩)|with_reducible (first|refine zI ?_|refine zJ ?_|refine zK ?_ ?_|refine zL ?_ ?_|refine zR (by kernel_rfl) ?_)|simp (maxSteps:=9999999) (disch:=omega) only [wq]|(with_reducible refine zM (fun hb=>?_) (fun hb=>?_) <;> (try simp only [hb]))|(with_reducible refine And.intro (by first|omega|(simp;done)|(simp;omega)) ?_)|simp (maxSteps:=9999999) (implicitDefEqProofs:=false) only [go_sem,int_beqL,d1,d2]|fail))
    all_goals rfl
theorem rright18_m (b:Tree) (p s:List UInt8) (hw:b.wt≤5000000) (hp:p.length≤1000000) (hs:s.length≤1000000):Spec Tryz.prog G 9 [.g (sgnC b p s)] (.one (.c (.v (.bool (rightB b p s))))):=by
  have h1:=rmay18_m (G:=G) b p s hw hp hs
  have h2:=form_m (G:=G) b _ rfl (by omega)
  have h3:sMay b p s=true→Spec Tryz.prog G 22 [.c (bytesD p),.c (bytesD b.form),.c (bytesD s)] (.one (.c (.v (.bool (verB p b.form s))))):=fun h=>rver_m p b.form s hp (by have:=may_form (signed_body h);omega) hs
  have hb:=treeC_eq b
  rw [rightB]
  generalize b.form=f at *
  generalize verB p f s=q at *
  unfold sgnC at *
  rw [hb] at h1 h2 ⊢
  cases d:sMay b p s with
  | false =>
    rw [d] at h1
    refine spec_of Tryz.func9 rfl rfl rfl (by kernel_rfl) rfl fun K=>?_
    (repeat' (first|with_reducible (first|refine zA fun Kn hK=>?_|refine zB (by kernel_rfl) ?_|refine Nx.go ?_|go_step)|(refine ⟨_,h1,?_⟩)|with_reducible (first|refine zI ?_|refine zJ ?_|refine zK ?_ ?_|refine zL ?_ ?_|refine zR (by kernel_rfl) ?_)|simp (maxSteps:=9999999) (disch:=omega) only [wq]|(with_reducible refine zM (fun hb=>?_) (fun hb=>?_) <;> (try simp only [hb]))|(with_reducible refine And.intro (by first|omega|(simp;done)|(simp;omega)) ?_)|simp (maxSteps:=9999999) (implicitDefEqProofs:=false) only [go_sem,Bool.false_and]|fail))
  | true =>
    have h3:=h3 d
    rw [d] at h1
    refine spec_of Tryz.func9 rfl rfl rfl (by kernel_rfl) rfl fun K=>?_
    (repeat' (first|with_reducible (first|refine zA fun Kn hK=>?_|refine zB (by kernel_rfl) ?_|refine Nx.go ?_|go_step)|(refine ⟨_,h1,?_⟩)|(refine ⟨_,h2,?_⟩)|(refine ⟨_,h3,?_⟩)|with_reducible (first|refine zI ?_|refine zJ ?_|refine zK ?_ ?_|refine zL ?_ ?_|refine zR (by kernel_rfl) ?_)|simp (maxSteps:=9999999) (disch:=omega) only [wq]|(with_reducible refine zM (fun hb=>?_) (fun hb=>?_) <;> (try simp only [hb]))|(with_reducible refine And.intro (by first|omega|(simp;done)|(simp;omega)) ?_)|simp (maxSteps:=9999999) (implicitDefEqProofs:=false) only [go_sem,true_and]|fail))
theorem right18_m (hG:G 0=some powD) (b:Tree) (p s:List UInt8) (hw:b.wt≤5000000) (hp:p.length≤1000000) (hs:s.length≤1000000):Spec Tryz.prog G 8 [.g (sgnC b p s)] (.one (.c (.v (.bool (rightB b p s))))):=by
  have h1:=sput18_m hG b p s hw hp hs
  have h2:=sput_m (G:=G) hG b rfl (by omega)
  have h3:sMay b p s=true→Spec Tryz.prog G 21 [.c (bytesD p),.c (bytesD b.form),.c (bytesD s)] (.one (.c (.v (.bool (verB p b.form s))))):=fun h=>ever_m p b.form s hp (by have:=may_form (signed_body h);omega) hs
  have hm:=signed_body (b:=b) (p:=p) (s:=s)
  have hb:=treeC_eq b
  have hq:=treeC_eq (sOut b p s)
  rw [rightB]
  rw [sErr] at h1
  generalize b.form=f at *
  generalize verB p f s=q at *
  generalize sOut b p s=O at *
  unfold sgnC at *
  rw [hb] at h1 h2 ⊢
  rw [hq] at h1
  cases d:sMay b p s with
  | false =>
    rw [d,if_neg (by simp)] at h1
    refine spec_of Tryz.func8 rfl rfl rfl (by kernel_rfl) rfl fun K=>?_
    (repeat' (first|with_reducible (first|refine zA fun Kn hK=>?_|refine zB (by kernel_rfl) ?_|refine Nx.go ?_|go_step)|(refine ⟨_,h1,?_⟩)|with_reducible (first|refine zI ?_|refine zJ ?_|refine zK ?_ ?_|refine zL ?_ ?_|refine zR (by kernel_rfl) ?_)|simp (maxSteps:=9999999) (disch:=omega) only [wq]|(with_reducible refine zM (fun hb=>?_) (fun hb=>?_) <;> (try simp only [hb]))|(with_reducible refine And.intro (by first|omega|(simp;done)|(simp;omega)) ?_)|simp (maxSteps:=9999999) (implicitDefEqProofs:=false) only [go_sem,Bool.false_and]|fail))
  | true =>
    have h3:=h3 d
    rw [if_pos (hm d)] at h2
    rw [d,if_pos rfl] at h1
    refine spec_of Tryz.func8 rfl rfl rfl (by kernel_rfl) rfl fun K=>?_
    (repeat' (first|with_reducible (first|refine zA fun Kn hK=>?_|refine zB (by kernel_rfl) ?_|refine Nx.go ?_|go_step)|(refine ⟨_,h1,?_⟩)|(refine ⟨_,h2,?_⟩)|(refine ⟨_,h3,?_⟩)|with_reducible (first|refine zI ?_|refine zJ ?_|refine zK ?_ ?_|refine zL ?_ ?_|refine zR (by kernel_rfl) ?_)|simp (maxSteps:=9999999) (disch:=omega) only [wq]|(with_reducible refine zM (fun hb=>?_) (fun hb=>?_) <;> (try simp only [hb]))|(with_reducible refine And.intro (by first|omega|(simp;done)|(simp;omega)) ?_)|simp (maxSteps:=9999999) (implicitDefEqProofs:=false) only [go_sem,true_and]|fail))
def sgnGreat (b:Tree) (p s:List UInt8):Bool:=b.great 0||decide (200<(p.length:Int))||decide (200<(s.length:Int))
theorem rgreat18_m (b:Tree) (p s:List UInt8) (hw:b.wt≤5000000):Spec Tryz.prog G 6 [.g (sgnC b p s)] (.one (.c (.v (.bool (sgnGreat b p s))))):=by
  have h1:=great_m (G:=G) b _ 0 rfl (by omega) (by omega)
  have hb:=treeC_eq b
  rw [sgnGreat]
  generalize b.great 0=q at *
  unfold sgnC at *
  rw [hb] at h1 ⊢
  cases q <;> cases d1:decide (200<(p.length:Int)) <;> cases d2:decide (200<(s.length:Int))
  all_goals
    refine spec_of Tryz.func6 rfl rfl rfl (by kernel_rfl) rfl fun K=>?_
    (repeat' (first|with_reducible (first|refine zA fun Kn hK=>?_|refine zB (by kernel_rfl) ?_|refine Nx.go ?_|go_step)|(refine ⟨_,h1,?_⟩)|with_reducible (first|refine zI ?_|refine zJ ?_|refine zK ?_ ?_|refine zL ?_ ?_|refine zR (by kernel_rfl) ?_)|simp (maxSteps:=9999999) (disch:=omega) only [wq]|(with_reducible refine zM (fun hb=>?_) (fun hb=>?_) <;> (try simp only [hb]))|(with_reducible refine And.intro (by first|omega|(simp;done)|(simp;omega)) ?_)|simp (maxSteps:=9999999) (implicitDefEqProofs:=false) only [go_sem,gt_iff_lt,d1,d2]|fail))
theorem rsame18_m (b c:Tree) (p s p' s':List UInt8) (hw:b.wt≤5000000):Spec Tryz.prog G 11 [.g (sgnC b p s),.g (sgnC c p' s')] (.one (.c (.v (.bool (b.same c&&p==p'&&s==s'))))):=by
  have h1:=sameref_m (G:=G) b c _ _ rfl rfl (by omega)
  have hb:=treeC_eq b
  have hc:=treeC_eq c
  generalize b.same c=q at *
  unfold sgnC at *
  rw [hb,hc] at h1 ⊢
  cases q <;> cases d1:p==p' <;> cases d2:s==s'
  all_goals
    refine spec_of Tryz.func11 rfl rfl rfl (by kernel_rfl) rfl fun K=>?_
    (repeat' (first|with_reducible (first|refine zA fun Kn hK=>?_|refine zB (by kernel_rfl) ?_|refine Nx.go ?_|go_step)|(refine ⟨_,h1,?_⟩)|with_reducible (first|refine zI ?_|refine zJ ?_|refine zK ?_ ?_|refine zL ?_ ?_|refine zR (by kernel_rfl) ?_)|simp (maxSteps:=9999999) (disch:=omega) only [wq]|(with_reducible refine zM (fun hb=>?_) (fun hb=>?_) <;> (try simp only [hb]))|(with_reducible refine And.intro (by first|omega|(simp;done)|(simp;omega)) ?_)|simp (maxSteps:=9999999) (implicitDefEqProofs:=false) only [go_sem,d1,d2]|fail))
    all_goals simp_all
end
end Go.Proofs.YtdakeodebgggfaaGreatDoor
namespace Go.Proofs.YtdakeodebgggfaaGreatDoor
open Go.RowKit
section
variable {G:Nat→Option (List D)}
theorem zeroS_C:sgnC zeroT [] []=[.v (.bool false),.v (.bool false),.sl 0 [],.sl 0 [],.sl 0 [],.sl 0 [],.sl 0 []]:=by
  rw [sgnC,zeroT,treeC_mk]
  rfl
theorem sign18_bad {b:Tree} {seed:List UInt8} (ls:seed.length≠32):Spec Tryz.prog G 10 [.g (treeC b),.c (bytesD seed)] (.many [.g (sgnC zeroT [] []),.c (.v (.int .i64 1))]):=by
  have h1:=epub_bad (G:=G) (seed:=seed) ls
  have hz:List.replicate 32 (C.d (.v (.int .u8 0)))=((List.replicate 32 (0:UInt8)).map bD).map C.d:=rfl
  obtain ⟨z1,z2,z3⟩:=cd_facts (l:=(List.replicate 32 (0:UInt8)).map bD) (n:=32) (by rw [List.length_map,List.length_replicate])
  have lz:(List.replicate 32 (0:UInt8)).length=32:=List.length_replicate
  generalize List.replicate 32 (0:UInt8)=Z at *
  have hb:=treeC_eq b
  rw [hb,zeroS_C]
  unfold bytesD at *
  refine spec_of Tryz.func10 rfl rfl rfl (by kernel_rfl) rfl fun K=>?_
  (repeat' (first|with_reducible (first|refine zA fun Kn hK=>?_|refine zB (by kernel_rfl) ?_|refine Nx.go ?_|go_step)|(refine ⟨_,h1,?_⟩)|with_reducible (first|refine zI ?_|refine zJ ?_|refine zK ?_ ?_|refine zL ?_ ?_|refine zR (by kernel_rfl) ?_)|simp (maxSteps:=9999999) (disch:=omega) only [wq]|(with_reducible refine zM (fun hb=>?_) (fun hb=>?_) <;> (try simp only [hb]))|(with_reducible refine And.intro (by first|omega|(simp;done)|(simp;omega)) ?_)|simp (maxSteps:=9999999) (implicitDefEqProofs:=false) only [go_sem,hz,lz,z1,z2,z3,List.length_map,List.length_replicate,List.drop_replicate,List.append_nil]|fail))
theorem sign18_w {b:Tree} {seed pub:List UInt8} {O:Tree} (hw:b.wt≤5000000) (lp:pub.length=32)
    (h1:Spec Tryz.prog G 23 [.c (bytesD seed)] (.many [.g (pub.map bD),.c (.v (.int .i64 0))]))
    (h2:Spec Tryz.prog G 17 [.g (sgnC b pub (zeroL 64))] (.many [.g (treeC O),.c (.v (.int .i64 3))])) :
    Spec Tryz.prog G 10 [.g (treeC b),.c (bytesD seed)] (.many [.g (sgnC zeroT [] []),.c (.v (.int .i64 3))]):=by
  obtain ⟨p1,p2,p3⟩:=cd_facts (l:=pub.map bD) (n:=32) (by rw [List.length_map,lp])
  have h0:=clone_m (G:=G) b _ rfl (by omega)
  have hb:=treeC_eq b
  have hq:=treeC_eq O
  unfold sgnC bytesD at h2
  rw [zeroL_len,lp,hb,hq] at h2
  rw [hb] at h0 ⊢
  rw [zeroS_C]
  unfold bytesD at *
  refine spec_of Tryz.func10 rfl rfl rfl (by kernel_rfl) rfl fun K=>?_
  (repeat' (first|with_reducible (first|refine zA fun Kn hK=>?_|refine zB (by kernel_rfl) ?_|refine Nx.go ?_|go_step)|(refine ⟨none,?_⟩)|(refine ⟨_,h0,?_⟩)|(refine ⟨_,h1,?_⟩)|(refine ⟨_,h2,?_⟩)|with_reducible (first|refine zI ?_|refine zJ ?_|refine zK ?_ ?_|refine zL ?_ ?_|refine zR (by kernel_rfl) ?_)|simp (maxSteps:=9999999) (disch:=omega) only [wq]|(with_reducible refine zM (fun hb=>?_) (fun hb=>?_) <;> (try simp only [hb]))|(with_reducible refine And.intro (by first|omega|(simp;done)|(simp;omega)) ?_)|simp (maxSteps:=9999999) (implicitDefEqProofs:=false) only [go_sem,zeros_C,zeros_take,zeroL_len,int_beqL,lp,p1,p2,p3,List.length_map,List.length_replicate,List.drop_replicate,List.append_nil]|fail))
theorem sign18_v {b:Tree} {seed pub f sig:List UInt8} {O:Tree} (hw:b.wt≤5000000) (lp:pub.length=32) (lg:sig.length=64)
    (h1:Spec Tryz.prog G 23 [.c (bytesD seed)] (.many [.g (pub.map bD),.c (.v (.int .i64 0))]))
    (h2:Spec Tryz.prog G 17 [.g (sgnC b pub (zeroL 64))] (.many [.g (treeC O),.c (.v (.int .i64 0))]))
    (h3:Spec Tryz.prog G 20 [.g (treeC b)] (.many [.c (bytesD f),.c (.v (.int .i64 0))]))
    (h4:Spec Tryz.prog G 25 [.c (bytesD seed),.c (bytesD f)] (.many [.g (sig.map bD),.c (.v (.int .i64 0))])) :
    Spec Tryz.prog G 10 [.g (treeC b),.c (bytesD seed)] (.many [.g (sgnC b pub sig),.c (.v (.int .i64 0))]):=by
  obtain ⟨p1,p2,p3⟩:=cd_facts (l:=pub.map bD) (n:=32) (by rw [List.length_map,lp])
  obtain ⟨s1,s2,s3⟩:=cd_facts (l:=sig.map bD) (n:=64) (by rw [List.length_map,lg])
  have h0:=clone_m (G:=G) b _ rfl (by omega)
  have hb:=treeC_eq b
  have hq:=treeC_eq O
  unfold sgnC bytesD at *
  rw [zeroL_len,lp,hb,hq] at h2
  rw [hb] at h0 h3 ⊢
  rw [lp,lg]
  refine spec_of Tryz.func10 rfl rfl rfl (by kernel_rfl) rfl fun K=>?_
  (repeat' (first|with_reducible (first|refine zA fun Kn hK=>?_|refine zB (by kernel_rfl) ?_|refine Nx.go ?_|go_step)|(refine ⟨none,?_⟩)|(refine ⟨_,h0,?_⟩)|(refine ⟨_,h1,?_⟩)|(refine ⟨_,h2,?_⟩)|(refine ⟨_,h3,?_⟩)|(refine ⟨_,h4,?_⟩)|with_reducible (first|refine zI ?_|refine zJ ?_|refine zK ?_ ?_|refine zL ?_ ?_|refine zR (by kernel_rfl) ?_)|simp (maxSteps:=9999999) (disch:=omega) only [wq]|(with_reducible refine zM (fun hb=>?_) (fun hb=>?_) <;> (try simp only [hb]))|(with_reducible refine And.intro (by first|omega|(simp;done)|(simp;omega)) ?_)|simp (maxSteps:=9999999) (implicitDefEqProofs:=false) only [go_sem,zeros_C,zeros_take,zeroL_len,int_beqL,lp,lg,p1,p2,p3,s1,s2,s3,List.length_map,List.length_replicate,List.drop_replicate,List.append_nil]|fail))
theorem sign18_yes (hG:G 0=some powD) (b:Tree) (seed:List UInt8) (hw:b.wt≤5000000) (ls:seed.length=32) (h:sMay b (pubB seed) (zeroL 64)=true):Spec Tryz.prog G 10 [.g (treeC b),.c (bytesD seed)] (.many [.g (sgnC b (pubB seed) (sigB seed b.form)),.c (.v (.int .i64 0))]):=by
  have h1:=epub_m (G:=G) seed ls
  have h4:=fun h=>esign_m (G:=G) seed b.form ls h
  have lp:=pubB_len seed
  have lg:=sigB_len seed b.form
  generalize pubB seed=P at *
  generalize sigB seed b.form=X at *
  have h2:=sput18_m hG b P (zeroL 64) hw (by omega) (by rw [zeroL_len];omega)
  have h3:=sput_m (G:=G) hG b rfl (by omega)
  have hm:=signed_body h
  rw [sErr,if_pos h] at h2
  rw [if_pos hm] at h3
  exact sign18_v hw lp lg h1 h2 h3 (h4 (by have:=may_form hm;omega))
theorem sign18_any (hG:G 0=some powD) (b:Tree) (seed:List UInt8) (hw:b.wt≤5000000) (ls:seed.length=32) (h:sMay b (pubB seed) (zeroL 64)=false):Spec Tryz.prog G 10 [.g (treeC b),.c (bytesD seed)] (.many [.g (sgnC zeroT [] []),.c (.v (.int .i64 3))]):=by
  have h1:=epub_m (G:=G) seed ls
  have lp:=pubB_len seed
  generalize pubB seed=P at *
  have h2:=sput18_m hG b P (zeroL 64) hw (by omega) (by rw [zeroL_len];omega)
  rw [sErr,if_neg (by rw [h];simp)] at h2
  exact sign18_w hw lp h1 h2
end
end Go.Proofs.YtdakeodebgggfaaGreatDoor
namespace Go.Proofs.YtdakeodebgggfaaGreatDoor
open Go.RowKit
theorem right_sign (seed:List UInt8) {b:Tree} (h:sMay b (pubB seed) (zeroL 64)=true):rightB b (pubB seed) (sigB seed b.form)=true:=by
  rw [rightB,sMay_sig (s':=zeroL 64) (by rw [sigB_len,zeroL_len]),h,sign_ok]
  rfl
section
variable {G:Nat→Option (List D)}
theorem zero_same:Spec Tryz.prog G 11 [.g (sgnC zeroT [] []),.g (sgnC zeroT [] [])] (.one (.c (.v (.bool true)))):=by
  have h:=rsame18_m (G:=G) zeroT zeroT [] [] [] [] (by simp [Tree.wt_eq,zeroT,Tree.hint,Tree.data,Tree.kids])
  rw [same_t rfl] at h
  exact h
structure LawR (G:Nat→Option (List D)) (b:Tree) (seed:List UInt8) (S:List D) (q:Bool):Prop where
  g1:Spec Tryz.prog G 5 [.g (treeC b),.c (.v (.int .i64 0))] (.one (.c (.v (.bool false))))
  g2:Spec Tryz.prog G 6 [.g S] (.one (.c (.v (.bool false))))
  r1:Spec Tryz.prog G 8 [.g S] (.one (.c (.v (.bool q))))
  r2:Spec Tryz.prog G 9 [.g S] (.one (.c (.v (.bool q))))
  d:decide (200<(seed.length:Int))=false
theorem lawR_bad {b sb:Tree} {seed sp ss:List UInt8} {q:Bool} {e:Int} (ls:(seed.length==32)=false) (h:LawR G b seed (sgnC sb sp ss) q) (h1:Spec Tryz.prog G 10 [.g (treeC b),.c (bytesD seed)] (.many [.g (sgnC zeroT [] []),.c (.v (.int .i64 1))]))
    (hw:Spec Tryz.prog G 7 [] (.one (.c (.v (.bool true))))):Spec Tryz.prog G 3 [.g (treeC b),.c (bytesD seed),.g (sgnC sb sp ss)] (.one (.c (.v (.bool true)))):=by
  obtain ⟨g1,g2,r1,r2,d⟩:=h
  have hz:=zero_same (G:=G)
  have hb:=treeC_eq b
  have hs:=treeC_eq sb
  rw [zeroS_C] at h1 hz
  unfold sgnC at *
  rw [hs] at g2 r1 r2 ⊢
  rw [hb] at g1 h1 ⊢
  unfold bytesD at *
  cases q
  all_goals
    refine spec_of Tryz.func3 rfl rfl rfl (by kernel_rfl) rfl fun K=>?_
    (repeat' (first|with_reducible (first|refine zA fun Kn hK=>?_|refine zB (by kernel_rfl) ?_|refine Nx.go ?_|go_step)|(refine ⟨_,g1,?_⟩)|(refine ⟨_,g2,?_⟩)|(refine ⟨_,r1,?_⟩)|(refine ⟨_,r2,?_⟩)|(refine ⟨_,h1,?_⟩)|(refine ⟨_,hz,?_⟩)|(refine ⟨_,hw,?_⟩)|with_reducible (first|refine zI ?_|refine zJ ?_|refine zK ?_ ?_|refine zL ?_ ?_|refine zR (by kernel_rfl) ?_)|simp (maxSteps:=9999999) (disch:=omega) only [wq]|(with_reducible refine zM (fun hb=>?_) (fun hb=>?_) <;> (try simp only [hb]))|(with_reducible refine And.intro (by first|omega|(simp;done)|(simp;omega)) ?_)|simp (maxSteps:=9999999) (implicitDefEqProofs:=false) only [go_sem,gt_iff_lt,d,int_beqL,ls,List.length_map]|fail))
theorem lawR_not {b sb:Tree} {seed sp ss pub Z:List UInt8} {q:Bool} {e:Int} (lp:pub.length=32) (ls:(seed.length==32)=true) (h:LawR G b seed (sgnC sb sp ss) q) (h1:Spec Tryz.prog G 10 [.g (treeC b),.c (bytesD seed)] (.many [.g (sgnC zeroT [] []),.c (.v (.int .i64 3))]))
    (h2:Spec Tryz.prog G 12 [.c (bytesD seed)] (.one (.c (.sl 32 (pub.map bD)))))
    (h3:Spec Tryz.prog G 13 [.g (sgnC b pub (zeroL 64))] (.one (.c (.v (.bool false)))))
    (hw:Spec Tryz.prog G 7 [] (.one (.c (.v (.bool true))))):Spec Tryz.prog G 3 [.g (treeC b),.c (bytesD seed),.g (sgnC sb sp ss)] (.one (.c (.v (.bool true)))):=by
  obtain ⟨g1,g2,r1,r2,d⟩:=h
  have hz:=zero_same (G:=G)
  have hb:=treeC_eq b
  have hs:=treeC_eq sb
  rw [zeroS_C] at h1 hz
  unfold sgnC bytesD at *
  rw [zeroL_len,lp] at h3
  rw [hs] at g2 r1 r2 ⊢
  rw [hb] at g1 h1 h3 ⊢
  cases q
  all_goals
    refine spec_of Tryz.func3 rfl rfl rfl (by kernel_rfl) rfl fun K=>?_
    (repeat' (first|with_reducible (first|refine zA fun Kn hK=>?_|refine zB (by kernel_rfl) ?_|refine Nx.go ?_|go_step)|(refine ⟨none,?_⟩)|(refine ⟨_,g1,?_⟩)|(refine ⟨_,g2,?_⟩)|(refine ⟨_,r1,?_⟩)|(refine ⟨_,r2,?_⟩)|(refine ⟨_,h1,?_⟩)|(refine ⟨_,h2,?_⟩)|(refine ⟨_,h3,?_⟩)|(refine ⟨_,hz,?_⟩)|(refine ⟨_,hw,?_⟩)|with_reducible (first|refine zI ?_|refine zJ ?_|refine zK ?_ ?_|refine zL ?_ ?_|refine zR (by kernel_rfl) ?_)|simp (maxSteps:=9999999) (disch:=omega) only [wq]|(with_reducible refine zM (fun hb=>?_) (fun hb=>?_) <;> (try simp only [hb]))|(with_reducible refine And.intro (by first|omega|(simp;done)|(simp;omega)) ?_)|simp (maxSteps:=9999999) (implicitDefEqProofs:=false) only [go_sem,gt_iff_lt,d,int_beqL,ls,lp,zeros_C,zeros_take,zeroL_len,List.length_map,List.length_replicate,List.drop_replicate,List.append_nil]|fail))
theorem lawR_ok {b sb:Tree} {seed sp ss pub sig f:List UInt8} {q:Bool} (lp:pub.length=32) (lg:sig.length=64) (ls:(seed.length==32)=true) (h:LawR G b seed (sgnC sb sp ss) q) (h1:Spec Tryz.prog G 10 [.g (treeC b),.c (bytesD seed)] (.many [.g (sgnC b pub sig),.c (.v (.int .i64 0))]))
    (h2:Spec Tryz.prog G 12 [.c (bytesD seed)] (.one (.c (.sl 32 (pub.map bD)))))
    (h3:Spec Tryz.prog G 13 [.g (sgnC b pub (zeroL 64))] (.one (.c (.v (.bool true)))))
    (h4:Spec Tryz.prog G 15 [.g (treeC b)] (.one (.c (bytesD f))))
    (h5:Spec Tryz.prog G 14 [.c (bytesD seed),.c (bytesD f)] (.one (.c (.sl 64 (sig.map bD)))))
    (h6:Spec Tryz.prog G 11 [.g (sgnC b pub sig),.g (sgnC b pub sig)] (.one (.c (.v (.bool true)))))
    (h7:Spec Tryz.prog G 8 [.g (sgnC b pub sig)] (.one (.c (.v (.bool true)))))
    (hw:Spec Tryz.prog G 7 [] (.one (.c (.v (.bool true))))):Spec Tryz.prog G 3 [.g (treeC b),.c (bytesD seed),.g (sgnC sb sp ss)] (.one (.c (.v (.bool true)))):=by
  obtain ⟨g1,g2,r1,r2,d⟩:=h
  have hb:=treeC_eq b
  have hs:=treeC_eq sb
  unfold sgnC bytesD at *
  rw [zeroL_len,lp] at h3
  rw [lp,lg] at h1 h6 h7
  rw [hs] at g2 r1 r2 ⊢
  rw [hb] at g1 h1 h3 h4 h6 h7 ⊢
  cases q
  all_goals
    refine spec_of Tryz.func3 rfl rfl rfl (by kernel_rfl) rfl fun K=>?_
    (repeat' (first|with_reducible (first|refine zA fun Kn hK=>?_|refine zB (by kernel_rfl) ?_|refine Nx.go ?_|go_step)|(refine ⟨none,?_⟩)|(refine ⟨_,g1,?_⟩)|(refine ⟨_,g2,?_⟩)|(refine ⟨_,r1,?_⟩)|(refine ⟨_,r2,?_⟩)|(refine ⟨_,h1,?_⟩)|(refine ⟨_,h2,?_⟩)|(refine ⟨_,h3,?_⟩)|(refine ⟨_,h4,?_⟩)|(refine ⟨_,h5,?_⟩)|(refine ⟨_,h6,?_⟩)|(refine ⟨_,h7,?_⟩)|(refine ⟨_,hw,?_⟩)|with_reducible (first|refine zI ?_|refine zJ ?_|refine zK ?_ ?_|refine zL ?_ ?_|refine zR (by kernel_rfl) ?_)|simp (maxSteps:=9999999) (disch:=omega) only [wq]|(with_reducible refine zM (fun hb=>?_) (fun hb=>?_) <;> (try simp only [hb]))|(with_reducible refine And.intro (by first|omega|(simp;done)|(simp;omega)) ?_)|simp (maxSteps:=9999999) (implicitDefEqProofs:=false) only [go_sem,gt_iff_lt,d,int_beqL,ls,lp,lg,zeros_C,zeros_take,zeroL_len,List.length_map,List.length_replicate,List.drop_replicate,List.append_nil]|fail))
theorem lawR_great {b sb:Tree} {seed sp ss:List UInt8} {q1 q2:Bool} (g1:Spec Tryz.prog G 5 [.g (treeC b),.c (.v (.int .i64 0))] (.one (.c (.v (.bool q1))))) (g2:Spec Tryz.prog G 6 [.g (sgnC sb sp ss)] (.one (.c (.v (.bool q2)))))
    (hq:q1=true∨q2=true∨decide (200<(seed.length:Int))=true) (hw:Spec Tryz.prog G 7 [] (.one (.c (.v (.bool true))))):Spec Tryz.prog G 3 [.g (treeC b),.c (bytesD seed),.g (sgnC sb sp ss)] (.one (.c (.v (.bool true)))):=by
  have hb:=treeC_eq b
  have hs:=treeC_eq sb
  unfold sgnC bytesD at *
  rw [hs] at g2 ⊢
  rw [hb] at g1 ⊢
  cases q1 <;> cases q2 <;> cases d:decide (200<(seed.length:Int))
  case false.false.false=>simp [d] at hq
  all_goals
    clear hq
    refine spec_of Tryz.func3 rfl rfl rfl (by kernel_rfl) rfl fun K=>?_
    (repeat' (first|with_reducible (first|refine zA fun Kn hK=>?_|refine zB (by kernel_rfl) ?_|refine Nx.go ?_|go_step)|(refine ⟨_,g1,?_⟩)|(refine ⟨_,g2,?_⟩)|(refine ⟨_,hw,?_⟩)|with_reducible (first|refine zI ?_|refine zJ ?_|refine zK ?_ ?_|refine zL ?_ ?_|refine zR (by kernel_rfl) ?_)|simp (maxSteps:=9999999) (disch:=omega) only [wq]|(with_reducible refine zM (fun hb=>?_) (fun hb=>?_) <;> (try simp only [hb]))|(with_reducible refine And.intro (by first|omega|(simp;done)|(simp;omega)) ?_)|simp (maxSteps:=9999999) (implicitDefEqProofs:=false) only [go_sem,gt_iff_lt,d,List.length_map]|fail))
theorem signedright_m (hG:G 0=some powD) (b:Tree) (seed:List UInt8) (s:Tree × List UInt8 × List UInt8) (hb:b.wt≤2000000) (hsd:seed.length≤2000000) (hs:s.1.wt+s.2.1.length+s.2.2.length≤2000000) :
    Spec Tryz.prog G 3 [.g (treeC b),.c (bytesD seed),.g (sgnC s.1 s.2.1 s.2.2)] (.one (.c (.v (.bool true)))):=by
  obtain ⟨sb,sp,ss⟩:=s
  dsimp only at *
  have hw:=awake18_m (G:=G) hG
  have g1:=great_m (G:=G) b _ 0 rfl (by omega) (by omega)
  have g2:=rgreat18_m (G:=G) sb sp ss (by omega)
  by_cases hq:b.great 0=true∨sgnGreat sb sp ss=true∨decide (200<(seed.length:Int))=true
  · exact lawR_great g1 g2 hq hw
  · simp only [not_or,Bool.not_eq_true] at hq
    obtain ⟨q1,q2,d⟩:=hq
    rw [q1] at g1
    rw [q2] at g2
    have hd:seed.length≤200:=by
      have:=of_decide_eq_false d
      omega
    rw [sgnGreat,Bool.or_eq_false_iff,Bool.or_eq_false_iff] at q2
    have lsp:=of_decide_eq_false q2.1.2
    have lss:=of_decide_eq_false q2.2
    have h:LawR G b seed (sgnC sb sp ss) (rightB sb sp ss):=⟨g1,g2,right18_m hG sb sp ss (by omega) (by omega) (by omega),rright18_m sb sp ss (by omega) (by omega) (by omega),d⟩
    by_cases ls:seed.length=32
    · have h1:=fun h=>sign18_yes hG b seed (by omega) ls h
      have h9:=fun h=>sign18_any hG b seed (by omega) ls h
      have h2:=rpub_m (G:=G) seed (by omega)
      have h5:=fun h=>rsign_m (G:=G) seed b.form ls h
      have h8:=fun h=>right_sign seed (b:=b) h
      have lp:=pubB_len seed
      have lg:=sigB_len seed b.form
      have l32:(seed.length==32)=true:=by simpa using ls
      generalize pubB seed=P at *
      generalize sigB seed b.form=X at *
      have h3:=rmay18_m (G:=G) b P (zeroL 64) (by omega) (by omega) (by rw [zeroL_len];omega)
      by_cases hm:sMay b P (zeroL 64)=true
      · rw [hm] at h3
        have hf:=may_form (signed_body hm)
        have h4:=form_m (G:=G) b _ rfl (by omega)
        have h6:=rsame18_m (G:=G) b b P X P X (by omega)
        rw [same_t rfl,beq_self_eq_true,beq_self_eq_true] at h6
        have h7:=right18_m (G:=G) hG b P X (by omega) (by omega) (by omega)
        rw [h8 hm] at h7
        exact lawR_ok lp lg l32 h (h1 hm) h2 h3 h4 (h5 (by omega)) h6 h7 hw
      · rw [Bool.not_eq_true] at hm
        rw [hm] at h3
        exact lawR_not (e:=0) (Z:=[]) lp l32 h (h9 hm) h2 h3 hw
    · exact lawR_bad (e:=0) (by simpa using ls) h (sign18_bad ls) hw
end
end Go.Proofs.YtdakeodebgggfaaGreatDoor
namespace Go.Proofs.YtdakeodebgggfaaGreatDoor
open Go.ChangeShapes Go.WideShapes Go.ChangeAt Go.RowKit
theorem own:ownKnob Tryz.prog.godebug=none:=by kernel_rfl
end Go.Proofs.YtdakeodebgggfaaGreatDoor
namespace Go.Proofs.YtdakeodebgggfaaGreatDoor
open Go.ChangeShapes Go.WideShapes Go.ChangeAt Go.RowKit
theorem okWide_array {P:Program} {w:World} {r:Reach} {base:Nat} {t e:TypeId} {n:Nat} {v:Value} (ht:P.underlying t=some (.array n e)) (h:Value.okWide P w r base t v): ∃ cs,v= .agg cs∧cs.size=P.cellsOf t:=by
  simp only [Value.okWide,ht] at h
  obtain ⟨cs,h1,h2,_⟩:=h
  exact ⟨cs,h1,h2⟩
theorem open_arr8 {H:Type} {enc:TypeId × Value→H} {P:Program} {w:World} {base:Nat} {sp:Nat→Bool} {held:Bool} {fuel n:Nat} {t e:TypeId} {cs:List Value} {x:DataW H × List MemPlace} (ht:P.underlying t=some (.array n e)) (he:P.underlying e=some (.int .u8)) (h1:P.cellsOf e=1) (h2:P.cellsOf t=n)
    (h:DataW.trod enc P w base sp held fuel t cs=some x): ∃ l:List UInt8,l.length=n∧cs=l.map bV:=by
  obtain ⟨xs,m,_,_,hl,hn,hi⟩:=DataW.trod_array ht h
  rw [h2] at hl
  have hel: ∀ i,i<n→ ∃ b:UInt8,cs[i]?=some (bV b):=fun i hin=>by
    have h3:=hi i hin
    rw [h1,Nat.mul_one,List.getElem?_eq_getElem (by omega)] at h3
    obtain ⟨z,hz,_,hw⟩:=DataW.trod_int he h3
    have hb:0≤z∧z≤255:=bounds_u8 hw
    have h4:cs[i]?=some (.int .u8 z):=by
      have h5:((cs.drop i).take 1)[0]?=some (.int .u8 z):=by rw [hz];rfl
      rw [List.getElem?_take,if_pos (by omega),List.getElem?_drop,Nat.add_zero] at h5
      exact h5
    refine ⟨UInt8.ofNat z.toNat,?_⟩
    rw [h4,bV,UInt8.toNat_ofNat_of_lt' (by simp only [UInt8.size];omega)]
    congr 2
    omega
  have hg: ∀ (cs:List Value) (n:Nat),cs.length=n→(∀ i,i<n→ ∃ b:UInt8,cs[i]?=some (bV b))→ ∃ l:List UInt8,l.length=n∧cs=l.map bV:=by
    intro cs
    induction cs with
    | nil=>intro n hn _;exact ⟨[],hn,rfl⟩
    | cons v cs ih =>
      intro n hn hel
      obtain ⟨b,hb⟩:=hel 0 (by rw [← hn];simp)
      obtain ⟨l,hl,e⟩:=ih (n-1) (by rw [← hn];simp) fun i hin=>by
        obtain ⟨c,hc⟩:=hel (i+1) (by omega)
        exact ⟨c,by simpa using hc⟩
      have hv:v=bV b:=by simpa using hb
      have hp:0<n:=by rw [← hn];simp
      exact ⟨b::l,by rw [List.length_cons,hl];omega,by rw [hv,e];rfl⟩
  exact hg cs n hl hel
theorem drd_arr {w:World} {S:Nat→Prop} {l:List UInt8}:DRd w S (.g (l.map bD)) (.agg (l.map bV).toArray):=
  drd_g ⟨by simp,fun i x u hx hu=>by
    rw [List.getElem?_map] at hx hu
    cases h:l[i]? with
    | none=>rw [h] at hx;cases hx
    | some b =>
      rw [h] at hx hu
      have hx:some (bD b)=some x:=hx
      have hu:some (bV b)=some u:=hu
      injection hx with hx
      injection hu with hu
      subst hx hu
      exact .v _ rfl⟩
end Go.Proofs.YtdakeodebgggfaaGreatDoor
namespace Go.Proofs.YtdakeodebgggfaaGreatDoor
open Go.RowKit
section
variable {G:Nat→Option (List D)}
theorem parts_w {a b:Tree} {seed other p s p' s':List UInt8} {q1 q2 q3:Bool} (l1:seed.length=32) (l2:other.length=32) (lp:p.length=32) (ls:s.length=64) (lp':p'.length=32) (ls':s'.length=64)
    (g1:Spec Tryz.prog G 5 [.g (treeC a),.c (.v (.int .i64 0))] (.one (.c (.v (.bool false))))) (g2:Spec Tryz.prog G 5 [.g (treeC b),.c (.v (.int .i64 0))] (.one (.c (.v (.bool false)))))
    (h1:Spec Tryz.prog G 10 [.g (treeC a),.c (bytesD seed)] (.many [.g (sgnC a p s),.c (.v (.int .i64 0))])) (h2:Spec Tryz.prog G 10 [.g (treeC b),.c (bytesD other)] (.many [.g (sgnC b p' s'),.c (.v (.int .i64 0))]))
    (r1:Spec Tryz.prog G 8 [.g (sgnC a p' s)] (.one (.c (.v (.bool q1))))) (r2:Spec Tryz.prog G 8 [.g (sgnC a p s')] (.one (.c (.v (.bool q2))))) (r3:Spec Tryz.prog G 8 [.g (sgnC b p s)] (.one (.c (.v (.bool q3)))))
    (t1:Spec Tryz.prog G 9 [.g (sgnC a p' s)] (.one (.c (.v (.bool q1))))) (t2:Spec Tryz.prog G 9 [.g (sgnC a p s')] (.one (.c (.v (.bool q2))))) (t3:Spec Tryz.prog G 9 [.g (sgnC b p s)] (.one (.c (.v (.bool q3)))))
    (r4:Spec Tryz.prog G 8 [.g (sgnC a p s)] (.one (.c (.v (.bool true))))) (r5:Spec Tryz.prog G 8 [.g (sgnC b p' s')] (.one (.c (.v (.bool true)))))
    (hw:Spec Tryz.prog G 7 [] (.one (.c (.v (.bool true))))):Spec Tryz.prog G 4 [.g (treeC a),.g (treeC b),.g (seed.map bD),.g (other.map bD)] (.one (.c (.v (.bool true)))):=by
  obtain ⟨x1,x2,x3⟩:=cd_facts (l:=seed.map bD) (n:=32) (by rw [List.length_map,l1])
  obtain ⟨y1,y2,y3⟩:=cd_facts (l:=other.map bD) (n:=32) (by rw [List.length_map,l2])
  have hb:=treeC_eq b
  have ha:=treeC_eq a
  unfold sgnC bytesD at *
  rw [l1,lp,ls] at h1
  rw [l2,lp',ls'] at h2
  rw [lp',ls] at r1 t1
  rw [lp,ls'] at r2 t2
  rw [lp,ls] at r3 t3 r4
  rw [lp',ls'] at r5
  rw [ha] at g1 h1 r1 r2 t1 t2 r4 ⊢
  rw [hb] at g2 h2 r3 t3 r5 ⊢
  refine spec_of Tryz.func4 rfl rfl rfl (by kernel_rfl) rfl fun K=>?_
  (repeat' (first|with_reducible (first|refine zA fun Kn hK=>?_|refine zB (by kernel_rfl) ?_|refine Nx.go ?_|go_step)|(refine ⟨none,?_⟩)|(refine ⟨_,g1,?_⟩)|(refine ⟨_,g2,?_⟩)|(refine ⟨_,h1,?_⟩)|(refine ⟨_,h2,?_⟩)|with_reducible (first|refine zI ?_|refine zJ ?_|refine zK ?_ ?_|refine zL ?_ ?_|refine zR (by kernel_rfl) ?_)|simp (maxSteps:=9999999) (disch:=omega) only [wq]|(with_reducible refine zM (fun hb=>?_) (fun hb=>?_) <;> (try simp only [hb]))|(with_reducible refine And.intro (by first|omega|(simp;done)|(simp;omega)) ?_)|simp (maxSteps:=9999999) (implicitDefEqProofs:=false) only [go_sem,l1,l2,x1,x2,x3,y1,y2,y3,List.length_map,List.length_replicate,List.drop_replicate,List.append_nil]|fail))
  have c0:decide ((0:Int)<((3:Nat):Int))=true:=rfl
  have c1:decide ((1:Int)<((3:Nat):Int))=true:=rfl
  have c2:decide ((2:Int)<((3:Nat):Int))=true:=rfl
  have c3:decide ((3:Int)<((3:Nat):Int))=false:=rfl
  refine sound_loopN 4 ?_
  (repeat' (first|with_reducible (first|refine zA fun Kn hK=>?_|refine zB (by kernel_rfl) ?_|refine Nx.go ?_|go_step)|(refine ⟨none,?_⟩)|(refine ⟨_,r1,?_⟩)|(refine ⟨_,r2,?_⟩)|(refine ⟨_,r3,?_⟩)|(refine ⟨_,r4,?_⟩)|(refine ⟨_,r5,?_⟩)|(refine ⟨_,t1,?_⟩)|(refine ⟨_,t2,?_⟩)|(refine ⟨_,t3,?_⟩)|(refine ⟨_,hw,?_⟩)|with_reducible (first|refine zI ?_|refine zJ ?_|refine zK ?_ ?_|refine zL ?_ ?_|refine zR (by kernel_rfl) ?_)|simp (maxSteps:=9999999) (disch:=omega) only [wq]|(with_reducible refine zM (fun hb=>?_) (fun hb=>?_) <;> (try simp only [hb]))|(with_reducible refine And.intro (by first|omega|(simp;done)|(simp;omega)) ?_)|simp (maxSteps:=9999999) (implicitDefEqProofs:=false) only [go_sem,Int.reduceAdd,c0,c1,c2,c3,bne_self_eq_false,l1,l2,List.length_map,List.length_replicate,List.drop_replicate,List.append_nil]|fail))
theorem parts_no {a b:Tree} {seed other:List UInt8} {q1 q2:Bool} {X Y:Tree} {p s p' s':List UInt8} {e f:Int} (l1:seed.length=32) (l2:other.length=32)
    (g1:Spec Tryz.prog G 5 [.g (treeC a),.c (.v (.int .i64 0))] (.one (.c (.v (.bool q1))))) (g2:Spec Tryz.prog G 5 [.g (treeC b),.c (.v (.int .i64 0))] (.one (.c (.v (.bool q2)))))
    (h1:q1=false→q2=false→Spec Tryz.prog G 10 [.g (treeC a),.c (bytesD seed)] (.many [.g (sgnC X p s),.c (.v (.int .i64 e))])) (h2:q1=false→q2=false→Spec Tryz.prog G 10 [.g (treeC b),.c (bytesD other)] (.many [.g (sgnC Y p' s'),.c (.v (.int .i64 f))]))
    (hq:q1=true∨q2=true∨(e==0)=false∨(f==0)=false)
    (hw:Spec Tryz.prog G 7 [] (.one (.c (.v (.bool true))))):Spec Tryz.prog G 4 [.g (treeC a),.g (treeC b),.g (seed.map bD),.g (other.map bD)] (.one (.c (.v (.bool true)))):=by
  obtain ⟨x1,x2,x3⟩:=cd_facts (l:=seed.map bD) (n:=32) (by rw [List.length_map,l1])
  obtain ⟨y1,y2,y3⟩:=cd_facts (l:=other.map bD) (n:=32) (by rw [List.length_map,l2])
  have hb:=treeC_eq b
  have ha:=treeC_eq a
  have hX:=treeC_eq X
  have hY:=treeC_eq Y
  unfold sgnC bytesD at *
  rw [l1] at h1
  rw [l2] at h2
  rw [ha] at g1 h1 ⊢
  rw [hb] at g2 h2 ⊢
  rw [hX] at h1
  rw [hY] at h2
  cases q1 with
  | true =>
    cases q2
    all_goals
      refine spec_of Tryz.func4 rfl rfl rfl (by kernel_rfl) rfl fun K=>?_
      (repeat' (first|with_reducible (first|refine zA fun Kn hK=>?_|refine zB (by kernel_rfl) ?_|refine Nx.go ?_|go_step)|(refine ⟨_,g1,?_⟩)|(refine ⟨_,g2,?_⟩)|(refine ⟨_,hw,?_⟩)|with_reducible (first|refine zI ?_|refine zJ ?_|refine zK ?_ ?_|refine zL ?_ ?_|refine zR (by kernel_rfl) ?_)|simp (maxSteps:=9999999) (disch:=omega) only [wq]|(with_reducible refine zM (fun hb=>?_) (fun hb=>?_) <;> (try simp only [hb]))|(with_reducible refine And.intro (by first|omega|(simp;done)|(simp;omega)) ?_)|simp (maxSteps:=9999999) (implicitDefEqProofs:=false) only [go_sem,List.length_map]|fail))
  | false =>
    cases q2 with
    | true =>
      refine spec_of Tryz.func4 rfl rfl rfl (by kernel_rfl) rfl fun K=>?_
      (repeat' (first|with_reducible (first|refine zA fun Kn hK=>?_|refine zB (by kernel_rfl) ?_|refine Nx.go ?_|go_step)|(refine ⟨_,g1,?_⟩)|(refine ⟨_,g2,?_⟩)|(refine ⟨_,hw,?_⟩)|with_reducible (first|refine zI ?_|refine zJ ?_|refine zK ?_ ?_|refine zL ?_ ?_|refine zR (by kernel_rfl) ?_)|simp (maxSteps:=9999999) (disch:=omega) only [wq]|(with_reducible refine zM (fun hb=>?_) (fun hb=>?_) <;> (try simp only [hb]))|(with_reducible refine And.intro (by first|omega|(simp;done)|(simp;omega)) ?_)|simp (maxSteps:=9999999) (implicitDefEqProofs:=false) only [go_sem,List.length_map]|fail))
    | false =>
      have h1:=h1 rfl rfl
      have h2:=h2 rfl rfl
      cases d1:e==0 <;> cases d2:f==0
      case true.true=>simp [d1,d2] at hq
      all_goals
        clear hq
        refine spec_of Tryz.func4 rfl rfl rfl (by kernel_rfl) rfl fun K=>?_
        (repeat' (first|with_reducible (first|refine zA fun Kn hK=>?_|refine zB (by kernel_rfl) ?_|refine Nx.go ?_|go_step)|(refine ⟨none,?_⟩)|(refine ⟨_,g1,?_⟩)|(refine ⟨_,g2,?_⟩)|(refine ⟨_,h1,?_⟩)|(refine ⟨_,h2,?_⟩)|(refine ⟨_,hw,?_⟩)|with_reducible (first|refine zI ?_|refine zJ ?_|refine zK ?_ ?_|refine zL ?_ ?_|refine zR (by kernel_rfl) ?_)|simp (maxSteps:=9999999) (disch:=omega) only [wq]|(with_reducible refine zM (fun hb=>?_) (fun hb=>?_) <;> (try simp only [hb]))|(with_reducible refine And.intro (by first|omega|(simp;done)|(simp;omega)) ?_)|simp (maxSteps:=9999999) (implicitDefEqProofs:=false) only [go_sem,d1,d2,l1,l2,x1,x2,x3,y1,y2,y3,List.length_map,List.length_replicate,List.drop_replicate,List.append_nil]|fail))
theorem signedparts_m (hG:G 0=some powD) (a b:Tree) (seed other:List UInt8) (ha:a.wt≤2000000) (hb:b.wt≤2000000) (l1:seed.length=32) (l2:other.length=32) :
    Spec Tryz.prog G 4 [.g (treeC a),.g (treeC b),.g (seed.map bD),.g (other.map bD)] (.one (.c (.v (.bool true)))):=by
  have hw:=awake18_m (G:=G) hG
  have g1:=great_m (G:=G) a _ 0 rfl (by omega) (by omega)
  have g2:=great_m (G:=G) b _ 0 rfl (by omega) (by omega)
  by_cases h1:sMay a (pubB seed) (zeroL 64)=true
  · have s1:=sign18_yes hG a seed (by omega) l1 h1
    by_cases h2:sMay b (pubB other) (zeroL 64)=true
    · have s2:=sign18_yes hG b other (by omega) l2 h2
      by_cases hq:a.great 0=true∨b.great 0=true
      · exact parts_no l1 l2 g1 g2 (fun _ _=>s1) (fun _ _=>s2) (by rcases hq with h|h;exact .inl h;exact .inr (.inl h)) hw
      · simp only [not_or,Bool.not_eq_true] at hq
        rw [hq.1] at g1
        rw [hq.2] at g2
        have R:=fun (t:Tree) (p s:List UInt8) (ht:t.wt≤2000000) (lp:p.length=32) (ls:s.length=64)=>right18_m (G:=G) hG t p s (by omega) (by omega) (by omega)
        have T:=fun (t:Tree) (p s:List UInt8) (ht:t.wt≤2000000) (lp:p.length=32) (ls:s.length=64)=>rright18_m (G:=G) t p s (by omega) (by omega) (by omega)
        have r4:=R a _ _ ha (pubB_len seed) (sigB_len seed a.form)
        have r5:=R b _ _ hb (pubB_len other) (sigB_len other b.form)
        rw [right_sign seed h1] at r4
        rw [right_sign other h2] at r5
        exact parts_w l1 l2 (pubB_len seed) (sigB_len _ _) (pubB_len other) (sigB_len _ _) g1 g2 s1 s2 (R a _ _ ha (pubB_len _) (sigB_len _ _)) (R a _ _ ha (pubB_len _) (sigB_len _ _)) (R b _ _ hb (pubB_len _) (sigB_len _ _)) (T a _ _ ha (pubB_len _) (sigB_len _ _)) (T a _ _ ha (pubB_len _) (sigB_len _ _)) (T b _ _ hb (pubB_len _) (sigB_len _ _)) r4 r5 hw
    · have s2:=sign18_any hG b other (by omega) l2 (by simpa using h2)
      exact parts_no l1 l2 g1 g2 (fun _ _=>s1) (fun _ _=>s2) (.inr (.inr (.inr rfl))) hw
  · have s1:=sign18_any hG a seed (by omega) l1 (by simpa using h1)
    by_cases h2:sMay b (pubB other) (zeroL 64)=true
    · have s2:=sign18_yes hG b other (by omega) l2 h2
      exact parts_no l1 l2 g1 g2 (fun _ _=>s1) (fun _ _=>s2) (.inr (.inr (.inl rfl))) hw
    · have s2:=sign18_any hG b other (by omega) l2 (by simpa using h2)
      exact parts_no l1 l2 g1 g2 (fun _ _=>s1) (fun _ _=>s2) (.inr (.inr (.inl rfl))) hw
end
end Go.Proofs.YtdakeodebgggfaaGreatDoor
