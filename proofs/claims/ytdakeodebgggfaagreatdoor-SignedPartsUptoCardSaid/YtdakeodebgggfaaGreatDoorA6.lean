/- Parts of the proof, laid together. -/
import Derived.Test.YtdakeodebgggfaaGreatDoorA5
import Derived.RangeFuncBox
import Derived.RangeFuncFrom
import Derived.RangeFuncBound
import Derived.RangeFuncCalls
import Derived.RangeFuncLeaves
import Derived.Shelf.Abstract
import Derived.Shelf.RegionOpen
import Derived.WalkKit
import Derived.OwnWalkIn
import Derived.TacticsInMore
import Derived.LoopNIn
import Derived.LoopIn
set_option linter.unusedVariables false
set_option linter.unusedSimpArgs false
set_option maxRecDepth 100000
set_option maxHeartbeats 8000000
namespace Go.Proofs.YtdakeodebgggfaaGreatDoor
open Go.RowKit
@[go_sem ↓ high] theorem aop_pL {G:Nat→Option (List D)} {sl:Nat→SV} {d:Option Nat} {ty:TypeId} {pos:String} {af:Array Edge} {gd:Option (Nat × Bool)} :
    aop Tryz.prog G (evl G sl) ⟨d,.build 61 ⟨[(0,Operand.const (Value.int IntKind.u64 65517)),(1,Operand.const (Value.int IntKind.u64 65535)),(2,Operand.const (Value.int IntKind.u64 65535)),(3,Operand.const (Value.int IntKind.u64 65535)),(4,Operand.const (Value.int IntKind.u64 65535)),(5,Operand.const (Value.int IntKind.u64 65535)),(6,Operand.const (Value.int IntKind.u64 65535)),(7,Operand.const (Value.int IntKind.u64 65535)),(8,Operand.const (Value.int IntKind.u64 65535)),(9,Operand.const (Value.int IntKind.u64 65535)),(10,Operand.const (Value.int IntKind.u64 65535)),(11,Operand.const (Value.int IntKind.u64 65535)),(12,Operand.const (Value.int IntKind.u64 65535)),(13,Operand.const (Value.int IntKind.u64 65535)),(14,Operand.const (Value.int IntKind.u64 65535)),(15,Operand.const (Value.int IntKind.u64 32767))]⟩,ty,pos,af,gd⟩= .need (true=true) (.need (bldOk Tryz.prog 61=true∨(emptyTy Tryz.prog 61=true∧(false=true))) (Q.done (SV.a (AV.agg ((pL.map nD).map C.d))) [])):=by
  rw [aop_build]
  kernel_rfl
theorem refpow_m {G:Nat→Option (List D)} (x:F) (low lo:Nat) (hw:low<65517) (hl:lo<256):Spec Tryz.prog G 101 [.g ((refC x).map nD),.c (nD low),.c (.v (.int .i64 (lo:Int)))] (.one (.g ((refC (fpow x ((pP-low)/2^lo))).map nD))):=by
  have hmul:=fun y z=>refmul_m (G:=G) y z
  have hone:Spec Tryz.prog G 58 [.c (.v (.int .u64 1))] (.one (.g ((refC 1).map nD))):=refof_m 1 (by omega)
  have hlen:=refC_len
  have hE:=pL_set hw
  have hbits:=fun i (h:i<256)=>dg_bit (e:=pP-low) h
  have hst:=fpow_step x (pP-low)
  have h256:(pP-low)/2^256=0:=Nat.div_eq_of_lt (Nat.lt_of_le_of_lt (Nat.sub_le _ _) (by decide +kernel))
  have h0:fpow x ((pP-low)/2^256)=1:=by rw [h256,fpow_zero]
  generalize hee:pP-low=e at *
  clear h256 hee
  have hEl:(dg 16 e).length=16:=dg_len 16 e
  rw [← hE] at hbits hEl
  generalize hEL:pL.set 0 (65517-low)=E at *
  have hnl:nD low=D.v (.int .u64 (low:Int)):=rfl
  rw [hnl]
  have hd0:(65517+(18446744073709551616-low%18446744073709551616))%18446744073709551616=65517-low:=by omega
  have hd1:IntKind.u64.wrap (65517-(low:Int))=((65517-low:Nat):Int):=by
    rw [show (65517:Int)-(low:Int)=((65517-low:Nat):Int) by omega,wrap_nat,Nat.mod_eq_of_lt (by omega)]
  have hcd:=fun (y:F)=>cd_facts (l:=(refC y).map nD) (n:=16) (by rw [List.length_map];exact hlen y)
  obtain ⟨a1,a2,a3⟩:=hcd x
  have hla:=hlen x
  obtain ⟨u1,u2,u3⟩:=hcd 1
  have hl1:=hlen 1
  obtain ⟨p1,p2,p3⟩:=cd_facts (l:=pL.map nD) (n:=16) rfl
  have hpl:pL.length=16:=rfl
  have hp0:=numsC_get (l:=pL) (k:=0) (by decide)
  have hpg0:pL.getD 0 0=65517:=rfl
  rw [hpg0] at hp0
  have hEcells:(E.map nD).map C.d=(((pL.set 0 (65517-low)).map nD).map C.d):=by rw [hEL]
  refine spec_of Tryz.func101 rfl rfl rfl (by kernel_rfl) rfl fun K=>?_
  (repeat' (first|with_reducible (first|refine zA fun Kn hK=>?_|refine zB (by kernel_rfl) ?_|refine Nx.go ?_|go_step)|(refine ⟨_,hone,?_⟩)|with_reducible (first|refine zI ?_|refine zJ ?_|refine zK ?_ ?_|refine zL ?_ ?_|refine zR (by kernel_rfl) ?_)|simp (maxSteps:=9999999) (disch:=omega) only [wq]|(with_reducible refine zM (fun hb=>?_) (fun hb=>?_) <;> (try simp only [hb]))|(with_reducible refine And.intro (by first|omega|(simp;done)|(simp;omega)) ?_)|simp (maxSteps:=9999999) (implicitDefEqProofs:=false) only [go_sem,hd0,hd1,hp0,hpl,p1,p2,p3,List.length_map,List.length_replicate,List.drop_replicate,List.take_replicate,hla,hl1,a1,a2,a3,u1,u2,u3,List.append_nil]|fail))
  refine sound_loopR (fun y:{k:Nat // k≤256-lo}=>⟨[(2,vI lo),(3,vP 3 0),(6,vP 6 0),(7,vP 7 0),(8,vP 8 0),(9,vI (255-(y.1:Int)))],[(3,some ⟨61,((refC x).map nD).map C.d,true,false⟩),(6,some ⟨61,zeroOf Tryz.prog 61,true,false⟩),(7,some ⟨61,(E.map nD).map C.d,true,false⟩),(8,some ⟨61,((refC (fpow x (e/2^(256-y.1)))).map nD).map C.d,true,false⟩)]⟩) (fun y=>256-y.1) ⟨0,by omega⟩ [] (by (iterate 2 ((try simp (maxSteps:=9999999) (implicitDefEqProofs:=false) only [go_sem,hEcells,h0]);(try simp (maxSteps:=9999999) (disch:=omega) only [wq])));try simp [pL,nD,h0,Int.ofNat_sub (Nat.le_of_lt hw)]) (fun ⟨k,hk⟩=>?_)
  by_cases hlt:k<256-lo
  · obtain ⟨j,hj⟩: ∃ j,255-k=j:=⟨_,rfl⟩
    have e1:(255:Int)-(k:Int)=(j:Int):=by omega
    have hb1:decide ((j:Int)≥(lo:Int))=true:=decide_eq_true (by omega)
    have hbit:=hbits j (by omega)
    have hs:=hst j
    rw [show j+1=256-k by omega] at hs
    have hnx:fpow x (e/2^(256-(k+1)))=fpow x (e/2^j):=by rw [show 256-(k+1)=j by omega]
    have hm1:=hmul (fpow x (e/2^(256-k))) (fpow x (e/2^(256-k)))
    have hm2:=hmul (fpow x (e/2^(256-k))*fpow x (e/2^(256-k))) x
    generalize fpow x (e/2^(256-k))=y at *
    obtain ⟨y1,y2,y3⟩:=hcd y
    have hly:=hlen y
    obtain ⟨z1,z2,z3⟩:=hcd (y*y)
    have hlz:=hlen (y*y)
    obtain ⟨w1,w2,w3⟩:=hcd (y*y*x)
    have hlw:=hlen (y*y*x)
    have hg:=numsC_get (l:=E) (k:=j/16) (by omega)
    generalize hdg:E.getD (j/16) 0=d at *
    rw [e1]
    (repeat' (first|with_reducible (first|refine zA fun Kn hK=>?_|refine zB (by kernel_rfl) ?_|refine Nx.go ?_|go_step)|(refine ⟨_,hm1,?_⟩)|with_reducible (first|refine zI ?_|refine zJ ?_|refine zK ?_ ?_|refine zL ?_ ?_|refine zR (by kernel_rfl) ?_)|simp (maxSteps:=9999999) (disch:=omega) only [wq]|(with_reducible refine zM (fun hb=>?_) (fun hb=>?_) <;> (try simp only [hb]))|(with_reducible refine And.intro (by first|omega|(simp;done)|(simp;omega)) ?_)|simp (maxSteps:=9999999) (implicitDefEqProofs:=false) only [go_sem,hb1,hg,List.length_map,hEl,hly,hlz,y1,y2,y3,z1,z2,z3,List.append_nil]|fail))
    have hdl:d<18446744073709551616:=by
      have hd2: ∀ z∈E,z<65536:=by rw [hE];exact dg_lt 16 e
      have:=(all_getD (by omega)).1 hd2 (j/16) (by omega)
      omega
    refine sound_loopR (fun q:{i:Nat // i≤j%16}=>⟨[(2,vI lo),(3,vP 3 0),(6,vP 6 0),(7,vP 7 0),(8,vP 8 0),(9,vI j),(10,.a (.c (.d (nD (d/2^q.1))))),(11,vI q.1)],[(3,some ⟨61,((refC x).map nD).map C.d,true,false⟩),(6,some ⟨61,zeroOf Tryz.prog 61,true,false⟩),(7,some ⟨61,(E.map nD).map C.d,true,false⟩),(8,some ⟨61,((refC (y*y)).map nD).map C.d,true,false⟩)]⟩) (fun q=>16-q.1) ⟨0,Nat.zero_le _⟩ [] (by (iterate 2 ((try simp (maxSteps:=9999999) (implicitDefEqProofs:=false) only [go_sem,true_and]);(try simp (maxSteps:=9999999) (disch:=omega) only [wq])));try simp [nD]) (fun ⟨i,hi⟩=>?_)
    by_cases hij:i<j%16
    · have hb2:decide ((i:Int)<((j%16:Nat):Int))=true:=decide_eq_true (by omega)
      have hs2:d/2^(i+1)=d/2^i/2:=by rw [Nat.pow_succ,Nat.div_div_eq_div_mul]
      have hle:d/2^i≤d:=Nat.div_le_self _ _
      have hq:d/2^i/2%18446744073709551616=d/2^i/2:=Nat.mod_eq_of_lt (by omega)
      (repeat' (first|with_reducible (first|refine zA fun Kn hK=>?_|refine zB (by kernel_rfl) ?_|refine Nx.go ?_|go_step)|fail|with_reducible (first|refine zI ?_|refine zJ ?_|refine zK ?_ ?_|refine zL ?_ ?_|refine zR (by kernel_rfl) ?_)|simp (maxSteps:=9999999) (disch:=omega) only [wq]|(with_reducible refine zM (fun hb=>?_) (fun hb=>?_) <;> (try simp only [hb]))|(with_reducible refine And.intro (by first|omega|(simp;done)|(simp;omega)) ?_)|simp (maxSteps:=9999999) (implicitDefEqProofs:=false) only [go_sem,hb2,hq,wrap_nat]|fail))
      refine ⟨[],⟨i+1,hij⟩,?_⟩
      (iterate 2 ((try simp (maxSteps:=9999999) (implicitDefEqProofs:=false) only [go_sem,hs2]);(try simp (maxSteps:=9999999) (disch:=omega) only [wq])))
      try (simp only [ijq,true_and,and_true];first|done|omega|(split <;> omega)|(simp;done)|(simp;omega))
    · have hb2:decide ((i:Int)<((j%16:Nat):Int))=false:=decide_eq_false (by omega)
      obtain rfl:i=j%16:=by omega
      have hle:d/2^(j%16)≤d:=Nat.div_le_self _ _
      generalize d/2^(j%16)=dd at *
      have hm:dd%2%18446744073709551616=dd%2:=Nat.mod_eq_of_lt (by omega)
      by_cases h1:e/2^j%2=1
      · rw [if_pos h1] at hs
        rw [h1] at hbit
        have hbb:(dd%2==1)=true:=by rw [hbit];rfl
        rw [← hnx] at hs
        (repeat' (first|with_reducible (first|refine zA fun Kn hK=>?_|refine zB (by kernel_rfl) ?_|refine Nx.go ?_|go_step)|(refine ⟨_,hm2,?_⟩)|with_reducible (first|refine zI ?_|refine zJ ?_|refine zK ?_ ?_|refine zL ?_ ?_|refine zR (by kernel_rfl) ?_)|simp (maxSteps:=9999999) (disch:=omega) only [wq]|(with_reducible refine zM (fun hb=>?_) (fun hb=>?_) <;> (try simp only [hb]))|(with_reducible refine And.intro (by first|omega|(simp;done)|(simp;omega)) ?_)|simp (maxSteps:=9999999) (implicitDefEqProofs:=false) only [go_sem,hb2,hm,hbb,int_beqL,wrap_nat,List.length_map,hla,hlz,hlw,a1,a2,a3,z1,z2,z3,w1,w2,w3,List.append_nil]|fail))
        refine ⟨[],⟨k+1,by omega⟩,?_⟩
        (iterate 2 ((try simp (maxSteps:=9999999) (implicitDefEqProofs:=false) only [go_sem,hs]);(try simp (maxSteps:=9999999) (disch:=omega) only [wq])))
        try (simp only [ijq,true_and,and_true];first|done|omega|(split <;> omega)|(simp;done)|(simp;omega))
      · rw [if_neg h1] at hs
        have hbb:(dd%2==1)=false:=by rw [hbit];simpa using h1
        rw [← hnx] at hs
        (repeat' (first|with_reducible (first|refine zA fun Kn hK=>?_|refine zB (by kernel_rfl) ?_|refine Nx.go ?_|go_step)|(refine ⟨_,hm2,?_⟩)|with_reducible (first|refine zI ?_|refine zJ ?_|refine zK ?_ ?_|refine zL ?_ ?_|refine zR (by kernel_rfl) ?_)|simp (maxSteps:=9999999) (disch:=omega) only [wq]|(with_reducible refine zM (fun hb=>?_) (fun hb=>?_) <;> (try simp only [hb]))|(with_reducible refine And.intro (by first|omega|(simp;done)|(simp;omega)) ?_)|simp (maxSteps:=9999999) (implicitDefEqProofs:=false) only [go_sem,hb2,hm,hbb,int_beqL,wrap_nat,List.length_map,hla,hlz,hlw,a1,a2,a3,z1,z2,z3,w1,w2,w3,List.append_nil]|fail))
        refine ⟨[],⟨k+1,by omega⟩,?_⟩
        (iterate 2 ((try simp (maxSteps:=9999999) (implicitDefEqProofs:=false) only [go_sem,hs]);(try simp (maxSteps:=9999999) (disch:=omega) only [wq])))
        try (simp only [ijq,true_and,and_true];first|done|omega|(split <;> omega)|(simp;done)|(simp;omega))
  · obtain rfl:k=256-lo:=by omega
    have e1:(255:Int)-((256-lo:Nat):Int)=(lo:Int)-1:=by omega
    have hb1:decide ((lo:Int)-1≥(lo:Int))=false:=decide_eq_false (by omega)
    rw [e1,show 256-(256-lo)=lo by omega]
    obtain ⟨y1,y2,y3⟩:=hcd (fpow x (e/2^lo))
    have hly:=hlen (fpow x (e/2^lo))
    generalize fpow x (e/2^lo)=y at *
    (repeat' (first|with_reducible (first|refine zA fun Kn hK=>?_|refine zB (by kernel_rfl) ?_|refine Nx.go ?_|go_step)|fail|with_reducible (first|refine zI ?_|refine zJ ?_|refine zK ?_ ?_|refine zL ?_ ?_|refine zR (by kernel_rfl) ?_)|simp (maxSteps:=9999999) (disch:=omega) only [wq]|(with_reducible refine zM (fun hb=>?_) (fun hb=>?_) <;> (try simp only [hb]))|(with_reducible refine And.intro (by first|omega|(simp;done)|(simp;omega)) ?_)|simp (maxSteps:=9999999) (implicitDefEqProofs:=false) only [go_sem,hb1,List.length_map,List.length_replicate,List.drop_replicate,hly,y1,y2,y3,List.append_nil]|fail))
theorem refinv_m {G:Nat→Option (List D)} (x:F):Spec Tryz.prog G 60 [.g ((refC x).map nD)] (.one (.g ((refC (finv x)).map nD))):=by
  have h1:Spec Tryz.prog G 101 [.g ((refC x).map nD),.c (.v (.int .u64 2)),.c (.v (.int .i64 0))] (.one (.g ((refC (finv x)).map nD))):=by
    have h:=refpow_m (G:=G) x 2 0 (by omega) (by omega)
    rw [Nat.pow_zero,Nat.div_one] at h
    exact h
  have hla:=refC_len x
  have hlo:=refC_len (finv x)
  generalize refC (finv x)=O at *
  generalize refC x=a at *
  obtain ⟨a1,a2,a3⟩:=cd_facts (l:=a.map nD) (n:=16) (by rw [List.length_map];exact hla)
  obtain ⟨o1,o2,o3⟩:=cd_facts (l:=O.map nD) (n:=16) (by rw [List.length_map];exact hlo)
  refine spec_of Tryz.func60 rfl rfl rfl (by kernel_rfl) rfl fun K=>?_
  (repeat' (first|with_reducible (first|refine zA fun Kn hK=>?_|refine zB (by kernel_rfl) ?_|refine Nx.go ?_|go_step)|(refine ⟨_,h1,?_⟩)|with_reducible (first|refine zI ?_|refine zJ ?_|refine zK ?_ ?_|refine zL ?_ ?_|refine zR (by kernel_rfl) ?_)|simp (maxSteps:=9999999) (disch:=omega) only [wq]|(with_reducible refine zM (fun hb=>?_) (fun hb=>?_) <;> (try simp only [hb]))|(with_reducible refine And.intro (by first|omega|(simp;done)|(simp;omega)) ?_)|simp (maxSteps:=9999999) (implicitDefEqProofs:=false) only [go_sem,List.length_map,List.length_replicate,List.drop_replicate,hla,hlo,a1,a2,a3,o1,o2,o3,List.append_nil]|fail))
end Go.Proofs.YtdakeodebgggfaaGreatDoor
namespace Go.Proofs.YtdakeodebgggfaaGreatDoor
open Go.RowKit
def litN (x:Nat):Lit:= .int .u64 (x:Int)
theorem litN_map: ∀ {l k:List Nat},l.map litN=k.map litN↔l=k
  | [],[]=>by simp
  | [],_::_=>by simp
  | _::_,[]=>by simp
  | x::l,y::k=>by
    rw [List.map_cons,List.map_cons,List.cons.injEq,List.cons.injEq,litN_map (l:=l) (k:=k)]
    simp only [litN,Lit.int.injEq,true_and]
    rw [Int.ofNat_inj]
theorem valsOf_nums {l:List Nat}:valsOf ((l.map nD).map C.d)=some (l.map fun b=> .int .u64 (b:Int)):=by
  induction l with
  | nil=>rfl
  | cons x l ih=>simp only [List.map_cons,nD,valsOf] at ih ⊢;rw [ih];rfl
theorem mapM_nums {f:Nat→Option (List Lit)}: ∀ {l:List Nat} {k:Nat},(∀ i x,l[i]?=some x→f (k+i)=some [litN x])→((List.range' k l.length).mapM f)=some (l.map fun x=>[litN x])
  | [],k,h=>by simp
  | x::l,k,h=>by
    rw [List.length_cons,List.range'_succ,List.mapM_cons,show f k=_ from h 0 x rfl]
    rw [mapM_nums (l:=l) (k:=k+1) fun i y hy=>by rw [show k+1+i=k+(i+1) by omega];exact h (i+1) y (by simpa using hy)]
    rfl
theorem keyL_nums {P:Program} {t e:TypeId} {n:Nat} {l:List Nat} (ht:P.underlying t=some (.array n e)) (he:P.underlying e=some (.int .u64)) (h1:P.cellsOf e=1) (h2:P.cellsOf t=n) (hl:l.length=n) (hb: ∀ x∈l,x<18446744073709551616):KeyL P t ((l.map nD).map C.d) (l.map litN):=by
  refine ⟨2,_,valsOf_nums,by rw [List.length_map,h2];exact hl,?_⟩
  unfold Program.keyLits
  simp only [ht]
  rw [if_pos (by rw [List.length_map,h2];exact hl)]
  rw [← hl,List.range_eq_range',mapM_nums]
  · rw [Option.map_some]
    congr 1
    clear hl hb
    induction l with
    | nil=>rfl
    | cons x l ih=>simpa using ih
  · intro i x hx
    rw [Nat.zero_add,h1,Nat.mul_one]
    have h3:((l.map fun b:Nat=>Value.int .u64 (b:Int)).drop i).take 1=[.int .u64 (x:Int)]:=by
      rw [List.drop_eq_getElem?_toList_append,List.getElem?_map,hx]
      rfl
    rw [h3]
    unfold Program.keyLits
    simp only [he]
    have:(Lit.int .u64 (x:Int)).wf=true:=by
      have:=hb x (List.mem_of_getElem? hx)
      simp only [Lit.wf,Bool.and_eq_true,decide_eq_true_eq]
      rw [show IntKind.u64.min=0 by decide,show IntKind.u64.max=18446744073709551615 by decide]
      omega
    simp [this,litN]
def rawL:List UInt8→List Nat
  | x::y::l=>(x.toNat+256*y.toNat)::rawL l
  | _=>[]
theorem rawL_val: ∀ (k:Nat) (l:List UInt8),l.length=2*k→vV (rawL l)=leV l∧(rawL l).length=k∧ ∀ z∈rawL l,z<65536
  | 0,[],_=>⟨rfl,rfl,by simp [rawL]⟩
  | k + 1,x::y::l,h=>by
    obtain ⟨h1,h2,h3⟩:=rawL_val k l (by simp at h;omega)
    have hx:=x.toNat_lt
    have hy:=y.toNat_lt
    refine ⟨?_,by rw [rawL,List.length_cons,h2],fun z hz=>?_⟩
    · rw [rawL,vV,h1,leV,leV]
      omega
    · rw [rawL,List.mem_cons] at hz
      rcases hz with h|h
      · rw [h];omega
      · exact h3 z h
theorem rawL_get: ∀ {k:Nat} {l:List UInt8} {x y:UInt8},l[2*k]?=some x→l[2*k+1]?=some y→(rawL l).getD k 0=x.toNat+256*y.toNat
  | 0,u::v::l,x,y,h1,h2=>by
    obtain rfl:u=x:=by simpa using h1
    obtain rfl:v=y:=by simpa using h2
    rfl
  | 0,[u],x,y,h1,h2=>by simp at h2
  | 0,[],x,y,h1,h2=>by simp at h1
  | k+1,u::v::l,x,y,h1,h2=>by
    rw [rawL,List.getD_cons_succ]
    exact rawL_get (by rw [show 2*(k+1)=2*k+1+1 by omega] at h1;simpa using h1) (by rw [show 2*(k+1)+1=2*k+1+1+1 by omega] at h2;simpa using h2)
  | k+1,[u],x,y,h1,h2=>by
    rw [show 2*(k+1)+1=2*k+2+1 by omega] at h2
    simp at h2
  | k+1,[],x,y,h1,h2=>by simp at h1
theorem set_take {l:List Nat} {r:List Nat} {k:Nat} (hk:k<16) (hl:l.length=16) (h:r=l.take k++List.replicate (16-k) 0):r.set k (l.getD k 0)=l.take (k+1)++List.replicate (16-(k+1)) 0:=by
  subst h
  refine List.ext_getElem? fun j=>?_
  rw [List.getElem?_set]
  by_cases h1:k=j
  · subst h1
    rw [if_pos rfl,if_pos (by simp;omega),List.getElem?_append_left (by rw [List.length_take];omega),List.getElem?_take_of_lt (by omega),List.getD_eq_getElem?_getD,List.getElem?_eq_getElem (by omega)]
    rfl
  · rw [if_neg h1]
    by_cases h2:j<k
    · rw [List.getElem?_append_left (by rw [List.length_take];omega),List.getElem?_append_left (by rw [List.length_take];omega),List.getElem?_take_of_lt (by omega),List.getElem?_take_of_lt (by omega)]
    · rw [List.getElem?_append_right (by rw [List.length_take];omega),List.getElem?_append_right (by rw [List.length_take];omega),List.length_take,List.length_take,List.getElem?_replicate,List.getElem?_replicate]
      by_cases h3:j<16
      · rw [if_pos (by omega),if_pos (by omega)]
      · rw [if_neg (by omega),if_neg (by omega)]
end Go.Proofs.YtdakeodebgggfaaGreatDoor
namespace Go.Proofs.YtdakeodebgggfaaGreatDoor
open Go.RowKit
def w4 (n:Nat):List Nat:=[n%18446744073709551616,n/18446744073709551616%18446744073709551616,n/340282366920938463463374607431768211456%18446744073709551616,n/6277101735386680763835789423207666416102355444464034512896%18446744073709551616]
theorem w4_len (n:Nat):(w4 n).length=4:=rfl
theorem w4_val {n:Nat} (h:n<115792089237316195423570985008687907853269984665640564039457584007913129639936) :
    n=n%18446744073709551616+18446744073709551616*(n/18446744073709551616%18446744073709551616)+340282366920938463463374607431768211456*(n/340282366920938463463374607431768211456%18446744073709551616)+6277101735386680763835789423207666416102355444464034512896*(n/6277101735386680763835789423207666416102355444464034512896%18446744073709551616):=by
  omega
theorem w4_of {a b c d:Nat} (ha:a<18446744073709551616) (hb:b<18446744073709551616) (hc:c<18446744073709551616) (hd:d<18446744073709551616) :
    w4 (a+18446744073709551616*b+340282366920938463463374607431768211456*c+6277101735386680763835789423207666416102355444464034512896*d)=[a,b,c,d]:=by
  have h0:(a+18446744073709551616*b+340282366920938463463374607431768211456*c+6277101735386680763835789423207666416102355444464034512896*d)%18446744073709551616=a:=by omega
  have h1:(a+18446744073709551616*b+340282366920938463463374607431768211456*c+6277101735386680763835789423207666416102355444464034512896*d)/18446744073709551616%18446744073709551616=b:=by omega
  have h2:(a+18446744073709551616*b+340282366920938463463374607431768211456*c+6277101735386680763835789423207666416102355444464034512896*d)/340282366920938463463374607431768211456%18446744073709551616=c:=by omega
  have h3:(a+18446744073709551616*b+340282366920938463463374607431768211456*c+6277101735386680763835789423207666416102355444464034512896*d)/6277101735386680763835789423207666416102355444464034512896%18446744073709551616=d:=by omega
  rw [w4,h0,h1,h2,h3]
def subD (x y c:Nat):Nat:=(x+18446744073709551616-y-c)%18446744073709551616
def subC (x y c:Nat):Nat:=if x<y+c then 1 else 0
theorem sub_limb {x y c:Nat} (hx:x<18446744073709551616) (hy:y<18446744073709551616) (hc:c≤1):subD x y c+y+c=x+18446744073709551616*subC x y c∧subD x y c<18446744073709551616∧subC x y c≤1:=by
  unfold subD subC
  split <;> omega
def lessS (A B:List Nat):Nat→List Nat × Nat
  | 0=>(A,0)
  | k+1=>((lessS A B k).1.set k (subD ((lessS A B k).1.getD k 0) (B.getD k 0) (lessS A B k).2),subC ((lessS A B k).1.getD k 0) (B.getD k 0) (lessS A B k).2)
theorem lessS_len (A B:List Nat): ∀ k,(lessS A B k).1.length=A.length
  | 0=>rfl
  | k+1=>by rw [lessS,List.length_set,lessS_len]
theorem lessS_le (A B:List Nat): ∀ k,(lessS A B k).2≤1
  | 0=>by simp [lessS]
  | k+1=>by
    rw [lessS,subC]
    split <;> omega
theorem lessS_ok {a b:Nat} (ha:a<115792089237316195423570985008687907853269984665640564039457584007913129639936) (hb:b<115792089237316195423570985008687907853269984665640564039457584007913129639936) :
    (lessS (w4 a) (w4 b) 4).1=w4 ((a+115792089237316195423570985008687907853269984665640564039457584007913129639936-b)%115792089237316195423570985008687907853269984665640564039457584007913129639936)∧(lessS (w4 a) (w4 b) 4).2=if a<b then 1 else 0:=by
  have va:=w4_val ha
  have vb:=w4_val hb
  have l0:a%18446744073709551616<18446744073709551616:=Nat.mod_lt _ (by omega)
  have l1:a/18446744073709551616%18446744073709551616<18446744073709551616:=Nat.mod_lt _ (by omega)
  have l2:a/340282366920938463463374607431768211456%18446744073709551616<18446744073709551616:=Nat.mod_lt _ (by omega)
  have l3:a/6277101735386680763835789423207666416102355444464034512896%18446744073709551616<18446744073709551616:=Nat.mod_lt _ (by omega)
  have m0:b%18446744073709551616<18446744073709551616:=Nat.mod_lt _ (by omega)
  have m1:b/18446744073709551616%18446744073709551616<18446744073709551616:=Nat.mod_lt _ (by omega)
  have m2:b/340282366920938463463374607431768211456%18446744073709551616<18446744073709551616:=Nat.mod_lt _ (by omega)
  have m3:b/6277101735386680763835789423207666416102355444464034512896%18446744073709551616<18446744073709551616:=Nat.mod_lt _ (by omega)
  show [subD _ _ _,subD _ _ _,subD _ _ _,subD _ _ _]=_∧subC _ _ _=_
  simp only [w4,lessS,List.set_cons_zero,List.set_cons_succ,List.getD_cons_zero,List.getD_cons_succ]
  rw [show ∀ x y z u:Nat,([x,y,z,u]:List Nat)=[x,y,z,u] from fun _ _ _ _=>rfl]
  generalize a%18446744073709551616=a0 at *
  generalize a/18446744073709551616%18446744073709551616=a1 at *
  generalize a/340282366920938463463374607431768211456%18446744073709551616=a2 at *
  generalize a/6277101735386680763835789423207666416102355444464034512896%18446744073709551616=a3 at *
  generalize b%18446744073709551616=b0 at *
  generalize b/18446744073709551616%18446744073709551616=b1 at *
  generalize b/340282366920938463463374607431768211456%18446744073709551616=b2 at *
  generalize b/6277101735386680763835789423207666416102355444464034512896%18446744073709551616=b3 at *
  obtain ⟨p0,p1,p2⟩:=sub_limb l0 m0 (c:=0) (by omega)
  generalize subD a0 b0 0=d0 at *
  generalize subC a0 b0 0=c0 at *
  obtain ⟨q0,q1,q2⟩:=sub_limb l1 m1 p2
  generalize subD a1 b1 c0=d1 at *
  generalize subC a1 b1 c0=c1 at *
  obtain ⟨r0,r1,r2⟩:=sub_limb l2 m2 q2
  generalize subD a2 b2 c1=d2 at *
  generalize subC a2 b2 c1=c2 at *
  obtain ⟨s0,s1,s2⟩:=sub_limb l3 m3 r2
  generalize subD a3 b3 c2=d3 at *
  generalize subC a3 b3 c2=c3 at *
  have hw:=w4_of p1 q1 r1 s1
  have hv:(a+115792089237316195423570985008687907853269984665640564039457584007913129639936-b)%115792089237316195423570985008687907853269984665640564039457584007913129639936=d0+18446744073709551616*d1+340282366920938463463374607431768211456*d2+6277101735386680763835789423207666416102355444464034512896*d3:=by
    have:c3=0∨c3=1:=by omega
    rcases this with h|h <;> subst h <;> omega
  refine ⟨?_,?_⟩
  · have hw':=hw
    rw [← hv] at hw'
    unfold w4 at hw'
    exact hw'.symm
  · have:c3=0∨c3=1:=by omega
    rcases this with h|h <;> subst h
    · rw [if_neg (by omega)]
    · rw [if_pos (by omega)]
end Go.Proofs.YtdakeodebgggfaaGreatDoor
namespace Go.Proofs.YtdakeodebgggfaaGreatDoor
open Go.RowKit
theorem ext_sub (x y b:Nat) (hb:b≤1):ExtV Tryz.prog 130 [.int .u64 (x:Int),.int .u64 (y:Int),.int .u64 (b:Int)] [.int .u64 (subD x y b:Nat),.int .u64 (subC x y b:Nat)]:=by
  refine ⟨rfl,fun w=>?_⟩
  show (callFunc _ #[_,_,_]).run _ w=_
  rw [run_callFunc_extern Tryz.func130 (by kernel_rfl) (by kernel_rfl) (by kernel_rfl) (e:=sub64Entry) (by kernel_rfl),run_sub64 x y b hb]
  rfl
def lQ:Nat:=7237005577332262213973186563042994240857116359379907606001950938285454250989
theorem order_m {G:Nat→Option (List D)}:Spec Tryz.prog G 124 [] (.one (.g ((w4 lQ).map nD))):=by
  have h:(w4 lQ).map nD=[nD 6346243789798364141,nD 1503914060200516822,nD 0,nD 1152921504606846976]:=by
    rw [show w4 lQ=[6346243789798364141,1503914060200516822,0,1152921504606846976] by decide +kernel]
    rfl
  rw [h]
  refine spec_of Tryz.func124 rfl rfl rfl (by kernel_rfl) rfl fun K=>?_
  (repeat' (first|with_reducible (first|refine zA fun Kn hK=>?_|refine zB (by kernel_rfl) ?_|refine Nx.go ?_|go_step)|fail|with_reducible (first|refine zI ?_|refine zJ ?_|refine zK ?_ ?_|refine zL ?_ ?_|refine zR (by kernel_rfl) ?_)|simp (maxSteps:=9999999) (disch:=omega) only [wq]|(with_reducible refine zM (fun hb=>?_) (fun hb=>?_) <;> (try simp only [hb]))|(with_reducible refine And.intro (by first|omega|(simp;done)|(simp;omega)) ?_)|simp (maxSteps:=9999999) (implicitDefEqProofs:=false) only [go_sem,List.append_nil]|fail))
  all_goals rfl
theorem less_m {G:Nat→Option (List D)} (a b:Nat) (ha:a<115792089237316195423570985008687907853269984665640564039457584007913129639936) (hb:b<115792089237316195423570985008687907853269984665640564039457584007913129639936) :
    Spec Tryz.prog G 125 [.g ((w4 a).map nD),.g ((w4 b).map nD)] (.many [.g ((w4 ((a+115792089237316195423570985008687907853269984665640564039457584007913129639936-b)%115792089237316195423570985008687907853269984665640564039457584007913129639936)).map nD),.c (.v (.bool (decide (a<b))))]):=by
  obtain ⟨h1,h2⟩:=lessS_ok ha hb
  have h3:decide (((lessS (w4 a) (w4 b) 4).2:Int)>0)=decide (a<b):=by
    rw [h2]
    split
    · rename_i h;rw [decide_eq_true h];rfl
    · rename_i h;rw [decide_eq_false h];rfl
  rw [← h1,← h3]
  have la:=w4_len a
  have lb:=w4_len b
  clear h1 h2 h3
  generalize w4 a=A at *
  generalize w4 b=B at *
  obtain ⟨a1,a2,a3⟩:=cd_facts (l:=A.map nD) (n:=4) (by rw [List.length_map];exact la)
  obtain ⟨b1,b2,b3⟩:=cd_facts (l:=B.map nD) (n:=4) (by rw [List.length_map];exact lb)
  refine spec_of Tryz.func125 rfl rfl rfl (by kernel_rfl) rfl fun K=>?_
  (repeat' (first|with_reducible (first|refine zA fun Kn hK=>?_|refine zB (by kernel_rfl) ?_|refine Nx.go ?_|go_step)|fail|with_reducible (first|refine zI ?_|refine zJ ?_|refine zK ?_ ?_|refine zL ?_ ?_|refine zR (by kernel_rfl) ?_)|simp (maxSteps:=9999999) (disch:=omega) only [wq]|(with_reducible refine zM (fun hb=>?_) (fun hb=>?_) <;> (try simp only [hb]))|(with_reducible refine And.intro (by first|omega|(simp;done)|(simp;omega)) ?_)|simp (maxSteps:=9999999) (implicitDefEqProofs:=false) only [go_sem,List.length_map,la,lb,a1,a2,a3,b1,b2,b3,List.append_nil]|fail))
  refine sound_loopR (fun x:{k:Nat // k≤4}=>⟨[(2,vP 2 0),(3,vP 3 0),(4,vP 4 0),(6,.a (.c (.d (nD (lessS A B x.1).2)))),(8,vI x.1)],[(2,some ⟨146,((lessS A B x.1).1.map nD).map C.d,true,false⟩),(3,some ⟨146,(B.map nD).map C.d,true,false⟩),(4,some ⟨146,zeroOf Tryz.prog 146,true,false⟩)]⟩) (fun x=>4-x.1) ⟨0,by omega⟩ [] (by (iterate 2 ((try simp (maxSteps:=9999999) (implicitDefEqProofs:=false) only [go_sem,true_and]);(try simp (maxSteps:=9999999) (disch:=omega) only [wq])));try simp [lessS]) (fun ⟨k,hk⟩=>?_)
  have hlk:=lessS_len A B k
  rw [la] at hlk
  by_cases hlt:k<4
  · have hb:decide ((k:Int)<4)=true:=decide_eq_true (by omega)
    have hg1:=numsC_get (l:=(lessS A B k).1) (k:=k) (by omega)
    have hg2:=numsC_get (l:=B) (k:=k) (by omega)
    have hx:=ext_sub ((lessS A B k).1.getD k 0) (B.getD k 0) (lessS A B k).2 (lessS_le A B k)
    (repeat' (first|with_reducible (first|refine zA fun Kn hK=>?_|refine zB (by kernel_rfl) ?_|refine Nx.go ?_|go_step)|(refine ⟨_,hx,?_⟩)|with_reducible (first|refine zI ?_|refine zJ ?_|refine zK ?_ ?_|refine zL ?_ ?_|refine zR (by kernel_rfl) ?_)|simp (maxSteps:=9999999) (disch:=omega) only [wq]|(with_reducible refine zM (fun hb=>?_) (fun hb=>?_) <;> (try simp only [hb]))|(with_reducible refine And.intro (by first|omega|(simp;done)|(simp;omega)) ?_)|simp (maxSteps:=9999999) (implicitDefEqProofs:=false) only [go_sem,hb,List.length_map,List.length_set,hlk,lb,hg1,hg2]|fail))
    refine ⟨[],⟨k+1,hlt⟩,?_⟩
    (iterate 2 ((try simp (maxSteps:=9999999) (implicitDefEqProofs:=false) only [go_sem,lessS]);(try simp (maxSteps:=9999999) (disch:=omega) only [wq])))
    try (simp only [ijq,true_and,and_true];first|done|omega|(split <;> omega)|(simp;done)|(simp;omega))
  · have hb:decide ((k:Int)<4)=false:=decide_eq_false (by omega)
    obtain rfl:k=4:=by omega
    obtain ⟨c1,c2,c3⟩:=cd_facts (l:=(lessS A B 4).1.map nD) (n:=4) (by rw [List.length_map];exact hlk)
    generalize lessS A B 4=R at *
    (repeat' (first|with_reducible (first|refine zA fun Kn hK=>?_|refine zB (by kernel_rfl) ?_|refine Nx.go ?_|go_step)|fail|with_reducible (first|refine zI ?_|refine zJ ?_|refine zK ?_ ?_|refine zL ?_ ?_|refine zR (by kernel_rfl) ?_)|simp (maxSteps:=9999999) (disch:=omega) only [wq]|(with_reducible refine zM (fun hb=>?_) (fun hb=>?_) <;> (try simp only [hb]))|(with_reducible refine And.intro (by first|omega|(simp;done)|(simp;omega)) ?_)|simp (maxSteps:=9999999) (implicitDefEqProofs:=false) only [go_sem,hb,List.length_map,hlk,c1,c2,c3,List.append_nil]|fail))
end Go.Proofs.YtdakeodebgggfaaGreatDoor
namespace Go.Proofs.YtdakeodebgggfaaGreatDoor
open Go.RowKit
def shS (l:List Nat) (c:Nat):Nat→List Nat × Nat
  | 0=>(l,c)
  | k+1=>((shS l c k).1.set k ((shS l c k).1.getD k 0*2%18446744073709551616+(shS l c k).2),(shS l c k).1.getD k 0/9223372036854775808)
theorem shS_len (l:List Nat) (c:Nat): ∀ k,(shS l c k).1.length=l.length
  | 0=>rfl
  | k+1=>by rw [shS,List.length_set,shS_len]
theorem shS_lt {l:List Nat} {c:Nat} (h: ∀ x∈l,x<18446744073709551616) (hc:c≤1): ∀ k,(∀ x∈(shS l c k).1,x<18446744073709551616)∧(shS l c k).2≤1
  | 0=>⟨h,hc⟩
  | k + 1=>by
    obtain ⟨h1,h2⟩:=shS_lt h hc k
    rw [shS]
    have hx:(shS l c k).1.getD k 0<18446744073709551616:=by
      rw [List.getD_eq_getElem?_getD]
      rcases he:(shS l c k).1[k]? with _|x
      · decide
      · exact h1 x (List.mem_of_getElem? he)
    generalize (shS l c k).1.getD k 0=y at *
    refine ⟨fun x hx=>?_,by dsimp only;omega⟩
    rcases List.mem_or_eq_of_mem_set hx with h|h
    · exact h1 x h
    · rw [h];omega
theorem w4_lt {n:Nat}: ∀ x∈w4 n,x<18446744073709551616:=by
  intro x hx
  simp only [w4,List.mem_cons,List.not_mem_nil,or_false] at hx
  rcases hx with h|h|h|h <;> rw [h] <;> exact Nat.mod_lt _ (by decide)
theorem sh_limb {x:Nat} (hx:x<18446744073709551616):x*2%18446744073709551616+18446744073709551616*(x/9223372036854775808)=x*2∧x*2%18446744073709551616+1<18446744073709551616:=by omega
theorem shS_ok {n c:Nat} (h:n<28948022309329048855892746252171976963317496166410141009864396001978282409984) (hc:c≤1):(shS (w4 n) c 4).1=w4 (2*n+c):=by
  have v:=w4_val (n:=n) (by omega)
  have l0:n%18446744073709551616<18446744073709551616:=Nat.mod_lt _ (by omega)
  have l1:n/18446744073709551616%18446744073709551616<18446744073709551616:=Nat.mod_lt _ (by omega)
  have l2:n/340282366920938463463374607431768211456%18446744073709551616<18446744073709551616:=Nat.mod_lt _ (by omega)
  have l3:n/6277101735386680763835789423207666416102355444464034512896%18446744073709551616<18446744073709551616:=Nat.mod_lt _ (by omega)
  simp only [w4,shS,List.set_cons_zero,List.set_cons_succ,List.getD_cons_zero,List.getD_cons_succ]
  generalize n%18446744073709551616=a0 at *
  generalize n/18446744073709551616%18446744073709551616=a1 at *
  generalize n/340282366920938463463374607431768211456%18446744073709551616=a2 at *
  generalize n/6277101735386680763835789423207666416102355444464034512896%18446744073709551616=a3 at *
  obtain ⟨p0,p1⟩:=sh_limb l0
  obtain ⟨q0,q1⟩:=sh_limb l1
  obtain ⟨r0,r1⟩:=sh_limb l2
  obtain ⟨s0,s1⟩:=sh_limb l3
  have c0:a0/9223372036854775808≤1:=by omega
  have c1:a1/9223372036854775808≤1:=by omega
  have c2:a2/9223372036854775808≤1:=by omega
  have c3:a3/9223372036854775808≤1:=by omega
  generalize a0*2%18446744073709551616=d0 at *
  generalize a1*2%18446744073709551616=d1 at *
  generalize a2*2%18446744073709551616=d2 at *
  generalize a3*2%18446744073709551616=d3 at *
  generalize a0/9223372036854775808=e0 at *
  generalize a1/9223372036854775808=e1 at *
  generalize a2/9223372036854775808=e2 at *
  generalize a3/9223372036854775808=e3 at *
  have hw:=w4_of (a:=d0+c) (b:=d1+e0) (c:=d2+e1) (d:=d3+e2) (by omega) (by omega) (by omega) (by omega)
  have hv:2*n+c=d0+c+18446744073709551616*(d1+e0)+340282366920938463463374607431768211456*(d2+e1)+6277101735386680763835789423207666416102355444464034512896*(d3+e2):=by omega
  have hw':=hw
  rw [← hv] at hw'
  unfold w4 at hw'
  exact hw'.symm
theorem pow_63:(2:Nat)^min 63 64=9223372036854775808:=by decide
theorem pow_1:(2:Nat)^min 1 64=2:=by decide
theorem or_bit {x c:Nat} (hc:c≤1):(x*2%18446744073709551616%18446744073709551616) ||| (c%18446744073709551616)=x*2%18446744073709551616+c:=by
  rw [Nat.mod_mod,Nat.mod_eq_of_lt (show c<18446744073709551616 by omega)]
  have h:=Nat.shiftLeft_add_eq_or_of_lt (b:=c) (i:=1) (by omega) (x%9223372036854775808)
  rw [Nat.shiftLeft_eq] at h
  have e:x*2%18446744073709551616=x%9223372036854775808*2^1:=by omega
  rw [e,h]
def restV (r y i:Nat):Nat:=(r*2^i+y/2^(8-i))%lQ
theorem restV_step {r y i:Nat} (hi:i<8):restV r y (i+1)=(2*restV r y i+y/2^(7-i)%2)%lQ:=by
  have e:8-i=(7-i)+1:=by omega
  unfold restV
  rw [show 8-(i+1)=7-i by omega,e,Nat.pow_succ,Nat.pow_succ,← Nat.div_div_eq_div_mul]
  have h:=Nat.div_add_mod (y/2^(7-i)) 2
  generalize y/2^(7-i)=z at *
  rw [Nat.add_mod (2*_),Nat.mul_mod 2,Nat.mod_mod,← Nat.mul_mod,← Nat.add_mod]
  congr 1
  rw [Nat.mul_add,← Nat.mul_assoc r]
  generalize r*2^i=u
  omega
theorem lQ_lit:lQ=7237005577332262213973186563042994240857116359379907606001950938285454250989:=rfl
theorem rest_cut {v:Nat} (h:v<2*lQ):v%lQ=if v<lQ then v else (v+115792089237316195423570985008687907853269984665640564039457584007913129639936-lQ)%115792089237316195423570985008687907853269984665640564039457584007913129639936:=by
  rw [lQ_lit] at *
  split <;> omega
theorem rest_m {G:Nat→Option (List D)} (r:Nat) (y:UInt8) (hr:r<lQ):Spec Tryz.prog G 111 [.g ((w4 r).map nD),.c (bD y)] (.one (.g ((w4 ((r*256+y.toNat)%lQ)).map nD))):=by
  have hyl:y.toNat<256:=y.toNat_lt
  have ho:=order_m (G:=G)
  have hL: ∀ n,((w4 n).map nD).length=4:=fun n=>by rw [List.length_map];rfl
  have h0:restV r y.toNat 0=r:=by
    unfold restV
    rw [Nat.div_eq_of_lt (by omega),Nat.pow_zero,Nat.mul_one,Nat.add_zero,Nat.mod_eq_of_lt hr]
  have h8:restV r y.toNat 8=(r*256+y.toNat)%lQ:=by
    unfold restV
    rw [Nat.sub_self,Nat.pow_zero,Nat.div_one]
  rw [← h8]
  have hRl: ∀ i,restV r y.toNat i<lQ:=fun i=>Nat.mod_lt _ (by decide +kernel)
  have hstep:=fun i (h:i<8)=>restV_step (r:=r) (y:=y.toNat) h
  generalize hR:restV r y.toNat=R at *
  have hlen4: ∀ n,(w4 n).length=4:=w4_len
  obtain ⟨a1,a2,a3⟩:=cd_facts (hL r)
  obtain ⟨b1,b2,b3⟩:=cd_facts (hL lQ)
  have hbD:bD y=D.v (.int .u8 (y.toNat:Int)):=rfl
  rw [hbD]
  generalize hw:w4 r=wr at *
  have lwr:wr.length=4:=by rw [← hw];rfl
  generalize hwl:w4 lQ=wl at *
  have lwl:wl.length=4:=by rw [← hwl];rfl
  refine spec_of Tryz.func111 rfl rfl rfl (by kernel_rfl) rfl fun K=>?_
  (repeat' (first|with_reducible (first|refine zA fun Kn hK=>?_|refine zB (by kernel_rfl) ?_|refine Nx.go ?_|go_step)|(refine ⟨_,ho,?_⟩)|with_reducible (first|refine zI ?_|refine zJ ?_|refine zK ?_ ?_|refine zL ?_ ?_|refine zR (by kernel_rfl) ?_)|simp (maxSteps:=9999999) (disch:=omega) only [wq]|(with_reducible refine zM (fun hb=>?_) (fun hb=>?_) <;> (try simp only [hb]))|(with_reducible refine And.intro (by first|omega|(simp;done)|(simp;omega)) ?_)|simp (maxSteps:=9999999) (implicitDefEqProofs:=false) only [go_sem,List.length_map,lwr,lwl,a1,a2,a3,b1,b2,b3,List.append_nil]|fail))
  refine sound_loopR (fun x:{k:Nat // k≤8}=>⟨[(1,.a (.c (.d (.v (.int .u8 (y.toNat:Int)))))),(2,vP 2 0),(4,vP 4 0),(5,vP 5 0),(12,vI x.1)],[(2,some ⟨146,((w4 (R x.1)).map nD).map C.d,true,false⟩),(4,some ⟨146,zeroOf Tryz.prog 146,true,false⟩),(5,some ⟨146,(wl.map nD).map C.d,true,false⟩)]⟩) (fun x=>8-x.1) ⟨0,by omega⟩ [] (by (iterate 2 ((try simp (maxSteps:=9999999) (implicitDefEqProofs:=false) only [go_sem,true_and]);(try simp (maxSteps:=9999999) (disch:=omega) only [wq])));try simp [h0,hw]) (fun ⟨i,hi⟩=>?_)
  by_cases hlt:i<8
  · obtain ⟨j,hj⟩: ∃ j,7-i=j:=⟨_,rfl⟩
    have hb:decide ((i:Int)<8)=true:=decide_eq_true (by omega)
    have e1:(7:Int)-(i:Int)=(j:Int):=by omega
    have hm1:min j 8=j:=by omega
    have hj0:(0:Int)≤(j:Int):=by omega
    have hbit:y.toNat/2^min j 8%256%2%18446744073709551616=y.toNat/2^j%2:=by
      rw [hm1,Nat.mod_mod_of_dvd _ (show 2 ∣ 256 by decide)]
      exact Nat.mod_eq_of_lt (Nat.lt_trans (Nat.mod_lt _ (by omega)) (by decide))
    have hs1:=hstep i hlt
    rw [hj] at hs1
    have hRi:=hRl i
    have hbl:y.toNat/2^j%2≤1:=by have:=Nat.mod_lt (y.toNat/2^j) (show 0<2 by omega);omega
    generalize y.toNat/2^j%2=bit at *
    have hsh:=shS_ok (n:=R i) (c:=bit) (by rw [lQ_lit] at hRi;omega) hbl
    have hwl0:=w4_lt (n:=R i)
    have hLi:=hlen4 (R i)
    have hxl:2*R i+bit<2*lQ:=by omega
    have hcut:=rest_cut hxl
    rw [← hs1] at hcut
    have hle:=less_m (G:=G) (2*R i+bit) lQ (by rw [lQ_lit] at hxl;omega) (by decide +kernel)
    rw [hwl,← hsh] at hle
    obtain ⟨g1,g2,g3⟩:=cd_facts (hL ((2*R i+bit+115792089237316195423570985008687907853269984665640564039457584007913129639936-lQ)%115792089237316195423570985008687907853269984665640564039457584007913129639936))
    have hLd:=hlen4 ((2*R i+bit+115792089237316195423570985008687907853269984665640564039457584007913129639936-lQ)%115792089237316195423570985008687907853269984665640564039457584007913129639936)
    generalize hV:2*R i+bit=V at *
    have hcutW:w4 (R (i+1))=if V<lQ then w4 V else w4 ((V+115792089237316195423570985008687907853269984665640564039457584007913129639936-lQ)%115792089237316195423570985008687907853269984665640564039457584007913129639936):=by
      rw [hcut]
      split <;> rfl
    generalize w4 ((V+115792089237316195423570985008687907853269984665640564039457584007913129639936-lQ)%115792089237316195423570985008687907853269984665640564039457584007913129639936)=wd at *
    rw [← hsh] at hcutW
    generalize w4 (R i)=wi at *
    generalize hwn:w4 (R (i+1))=wn at *
    clear hcut hxl hV hs1
    (repeat' (first|with_reducible (first|refine zA fun Kn hK=>?_|refine zB (by kernel_rfl) ?_|refine Nx.go ?_|go_step)|fail|with_reducible (first|refine zI ?_|refine zJ ?_|refine zK ?_ ?_|refine zL ?_ ?_|refine zR (by kernel_rfl) ?_)|simp (maxSteps:=9999999) (disch:=omega) only [wq]|(with_reducible refine zM (fun hb=>?_) (fun hb=>?_) <;> (try simp only [hb]))|(with_reducible refine And.intro (by first|omega|(simp;done)|(simp;omega)) ?_)|simp (maxSteps:=9999999) (implicitDefEqProofs:=false) only [go_sem,hb,e1,wrap_nat,hbit]|fail))
    refine sound_loopR (fun x:{k:Nat // k≤4}=>⟨[(1,.a (.c (.d (.v (.int .u8 (y.toNat:Int)))))),(2,vP 2 0),(4,vP 4 0),(5,vP 5 0),(7,.a (.c (.d (nD (shS wi bit x.1).2)))),(12,vI i),(21,vI x.1)],[(2,some ⟨146,((shS wi bit x.1).1.map nD).map C.d,true,false⟩),(4,some ⟨146,zeroOf Tryz.prog 146,true,false⟩),(5,some ⟨146,(wl.map nD).map C.d,true,false⟩)]⟩) (fun x=>4-x.1) ⟨0,by omega⟩ [] (by (iterate 2 ((try simp (maxSteps:=9999999) (implicitDefEqProofs:=false) only [go_sem,true_and]);(try simp (maxSteps:=9999999) (disch:=omega) only [wq])));try simp [shS]) (fun ⟨k,hk⟩=>?_)
    have hlk:=shS_len wi bit k
    rw [hLi] at hlk
    by_cases hk4:k<4
    · have hb3:decide ((k:Int)<4)=true:=decide_eq_true (by omega)
      have hg1:=numsC_get (l:=(shS wi bit k).1) (k:=k) (by omega)
      have hor:=or_bit (x:=(shS wi bit k).1.getD k 0) ((shS_lt hwl0 hbl k).2)
      (repeat' (first|with_reducible (first|refine zA fun Kn hK=>?_|refine zB (by kernel_rfl) ?_|refine Nx.go ?_|go_step)|fail|with_reducible (first|refine zI ?_|refine zJ ?_|refine zK ?_ ?_|refine zL ?_ ?_|refine zR (by kernel_rfl) ?_)|simp (maxSteps:=9999999) (disch:=omega) only [wq]|(with_reducible refine zM (fun hb=>?_) (fun hb=>?_) <;> (try simp only [hb]))|(with_reducible refine And.intro (by first|omega|(simp;done)|(simp;omega)) ?_)|simp (maxSteps:=9999999) (implicitDefEqProofs:=false) only [go_sem,hb3,List.length_map,List.length_set,hlk,hg1,pow_1,pow_63,hor]|fail))
      refine ⟨[],⟨k+1,hk4⟩,?_⟩
      (iterate 2 ((try simp (maxSteps:=9999999) (implicitDefEqProofs:=false) only [go_sem,shS]);(try simp (maxSteps:=9999999) (disch:=omega) only [wq])))
      try (simp only [ijq,true_and,and_true];first|done|omega|(split <;> omega)|(simp;done)|(simp;omega))
    · have hb3:decide ((k:Int)<4)=false:=decide_eq_false (by omega)
      obtain rfl:k=4:=by omega
      obtain ⟨f1,f2,f3⟩:=cd_facts (l:=(shS wi bit 4).1.map nD) (n:=4) (by rw [List.length_map];exact hlk)
      generalize (shS wi bit 4).1=ws at *
      by_cases hv:V<lQ
      · rw [if_pos hv] at hcutW
        rw [decide_eq_true hv] at hle
        subst hcutW
        (repeat' (first|with_reducible (first|refine zA fun Kn hK=>?_|refine zB (by kernel_rfl) ?_|refine Nx.go ?_|go_step)|(refine ⟨_,hle,?_⟩)|with_reducible (first|refine zI ?_|refine zJ ?_|refine zK ?_ ?_|refine zL ?_ ?_|refine zR (by kernel_rfl) ?_)|simp (maxSteps:=9999999) (disch:=omega) only [wq]|(with_reducible refine zM (fun hb=>?_) (fun hb=>?_) <;> (try simp only [hb]))|(with_reducible refine And.intro (by first|omega|(simp;done)|(simp;omega)) ?_)|simp (maxSteps:=9999999) (implicitDefEqProofs:=false) only [go_sem,hb3,List.length_map,hlk,lwl,hLd,b1,b2,b3,f1,f2,f3,g1,g2,g3,List.append_nil,Bool.not_true]|fail))
        refine ⟨[],⟨i+1,hlt⟩,?_⟩
        (iterate 2 ((try simp (maxSteps:=9999999) (implicitDefEqProofs:=false) only [go_sem,hwn]);(try simp (maxSteps:=9999999) (disch:=omega) only [wq])))
        try (simp only [ijq,true_and,and_true];first|done|omega|(split <;> omega)|(simp;done)|(simp;omega))
      · rw [if_neg hv] at hcutW
        rw [decide_eq_false hv] at hle
        subst hcutW
        (repeat' (first|with_reducible (first|refine zA fun Kn hK=>?_|refine zB (by kernel_rfl) ?_|refine Nx.go ?_|go_step)|(refine ⟨_,hle,?_⟩)|with_reducible (first|refine zI ?_|refine zJ ?_|refine zK ?_ ?_|refine zL ?_ ?_|refine zR (by kernel_rfl) ?_)|simp (maxSteps:=9999999) (disch:=omega) only [wq]|(with_reducible refine zM (fun hb=>?_) (fun hb=>?_) <;> (try simp only [hb]))|(with_reducible refine And.intro (by first|omega|(simp;done)|(simp;omega)) ?_)|simp (maxSteps:=9999999) (implicitDefEqProofs:=false) only [go_sem,hb3,List.length_map,hlk,lwl,hLd,b1,b2,b3,f1,f2,f3,g1,g2,g3,List.append_nil,Bool.not_false]|fail))
        refine ⟨[],⟨i+1,hlt⟩,?_⟩
        (iterate 2 ((try simp (maxSteps:=9999999) (implicitDefEqProofs:=false) only [go_sem,hwn]);(try simp (maxSteps:=9999999) (disch:=omega) only [wq])))
        try (simp only [ijq,true_and,and_true];first|done|omega|(split <;> omega)|(simp;done)|(simp;omega))
  · have hb:decide ((i:Int)<8)=false:=decide_eq_false (by omega)
    obtain rfl:i=8:=by omega
    obtain ⟨g1,g2,g3⟩:=cd_facts (hL (R 8))
    have hl8:=hlen4 (R 8)
    generalize w4 (R 8)=w8 at *
    (repeat' (first|with_reducible (first|refine zA fun Kn hK=>?_|refine zB (by kernel_rfl) ?_|refine Nx.go ?_|go_step)|fail|with_reducible (first|refine zI ?_|refine zJ ?_|refine zK ?_ ?_|refine zL ?_ ?_|refine zR (by kernel_rfl) ?_)|simp (maxSteps:=9999999) (disch:=omega) only [wq]|(with_reducible refine zM (fun hb=>?_) (fun hb=>?_) <;> (try simp only [hb]))|(with_reducible refine And.intro (by first|omega|(simp;done)|(simp;omega)) ?_)|simp (maxSteps:=9999999) (implicitDefEqProofs:=false) only [go_sem,hb,List.length_map,hl8,g1,g2,g3,List.append_nil]|fail))
end Go.Proofs.YtdakeodebgggfaaGreatDoor
namespace Go.Proofs.YtdakeodebgggfaaGreatDoor
open Go.RowKit
theorem w4_get {n q:Nat} (hq:q<4):(w4 n).getD q 0=n/2^(64*q)%18446744073709551616:=by
  match q,hq with
  | 0,_=>simp [w4]
  | 1,_=>rfl
  | 2,_=>rfl
  | 3,_=>rfl
theorem w4_byte {n i:Nat} (hi:i<32):(w4 n).getD (i/8) 0/2^(8*(i%8))%256=n/2^(8*i)%256:=by
  rw [w4_get (by omega),show (18446744073709551616:Nat)=2^(8*(i%8))*2^(64-8*(i%8)) by rw [← Nat.pow_add,show 8*(i%8)+(64-8*(i%8))=64 by omega],Nat.mod_mul_right_div_self,Nat.div_div_eq_div_mul,← Nat.pow_add,show 64*(i/8)+8*(i%8)=8*i by omega]
  obtain ⟨d,hd⟩: ∃ d,64-8*(i%8)=8+d:=⟨56-8*(i%8),by omega⟩
  rw [hd,Nat.pow_add,show (2:Nat)^8=256 from rfl,Nat.mod_mul_right_mod]
def pbS (n k:Nat):List UInt8:=(List.range 32).map fun j=>if j<k then UInt8.ofNat (n/2^(8*j)%256) else 0
theorem pbS_len (n k:Nat):(pbS n k).length=32:=by simp [pbS]
theorem pbS_0 (n:Nat):pbS n 0=List.replicate 32 0:=by
  simp only [pbS,Nat.not_lt_zero,if_false]
  decide
theorem pbS_32 (n:Nat):pbS n 32=leB n:=by
  unfold pbS leB
  refine List.map_congr_left fun j hj=>if_pos (List.mem_range.1 hj)
theorem pbS_get {n k j:Nat} (h:j<32):(pbS n k)[j]?=some (if j<k then UInt8.ofNat (n/2^(8*j)%256) else 0):=by
  simp [pbS,h]
theorem pbS_step (n:Nat) {k:Nat} (hk:k<32):(pbS n k).set k (UInt8.ofNat (n/2^(8*k)%256))=pbS n (k+1):=by
  refine List.ext_getElem? fun j=>?_
  by_cases hj:j<32
  · rw [pbS_get hj]
    by_cases he:k=j
    · subst he
      rw [List.getElem?_set_self (by rw [pbS_len];exact hj),if_pos (by omega)]
    · rw [List.getElem?_set_ne he,pbS_get hj]
      by_cases h:j<k
      · rw [if_pos h,if_pos (by omega)]
      · rw [if_neg h,if_neg (by omega)]
  · rw [List.getElem?_eq_none (by rw [List.length_set,pbS_len];omega),List.getElem?_eq_none (by rw [pbS_len];omega)]
theorem put_m {G:Nat→Option (List D)} (n:Nat):Spec Tryz.prog G 112 [.g ((w4 n).map nD)] (.one (.g ((leB n).map bD))):=by
  have hbyte:=fun i (h:i<32)=>w4_byte (n:=n) h
  rw [← pbS_32]
  have l4:=w4_len n
  generalize w4 n=w at *
  obtain ⟨a1,a2,a3⟩:=cd_facts (l:=w.map nD) (n:=4) (by rw [List.length_map];exact l4)
  refine spec_of Tryz.func112 rfl rfl rfl (by kernel_rfl) rfl fun K=>?_
  (repeat' (first|with_reducible (first|refine zA fun Kn hK=>?_|refine zB (by kernel_rfl) ?_|refine Nx.go ?_|go_step)|fail|with_reducible (first|refine zI ?_|refine zJ ?_|refine zK ?_ ?_|refine zL ?_ ?_|refine zR (by kernel_rfl) ?_)|simp (maxSteps:=9999999) (disch:=omega) only [wq]|(with_reducible refine zM (fun hb=>?_) (fun hb=>?_) <;> (try simp only [hb]))|(with_reducible refine And.intro (by first|omega|(simp;done)|(simp;omega)) ?_)|simp (maxSteps:=9999999) (implicitDefEqProofs:=false) only [go_sem,List.length_map,l4,a1,a2,a3,List.append_nil]|fail))
  refine sound_loopR (fun x:{k:Nat // k≤32}=>⟨[(1,vP 1 0),(2,vP 2 0),(3,vP 3 0),(5,vI x.1)],[(1,some ⟨146,(w.map nD).map C.d,true,false⟩),(2,some ⟨39,zeroOf Tryz.prog 39,true,false⟩),(3,some ⟨39,((pbS n x.1).map bD).map C.d,true,false⟩)]⟩) (fun x=>32-x.1) ⟨0,by omega⟩ [] (by (iterate 2 ((try simp (maxSteps:=9999999) (implicitDefEqProofs:=false) only [go_sem,pbS_0]);(try simp (maxSteps:=9999999) (disch:=omega) only [wq])));try simp [bD]) (fun ⟨i,hi⟩=>?_)
  have hl32:=pbS_len n i
  by_cases hlt:i<32
  · have hb:decide ((i:Int)<32)=true:=decide_eq_true (by omega)
    have hg:=numsC_get (l:=w) (k:=i/8) (by omega)
    have h4n:(8*((i%8:Nat):Int)).toNat=8*(i%8):=by omega
    have h0n:(0:Int)≤8*((i%8:Nat):Int):=by omega
    have h4w:IntKind.i64.wrap (8*((i%8:Nat):Int))=8*((i%8:Nat):Int):=wrap_id (by omega) (by omega)
    have hm:min (8*(i%8)) 64=8*(i%8):=by omega
    have hby:=hbyte i hlt
    rw [← hm] at hby
    clear hm
    have hst:=bytesC_set (l:=pbS n i) (k:=i) (v:=n/2^(8*i)%256) (Nat.mod_lt _ (by omega))
    rw [pbS_step n hlt] at hst
    (repeat' (first|with_reducible (first|refine zA fun Kn hK=>?_|refine zB (by kernel_rfl) ?_|refine Nx.go ?_|go_step)|fail|with_reducible (first|refine zI ?_|refine zJ ?_|refine zK ?_ ?_|refine zL ?_ ?_|refine zR (by kernel_rfl) ?_)|simp (maxSteps:=9999999) (disch:=omega) only [wq]|(with_reducible refine zM (fun hb=>?_) (fun hb=>?_) <;> (try simp only [hb]))|(with_reducible refine And.intro (by first|omega|(simp;done)|(simp;omega)) ?_)|simp (maxSteps:=9999999) (implicitDefEqProofs:=false) only [go_sem,hb,List.length_map,l4,hl32,hg,h4n,h0n,h4w,wrap8_nat,hby,hst]|fail))
    refine ⟨[],⟨i+1,hlt⟩,?_⟩
    (iterate 2 ((try simp (maxSteps:=9999999) (implicitDefEqProofs:=false) only [go_sem,true_and]);(try simp (maxSteps:=9999999) (disch:=omega) only [wq])))
    try (simp only [ijq,true_and,and_true];first|done|omega|(split <;> omega)|(simp;done)|(simp;omega))
  · have hb:decide ((i:Int)<32)=false:=decide_eq_false (by omega)
    obtain rfl:i=32:=by omega
    obtain ⟨c1,c2,c3⟩:=cd_facts (l:=(pbS n 32).map bD) (n:=32) (by rw [List.length_map];exact hl32)
    generalize pbS n 32=R at *
    (repeat' (first|with_reducible (first|refine zA fun Kn hK=>?_|refine zB (by kernel_rfl) ?_|refine Nx.go ?_|go_step)|fail|with_reducible (first|refine zI ?_|refine zJ ?_|refine zK ?_ ?_|refine zL ?_ ?_|refine zR (by kernel_rfl) ?_)|simp (maxSteps:=9999999) (disch:=omega) only [wq]|(with_reducible refine zM (fun hb=>?_) (fun hb=>?_) <;> (try simp only [hb]))|(with_reducible refine And.intro (by first|omega|(simp;done)|(simp;omega)) ?_)|simp (maxSteps:=9999999) (implicitDefEqProofs:=false) only [go_sem,hb,List.length_map,List.length_replicate,List.drop_replicate,hl32,c1,c2,c3,List.append_nil]|fail))
end Go.Proofs.YtdakeodebgggfaaGreatDoor
namespace Go.Proofs.YtdakeodebgggfaaGreatDoor
open Go.RowKit Go.Shelf
attribute [local go_sem] Oper.semAt_some
def KpB (n₀ Bs:Nat) (W W':World):Prop:=Below n₀ W W'∧ ∀ o,W.heap[Bs]?=some o→o.isCells=true→W'.heap[Bs]?=some o
theorem KpB.t {n₀ Bs:Nat} {A B C:World} (h:KpB n₀ Bs A B) (k:KpB n₀ Bs B C):KpB n₀ Bs A C:=⟨h.1.trans k.1,fun o ho hc=>k.2 o (h.2 o ho hc) hc⟩
set_option maxRecDepth 100000 in
set_option maxHeartbeats 2000000 in
theorem back1_in (F:Fence) (n:Nat) (h7:F.fn 123) (hro:F.round=none) (hn:1≤n) (l Bs n₀ b off cap:Nat) (A:Option Addr) (zs:List UInt8) (hreach:zs.length≤140737488351232) (hb:zs≠[]→b<n₀) (hA:zs≠[]→A=some ⟨b,off,none⟩) (J Jx:List (Nat × UInt8)→World→Prop)
    (hY: ∀ pre x W,J pre W→pre.length<zs.length→YieldAt F (n-1) Tryz.prog l #[.int .i64 (x.1:Int),.int .u8 (x.2.toNat:Int)] W fun e W' =>
      (e= .returned (.bool true)∧J (pre++[x]) W'∧KpB n₀ Bs W W')∨(e= .returned (.bool false)∧Jx (pre++[x]) W'))
    (W:World) (hBs:W.heap[Bs]?=some (.cells #[.slice A zs.length cap] 22 (0,0))) (hc: ∀ j x,zs[j]?=some x→W.cell? ⟨b,off+j,none⟩=some (.int .u8 (x.toNat:Int))) (h0:J [] W) :
    CallsIn F n Tryz.prog 123 #[.func (.yield l) #[] #[],.pointer (some ⟨Bs,0,none⟩)] W fun e W'=>(∃ v,e= .returned v) ∧
      ((∃ ys,ys.map Prod.snd=zs.reverse∧J ys W')∨(∃ pre,True∧Jx pre W')):=by
  have hbx:=fun (W':World) (h:W'.heap[Bs]?=some (.cells #[.slice A zs.length cap] 22 (0,0)))=>boxed h 0 _ rfl
  refine callsIn_of_wp Tryz.func123 rfl h7 ?_ hro
  simp only [Tryz.ntmps123,List.size_toArray,List.length_cons,List.length_nil,Nat.reduceAdd,Nat.reduceSub,Array.replicate_succ,Array.replicate_zero,List.push_toArray,List.append_toArray,List.nil_append,List.cons_append]
  have hb0:=hbx W hBs
  gi_wp2
  gi_loopw [3] (fun i wr=> ∃ (m:Nat) (pre:List (Nat × UInt8)),m≤zs.length∧i= .int .i64 ((m:Int)-1)∧pre.length+m=zs.length∧pre.map Prod.snd=(zs.drop m).reverse∧J pre wr∧KpB n₀ Bs W wr)
    (fun i _=>(intOf i+1).toNat)
  case atStart=>exact ⟨zs.length,[],Nat.le_refl _,by simp,by simp,by simp,h0,⟨Below.refl _ _,fun o ho _=>ho⟩⟩
  case round =>
    obtain ⟨m,pre,hm,rfl,hpl,hpm,hJs,hnx⟩:=hrel
    have hbr:=hnx.2 _ hBs rfl
    have hbc:=hbx wr hbr
    cases m with
    | zero =>
      gi_wp2
      go_end0
      exact ⟨⟨_,rfl⟩,.inl ⟨pre,by rw [hpm];simp,hJs⟩⟩
    | succ m =>
      have hlt:m<zs.length:=by omega
      have e1:(((m+1:Nat):Int)-1)=(m:Int):=by omega
      rw [e1]
      have hne:zs≠[]:=by intro h;rw [h] at hlt;simp at hlt
      obtain rfl:=hA hne
      have hcx:wr.cell? ⟨b,off+m,none⟩=some (.int .u8 ((zs[m]).toNat:Int)):=(hnx.1.cell (p:=⟨b,off+m,none⟩) (hb hne)).trans (hc m _ (List.getElem?_eq_getElem hlt))
      obtain ⟨fn,tmps,assign,body,hy,hR⟩:=hY pre (m,zs[m]) wr hJs (by omega)
      dsimp only at hy
      gi_wp2
      refine hR.mono ?_
      rintro e W3 (⟨rfl,hJ3,hk3⟩|⟨rfl,hJx3⟩)
      · gi_wp2
        go_roundw
        case rel=>exact ⟨m,pre++[(m,zs[m])],by omega,by simp,by simp;omega,by rw [List.map_append,hpm,List.drop_eq_getElem_cons (i:=m) hlt,List.reverse_cons];rfl,hJ3,hnx.t hk3⟩
        case measure=>simp [intOf]
      · gi_wp2
        refine bodyPost_ret (results_none rfl _ _ _) rfl ?_
        exact ⟨⟨_,rfl⟩,.inr ⟨_,trivial,hJx3⟩⟩
set_option maxHeartbeats 1000000 in
theorem back_in (F:Fence) (n:Nat) (h5:F.fn 110) (hro:F.round=none) (a:Option Addr) (len cap:Nat) (w:World) :
    CallsIn F n Tryz.prog 110 #[.slice a len cap] w fun e w'=>e= .returned (.func (.func 123) #[] #[.pointer (some ⟨w.heap.size,0,none⟩)])∧w'=w.alloc (.cells #[.slice a len cap] 22):=by
  refine callsIn_of_wp Tryz.func110 rfl h5 ?_ hro
  simp only [Tryz.ntmps110,List.size_toArray,List.length_cons,List.length_nil,Nat.reduceAdd,Nat.reduceSub,Array.replicate_succ,Array.replicate_zero,List.push_toArray,List.append_toArray,List.nil_append,List.cons_append]
  gi_wp2
  go_ret
  exact ⟨rfl,rfl⟩
def wv (u:Nat→Nat→Int) (r:Nat):List Value:=[.int .u64 (u 0 r),.int .u64 (u 1 r),.int .u64 (u 2 r),.int .u64 (u 3 r)]
def redF (q:Nat) (pre:List (Nat × UInt8)):Nat:=pre.foldl (fun r x=>(r*256+x.2.toNat)%q) 0
theorem redF_snoc (q:Nat) (pre:List (Nat × UInt8)) (x:Nat × UInt8):redF q (pre++[x])=(redF q pre*256+x.2.toNat)%q:=by simp [redF]
theorem redF_lt {q:Nat} (hq:0<q): ∀ pre:List (Nat × UInt8),redF q pre<q:=fun pre=>by
  rcases List.eq_nil_or_concat pre with rfl|⟨p,x,rfl⟩
  · exact hq
  · rw [List.concat_eq_append,redF_snoc];exact Nat.mod_lt _ hq
theorem store_out {P:Program} {g:Nat} {t:TypeId} {cur:Array Value} {vs:List Value} {W:World} (hg:W.heap[g]?=some (.cells cur t (0,0))) (hl:vs.length=cur.size) (h1: ∀ v∈vs,v.oneCell'=true) :
    (storeCells ⟨g,0,none⟩ vs).run P W= .ok () (W.setRow g vs.toArray):=by
  have h:=run_storeCells_from (P:=P) g t vs 0 cur W hg (by omega) h1
  simpa using h
set_option maxRecDepth 100000 in
set_option maxHeartbeats 2000000 in
theorem reduce_w (u:Nat→Nat→Int) (hu: ∀ i,u i 0=0) (q:Nat) (hq:0<q) (w:World) (A:Option Addr) (b off cap:Nat) (zs:List UInt8) (out:List Value) (hl:out.length=32) (hone: ∀ v∈out,v.oneCell'=true) (hreach:zs.length≤140737488351232) (hb:zs≠[]→b<w.heap.size) (hA:zs≠[]→A=some ⟨b,off,none⟩)
    (hc: ∀ j x,zs[j]?=some x→w.cell? ⟨b,off+j,none⟩=some (.int .u8 (x.toNat:Int)))
    (hr: ∀ (r:Nat) (y:UInt8) (W:World),r<q→Calls Tryz.prog 111 #[.agg (wv u r).toArray,.int .u8 (y.toNat:Int)] W fun e W'=>Below W.heap.size W W'∧e= .returned (.agg (wv u ((r*256+y.toNat)%q)).toArray))
    (hp: ∀ (ys:List (Nat × UInt8)) (W:World),ys.map Prod.snd=zs.reverse→Calls Tryz.prog 112 #[.agg (wv u (redF q ys)).toArray] W fun e W'=>Below W.heap.size W W'∧e= .returned (.agg out.toArray)) :
    Calls Tryz.prog 77 #[.slice A zs.length cap] w fun e w'=>Below w.heap.size w w'∧e= .returned (.agg out.toArray):=by
  refine (callsIn_wide (n:=3)).1 ?_
  refine callsIn_of_wp_marks Tryz.func77 rfl trivial ?_ rfl
  simp only [Tryz.ntmps77,List.size_toArray,List.length_cons,List.length_nil,Nat.reduceAdd,Nat.reduceSub,Array.replicate_succ,Array.replicate_zero,List.push_toArray,List.append_toArray,List.nil_append,List.cons_append]
  simp only [wv] at hr hp
  gi_wp2_with (refine ⟨trivial,?_⟩;gi_at_call 110;refine (back_in Fence.wide _ trivial rfl _ _ _ _).mono ?_;rintro e w' ⟨rfl,rfl⟩)
  obtain ⟨W1,hW1⟩: ∃ W1,(((w.alloc (.cells (Array.replicate 32 (.int .u8 0)) 39)).alloc (.cells #[.int .u64 0,.int .u64 0,.int .u64 0,.int .u64 0] 146)).alloc (.cells #[.slice A zs.length cap] 22))=W1:=⟨_,rfl⟩
  have hB1:Below w.heap.size w W1:=by rw [← hW1];exact (((Below.refl _ w).alloc (Nat.le_refl _) _).alloc (by simp) _).alloc (by simp;omega) _
  have hs1:W1.heap.size=w.heap.size+3:=by rw [← hW1];simp
  have hb2:W1.heap[w.heap.size]?=some (.cells (Array.replicate 32 (.int .u8 0)) 39 (0,0)):=by rw [← hW1];exact box_alloc (box_alloc (box_new w _ _) _) _
  have hb3:W1.heap[w.heap.size+1]?=some (.cells #[.int .u64 0,.int .u64 0,.int .u64 0,.int .u64 0] 146 (0,0)):=by rw [← hW1];refine box_alloc ?_ _;have:=box_new (w.alloc (.cells (Array.replicate 32 (.int .u8 0)) 39)) #[.int .u64 0,.int .u64 0,.int .u64 0,.int .u64 0] 146;simpa using this
  have hb3:W1.heap[w.heap.size+1]?=some (.cells (wv u (redF q [])).toArray 146 (0,0)):=by rw [hb3];simp only [wv,redF,List.foldl_nil,hu]
  have hb4:W1.heap[w.heap.size+1+1]?=some (.cells #[.slice A zs.length cap] 22 (0,0)):=by
    rw [← hW1]
    have:=box_new ((w.alloc (.cells (Array.replicate 32 (.int .u8 0)) 39)).alloc (.cells #[.int .u64 0,.int .u64 0,.int .u64 0,.int .u64 0] 146)) #[.slice A zs.length cap] 22
    simpa using this
  have hc1: ∀ W,Below w.heap.size w W→ ∀ j x,zs[j]?=some x→W.cell? ⟨b,off+j,none⟩=some (.int .u8 (x.toNat:Int)):=fun W h j x hx=>(h.cell (p:=⟨b,off+j,none⟩) (hb (by rintro rfl;simp at hx))).trans (hc j x hx)
  show Code.wpIn Fence.wide 3 Tryz.prog _ _ _ (((w.alloc (.cells (Array.replicate 32 (.int .u8 0)) 39)).alloc (.cells #[.int .u64 0,.int .u64 0,.int .u64 0,.int .u64 0] 146)).alloc (.cells #[.slice A zs.length cap] 22))
  rw [hW1]
  clear hW1
  have hstops:SeqStopsK Fence.wide (3-1) Tryz.prog 123 #[.pointer (some ⟨w.heap.size+1+1,0,none⟩)] (fun x:Nat × UInt8=> #[Value.int .i64 (x.1:Int),Value.int .u8 (x.2.toNat:Int)]) (KpB w.heap.size (w.heap.size+1+1)) (fun ys=>ys.map Prod.snd=zs.reverse) (fun _=>True) zs.length W1:=fun l J Jx W hW _ _ hY h0 =>
    back1_in Fence.wide _ trivial rfl (by omega) l (w.heap.size+1+1) w.heap.size b off cap A zs hreach hb hA J Jx hY W ((hW.block _ (by omega)).trans hb4) (hc1 W (hB1.trans (hW.mono hB1.size))) h0
  refine wpIn_rangeFunc_ownF rfl (by omega) (gf:=123) (lb:= #[.pointer (some ⟨w.heap.size+1+1,0,none⟩)]) rfl trivial (enters_of Tryz.func123 (by kernel_rfl) rfl) hstops KpB.t
    (fun W l o o' hl h h1 h2=>⟨belowK_b (w:=W1) hB1.size W l o o' hl h h1 h2,fun o2 ho2 hc2=>(World.putObj_heap_other (fun e=>by omega)).trans ho2⟩) (Below.refl _ _) (fun _=>rfl)
    (fun pre W=>(W.heap[w.heap.size+1]?=some (.cells (wv u (redF q pre)).toArray 146 (0,0))∧W.heap[w.heap.size]?=some (.cells (Array.replicate 32 (.int .u8 0)) 39 (0,0)))∧Below w.heap.size w W)
    (fun _ _ _=>False)
    (OwnFrom.and (fun s W W' row hs hg hr=>⟨(hg.block _ (Array.getElem?_eq_some_iff.1 hs.1).1 (fun e=>by have:=(hr _ e.symm).1;omega)).trans hs.1,(hg.block _ (Array.getElem?_eq_some_iff.1 hs.2).1 (fun e=>by have:=(hr _ e.symm).1;omega)).trans hs.2⟩) (ownFrom_below (Nat.le_refl _) hB1.size))
    (fun _ _ _ _ _ hs _ _=>hs)
    ⟨⟨hb3,hb2⟩,hB1⟩
    (fun x=>{ tmps:= #[.slice A zs.length cap,undef,.pointer (some ⟨w.heap.size,0,none⟩),.pointer (some ⟨w.heap.size+1,0,none⟩),undef,.int .u8 (x.2.toNat:Int),.slice A zs.length cap,.func (.func 123) #[] #[.pointer (some ⟨w.heap.size+1+1,0,none⟩)],.int .i64 (x.1:Int),.int .u8 (x.2.toNat:Int),undef,undef,undef,undef,undef],defers:=[] }) ?assign ?body ?done ?stop
  case assign =>
    intro l x W K hK
    gi_wp2
    exact hK
  case body =>
    rintro l pre x W ⟨⟨h1,h2⟩,h3⟩ _
    have hq1:=redF_lt hq pre
    have hd:1≤3-1-1:=by omega
    have c0:=boxed h1 0 _ rfl
    have c1:=boxed h1 1 _ rfl
    have c2:=boxed h1 2 _ rfl
    have c3:=boxed h1 3 _ rfl
    gi_wp2_with (refine ⟨trivial,?_⟩;gi_at_call 111;refine (CallsIn.inRound l (callsIn_wide.2 (hr _ _ _ hq1))).mono ?_;rintro e W' ⟨hB,rfl⟩;have g1:=box_below h1 hB (Array.getElem?_eq_some_iff.1 h1).1;have g2:=box_below h2 hB (Array.getElem?_eq_some_iff.1 h2).1;have d0:=boxed g1 0 _ rfl;have d1:=boxed g1 1 _ rfl;have d2:=boxed g1 2 _ rfl;have d3:=boxed g1 3 _ rfl;have f0:=boxed_frozen g1 0;have f1:=boxed_frozen g1 1;have f2:=boxed_frozen g1 2;have f3:=boxed_frozen g1 3)
    have hlW:w.heap.size+1<W.heap.size:=(Array.getElem?_eq_some_iff.1 h1).1
    have hsv:=redF_snoc q pre x
    generalize (redF q pre*256+x.2.toNat)%q=rn at *
    have k0:=box_set (j:=0) g1 (.int .u64 (u 0 rn))
    have k1:=box_set (j:=1) k0 (.int .u64 (u 1 rn))
    have k2:=box_set (j:=2) k1 (.int .u64 (u 2 rn))
    have k3:=box_set (j:=3) k2 (.int .u64 (u 3 rn))
    have hKO:KeepsOthers W W':=⟨hB.size,fun k o hk _=>(hB.block k (Array.getElem?_eq_some_iff.1 hk).1).trans hk⟩
    have hBW:Below w.heap.size W W':=hB.mono h3.size
    refine ⟨hKO.trans ((((KeepsOthers.setCell _ _ _).trans (KeepsOthers.setCell _ _ _)).trans (KeepsOthers.setCell _ _ _)).trans (KeepsOthers.setCell _ _ _)),⟨(((hBW.setCell (by simp) _).setCell (by simp) _).setCell (by simp) _).setCell (by simp) _,fun o ho _=>?_⟩,⟨by rw [hsv];exact k3,?_⟩,?_⟩
    · have hlo:w.heap.size+1+1<W.heap.size:=(Array.getElem?_eq_some_iff.1 ho).1
      exact box_far (box_far (box_far (box_far (box_below ho hB hlo) (by simp) _) (by simp) _) (by simp) _) (by simp) _
    · exact box_far (box_far (box_far (box_far g2 (by simp) _) (by simp) _) (by simp) _) (by simp) _
    · exact h3.trans ((((hBW.setCell (by simp) _).setCell (by simp) _).setCell (by simp) _).setCell (by simp) _)
  case done =>
    rintro D ys W hD hS ⟨⟨h1,h2⟩,h3⟩ hK
    have c0:=boxed h1 0 _ rfl
    have c1:=boxed h1 1 _ rfl
    have c2:=boxed h1 2 _ rfl
    have c3:=boxed h1 3 _ rfl
    gi_wp2_with (refine ⟨trivial,?_⟩;gi_at_call 112;refine (callsIn_wide.2 (hp ys _ hS)).mono ?_;rintro e W' ⟨hB,rfl⟩;have g2:=box_below h2 hB (Array.getElem?_eq_some_iff.1 h2).1;have hst:=store_out (P:=Tryz.prog) g2 (by simp [hl]) hone;have gK:=box_below hK hB (Array.getElem?_eq_some_iff.1 hK).1)
    have e2:=setRow_heap W' w.heap.size _ out.toArray _ _ g2
    have eK:(W'.setRow w.heap.size out.toArray).heap[D]?=some (.deferred (some [])):=(setRow_other W' w.heap.size D out.toArray (by omega)).trans gK
    have hsz:(W'.setRow w.heap.size out.toArray).heap.size=W'.heap.size:=by simp
    have hBf:Below w.heap.size w (W'.setRow w.heap.size out.toArray):=(h3.trans (hB.mono h3.size)).trans ⟨rfl,rfl,rfl,by rw [hsz];exact Nat.le_refl _,fun k hk=>setRow_other W' w.heap.size k out.toArray (by omega)⟩
    generalize W'.setRow w.heap.size out.toArray=W5 at *
    have e5:(W5.putObj D (.deferred none)).heap[w.heap.size]?=some (.cells out.toArray 39 (0,0)):=(World.putObj_heap_other (fun e=>by omega)).trans e2
    refine ⟨by simp,.inl ⟨_,_,rfl,run_takeDeferred eK,?_⟩⟩
    exact ⟨_,results_cell_row rfl _ _ w.heap.size 39 out.toArray (0,0) _ rfl e5 Tryz.underlying39 rfl (by rw [List.size_toArray,hl];kernel_rfl),hBf.trans (belowK_b (w:=w) (Nat.le_refl _) W5 D _ _ (by omega) eK rfl rfl),rfl⟩
  case stop =>
    rintro D c pre W _ _ h _
    exact h.elim
end Go.Proofs.YtdakeodebgggfaaGreatDoor
namespace Go.Proofs.YtdakeodebgggfaaGreatDoor
open Go.RowKit
def nV (n:Nat):Value:= .int .u64 (n:Int)
def bV (x:UInt8):Value:= .int .u8 (x.toNat:Int)
theorem belowE {w w':World} (h:Ev (fun _=>False) w w'):Below w.heap.size w w':=⟨h.os,h.tape,h.output,h.size,fun k hk=>h.block k hk fun h=>h⟩
theorem evB {w w':World} (h:Below w.heap.size w w'):Ev (fun _=>False) w w':=⟨h.os,h.tape,h.output,h.size,fun k hk _=>h.block k hk⟩
theorem map_fwd {α:Type} {d:α→D} {v:α→Value} (hv: ∀ (w:World) S x,RD w S (d x) (v x)) {w:World} {S:Nat→Prop} (l:List α):DRd w S (.g (l.map d)) (.agg (l.map v).toArray):=by
  refine ⟨l.map v,rfl,by rw [List.length_map,List.length_map],fun i x y hx hy=>?_⟩
  rw [List.getElem?_map] at hx hy
  cases hl:l[i]? with
  | none=>rw [hl] at hx;cases hx
  | some a =>
    rw [hl] at hx hy
    obtain rfl:d a=x:=by simpa using hx
    obtain rfl:v a=y:=by simpa using hy
    exact hv _ _ _
theorem map_back {α:Type} {d:α→D} {v:α→Value} (hv: ∀ (w:World) S x u,RD w S (d x) u→u=v x) {w:World} {S:Nat→Prop} {l:List α} {u:Value} (h:DRd w S (.g (l.map d)) u):u= .agg (l.map v).toArray:=by
  obtain ⟨us,rfl,hl,hc⟩:=h
  rw [List.length_map] at hl
  congr 2
  refine List.ext_getElem? fun i=>?_
  by_cases hi:i<l.length
  · have h1:us[i]?=some us[i]:=List.getElem?_eq_getElem (by omega)
    have h2:(l.map d)[i]?=some (d l[i]):=by rw [List.getElem?_map,List.getElem?_eq_getElem hi];rfl
    rw [h1,hv _ _ _ _ (hc i _ _ h2 h1),List.getElem?_map,List.getElem?_eq_getElem hi]
    rfl
  · rw [List.getElem?_eq_none (by omega),List.getElem?_eq_none (by rw [List.length_map];omega)]
theorem nV_of (w:World) (S:Nat→Prop) (x:Nat) (u:Value) (h:RD w S (nD x) u):u=nV x:=by
  cases h
  rfl
theorem bV_of (w:World) (S:Nat→Prop) (x:UInt8) (u:Value) (h:RD w S (bD x) u):u=bV x:=by
  cases h
  rfl
theorem leV_red (q:Nat): ∀ (ys:List (Nat × UInt8)) (zs:List UInt8),ys.map Prod.snd=zs.reverse→redF q ys=leV zs%q:=by
  intro ys zs h
  have e: ∀ ys:List (Nat × UInt8),redF q ys=(ys.map Prod.snd).foldl (fun r x=>(r*256+x.toNat)%q) 0:=fun ys=>by
    rw [redF,List.foldl_map]
  rw [e,h]
  clear e h ys
  induction zs with
  | nil=>simp [leV]
  | cons b l ih =>
    rw [List.reverse_cons,List.foldl_append,ih]
    show (leV l%q*256+b.toNat)%q=(b.toNat+256*leV l)%q
    rw [Nat.add_mod,Nat.mul_mod,Nat.mod_mod,← Nat.mul_mod,← Nat.add_mod,Nat.mul_comm 256,Nat.add_comm]
theorem reduce_m {G:Nat→Option (List D)} (b:List UInt8) (hn:b.length≤1000000000):Spec Tryz.prog G 77 [.c (bytesD b)] (.one (.g ((leB (leV b%lQ)).map bD))):=by
  intro w S vs hS hT hA
  obtain ⟨hl,hc⟩:=hA
  match vs,hl with
  | [u],_ =>
    obtain ⟨A,c,rfl,hs⟩:=bytes_sl (hc 0 _ _ rfl rfl) rfl
    obtain ⟨bk,off,hbk,hA,hcell⟩: ∃ bk off,(b≠[]→bk<w.heap.size)∧(b≠[]→A=some ⟨bk,off,none⟩)∧ ∀ (j:Nat) (x:UInt8),b[j]?=some x→w.cell? ⟨bk,off+j,none⟩=some (.int .u8 (x.toNat:Int)):=by
      by_cases hb0:b=[]
      · subst hb0
        exact ⟨0,0,fun h=>absurd rfl h,fun h=>absurd rfl h,fun j x h=>by simp at h⟩
      · obtain ⟨bk,o,rfl,hb,hr⟩:=hs.2.2.2 (List.length_pos_iff.2 hb0)
        refine ⟨bk,o,fun _=>hS _ hb,fun _=>rfl,fun j x hx=>?_⟩
        obtain ⟨es,he,hc⟩:=hr j x hx
        subst he
        have:=hc 0 _ rfl
        simpa [Rep.u8] using this
    have hT0: ∀ W S,Tables (fun _=>none) W S:=fun W S g cs h=>by cases h
    refine Calls.mono (reduce_w (fun i r=>((w4 r).getD i 0:Nat)) (fun i=>?_) lQ (by decide +kernel) w A bk off c b ((leB (leV b%lQ)).map bV) (by rw [List.length_map,leB_len]) (fun v hv=>?_) (by omega) hbk hA hcell (fun r y W hr=>?_) (fun ys W hys=>?_)) ?_
    · show (((w4 0).getD i 0:Nat):Int)=0
      match i with
      | 0=>rfl
      | 1=>rfl
      | 2=>rfl
      | 3=>rfl
      | i+4=>rfl
    · obtain ⟨x,_,rfl⟩:=List.mem_map.1 hv
      rfl
    · refine Calls.mono (rest_m (G:=fun _=>none) r y hr W (fun _=>False) [.agg ((w4 r).map nV).toArray,bV y] (fun b h=>h.elim) (hT0 _ _) ⟨rfl,fun i x v hx hv=>?_⟩) ?_
      · match i with
        | 0 =>
          simp at hx hv
          subst hx hv
          exact map_fwd (fun _ _ x=> .v _ rfl) _
        | 1 =>
          simp at hx hv
          subst hx hv
          exact .v _ rfl
        | i+2=>simp at hx
      · rintro e w1 ⟨hE,u1,rfl,hu⟩
        refine ⟨belowE hE,?_⟩
        rw [map_back nV_of hu]
        rfl
    · refine Calls.mono (put_m (G:=fun _=>none) (redF lQ ys) W (fun _=>False) [.agg ((w4 (redF lQ ys)).map nV).toArray] (fun b h=>h.elim) (hT0 _ _) ⟨rfl,fun i x v hx hv=>?_⟩) ?_
      · match i with
        | 0 =>
          simp at hx hv
          subst hx hv
          exact map_fwd (fun _ _ x=> .v _ rfl) _
        | i+1=>simp at hx
      · rintro e w1 ⟨hE,u1,rfl,hu⟩
        refine ⟨belowE hE,?_⟩
        rw [map_back bV_of hu,leV_red lQ ys b hys]
    · rintro e w1 ⟨hB,rfl⟩
      exact ⟨evB hB,_,rfl,map_fwd (fun _ _ x=> .v _ rfl) _⟩
end Go.Proofs.YtdakeodebgggfaaGreatDoor
namespace Go.Proofs.YtdakeodebgggfaaGreatDoor
open Go.RowKit
theorem flatB {l:List UInt8} {k:Nat} {x:UInt8} (h:l[k]?=some x):(l.map bD)[k]?=some (D.v (.int .u8 (x.toNat:Int))):=by rw [List.getElem?_map,h];rfl
theorem equalS_m {G:Nat→Option (List D)} (l m:List UInt8) (hn:l.length≤1000000000):Spec Tryz.prog G 78 [.c (bytesD l),.c (bytesD m)] (.one (.c (.v (.bool (l==m))))):=by
  refine spec_of Tryz.func78 rfl rfl rfl (by kernel_rfl) rfl fun K=>?_
  by_cases hn:l.length=m.length
  · have d1:((l.length:Int)==(m.length:Int))=true:=by simp [hn]
    (repeat' (first|with_reducible (first|refine zA fun Kn hK=>?_|refine zB (by kernel_rfl) ?_|refine Nx.go ?_|go_step)|fail|with_reducible (first|refine zI ?_|refine zJ ?_|refine zK ?_ ?_|refine zL ?_ ?_|refine zR (by kernel_rfl) ?_)|simp (maxSteps:=9999999) (disch:=omega) only [wq]|(with_reducible refine zM (fun hb=>?_) (fun hb=>?_) <;> (try simp only [hb]))|(with_reducible refine And.intro (by first|omega|(simp;done)|(simp;omega)) ?_)|simp (maxSteps:=9999999) (implicitDefEqProofs:=false) only [go_sem,d1]|fail))
    refine sound_loopR (fun x:{k:Nat // k≤l.length∧l.take k=m.take k}=>⟨[(0,vD (bytesD l)),(1,vD (bytesD m)),(12,vI l.length),(13,vI x.1)],[]⟩) (fun x=>l.length-x.1) ⟨0,by simp⟩ [] (by (iterate 2 ((try simp (maxSteps:=9999999) (implicitDefEqProofs:=false) only [go_sem,true_and]);(try simp (maxSteps:=9999999) (disch:=omega) only [wq])));try simp) (fun ⟨k,hk,hall⟩=>?_)
    by_cases hlt:k<l.length
    · obtain ⟨x,hx⟩: ∃ x,l[k]?=some x:=⟨_,List.getElem?_eq_getElem hlt⟩
      obtain ⟨y,hy⟩: ∃ y,m[k]?=some y:=⟨_,List.getElem?_eq_getElem (by omega)⟩
      have hb:decide ((k:Int)<(l.length:Int))=true:=by simpa using hlt
      have hlm:k<m.length:=by omega
      by_cases hxy:x=y
      · subst hxy
        have hd:((x.toNat:Int)==(x.toNat:Int))=true:=by simp
        (repeat' (first|with_reducible (first|refine zA fun Kn hK=>?_|refine zB (by kernel_rfl) ?_|refine Nx.go ?_|go_step)|fail|with_reducible (first|refine zI ?_|refine zJ ?_|refine zK ?_ ?_|refine zL ?_ ?_|refine zR (by kernel_rfl) ?_)|simp (maxSteps:=9999999) (disch:=omega) only [wq]|(with_reducible refine zM (fun hb=>?_) (fun hb=>?_) <;> (try simp only [hb]))|(with_reducible refine And.intro (by first|omega|(simp;done)|(simp;omega)) ?_)|simp (maxSteps:=9999999) (implicitDefEqProofs:=false) only [go_sem,hb,flatB hx,flatB hy,hd,List.length_map]|fail))
        refine ⟨[],⟨k+1,hlt,?_⟩,?_⟩
        · rw [List.take_add_one,List.take_add_one,hx,hy,hall]
        · (iterate 2 ((try simp (maxSteps:=9999999) (implicitDefEqProofs:=false) only [go_sem,true_and]);(try simp (maxSteps:=9999999) (disch:=omega) only [wq])))
          try (simp only [ijq,true_and,and_true];first|done|omega|(split <;> omega)|(simp;done)|(simp;omega))
      · have hd:((x.toNat:Int)==(y.toNat:Int))=false:=by
          rw [beq_eq_false_iff_ne]
          intro h
          exact hxy (UInt8.toNat_inj.1 (by omega))
        have hf:(l==m)=false:=by
          rw [beq_eq_false_iff_ne]
          rintro rfl
          rw [hx] at hy
          injection hy with hy
          exact hxy hy
        (repeat' (first|with_reducible (first|refine zA fun Kn hK=>?_|refine zB (by kernel_rfl) ?_|refine Nx.go ?_|go_step)|fail|with_reducible (first|refine zI ?_|refine zJ ?_|refine zK ?_ ?_|refine zL ?_ ?_|refine zR (by kernel_rfl) ?_)|simp (maxSteps:=9999999) (disch:=omega) only [wq]|(with_reducible refine zM (fun hb=>?_) (fun hb=>?_) <;> (try simp only [hb]))|(with_reducible refine And.intro (by first|omega|(simp;done)|(simp;omega)) ?_)|simp (maxSteps:=9999999) (implicitDefEqProofs:=false) only [go_sem,hb,flatB hx,flatB hy,hd,hf,List.length_map]|fail))
    · have hb:decide ((k:Int)<(l.length:Int))=false:=by simpa using hlt
      obtain rfl:k=l.length:=by omega
      rw [List.take_length,hn,List.take_length] at hall
      have hf:(l==m)=true:=by rw [hall];simp
      (repeat' (first|with_reducible (first|refine zA fun Kn hK=>?_|refine zB (by kernel_rfl) ?_|refine Nx.go ?_|go_step)|fail|with_reducible (first|refine zI ?_|refine zJ ?_|refine zK ?_ ?_|refine zL ?_ ?_|refine zR (by kernel_rfl) ?_)|simp (maxSteps:=9999999) (disch:=omega) only [wq]|(with_reducible refine zM (fun hb=>?_) (fun hb=>?_) <;> (try simp only [hb]))|(with_reducible refine And.intro (by first|omega|(simp;done)|(simp;omega)) ?_)|simp (maxSteps:=9999999) (implicitDefEqProofs:=false) only [go_sem,hb,hf]|fail))
  · have d1:((l.length:Int)==(m.length:Int))=false:=by
      rw [beq_eq_false_iff_ne]
      omega
    have hf:(l==m)=false:=by
      rw [beq_eq_false_iff_ne]
      rintro rfl
      exact hn rfl
    (repeat' (first|with_reducible (first|refine zA fun Kn hK=>?_|refine zB (by kernel_rfl) ?_|refine Nx.go ?_|go_step)|fail|with_reducible (first|refine zI ?_|refine zJ ?_|refine zK ?_ ?_|refine zL ?_ ?_|refine zR (by kernel_rfl) ?_)|simp (maxSteps:=9999999) (disch:=omega) only [wq]|(with_reducible refine zM (fun hb=>?_) (fun hb=>?_) <;> (try simp only [hb]))|(with_reducible refine And.intro (by first|omega|(simp;done)|(simp;omega)) ?_)|simp (maxSteps:=9999999) (implicitDefEqProofs:=false) only [go_sem,d1,hf]|fail))
theorem may_ok {b:List UInt8} (h:b.length=32):(b==leB (leV b%lQ))=decide (leV b<lQ):=by
  have hv:=leV_lt b
  rw [h] at hv
  rw [Bool.eq_iff_iff,beq_iff_eq,decide_eq_true_eq]
  constructor
  · intro h2
    have h3:=leV_leB (n:=leV b%lQ) (Nat.lt_trans (Nat.mod_lt _ (by decide +kernel)) (by decide +kernel))
    rw [← h2] at h3
    rw [h3]
    exact Nat.mod_lt _ (by decide +kernel)
  · intro h2
    rw [Nat.mod_eq_of_lt h2,leB_leV h]
theorem mayS_m {G:Nat→Option (List D)} (b:List UInt8) (hn:b.length≤1000000000):Spec Tryz.prog G 43 [.c (bytesD b)] (.one (.c (.v (.bool (decide (b.length=32∧leV b<lQ)))))):=by
  have hr:=reduce_m (G:=G) b hn
  have hll:=leB_len (leV b%lQ)
  have hok:=fun h=>may_ok (b:=b) h
  generalize leB (leV b%lQ)=R at *
  have he:=equalS_m (G:=G) b R hn
  unfold bytesD at he
  rw [hll] at he
  obtain ⟨c1,c2,c3⟩:=cd_facts (l:=R.map bD) (n:=32) (by rw [List.length_map];exact hll)
  by_cases h:b.length=32
  · rw [hok h] at he
    have hd:decide (b.length=32∧leV b<lQ)=decide (leV b<lQ):=by simp [h]
    rw [hd]
    have hb1:(b.length==32)=true:=by simp [h]
    refine spec_of Tryz.func43 rfl rfl rfl (by kernel_rfl) rfl fun K=>?_
    (repeat' (first|with_reducible (first|refine zA fun Kn hK=>?_|refine zB (by kernel_rfl) ?_|refine Nx.go ?_|go_step)|(refine ⟨none,?_⟩)|(refine ⟨_,hr,?_⟩)|(refine ⟨_,he,?_⟩)|with_reducible (first|refine zI ?_|refine zJ ?_|refine zK ?_ ?_|refine zL ?_ ?_|refine zR (by kernel_rfl) ?_)|simp (maxSteps:=9999999) (disch:=omega) only [wq]|(with_reducible refine zM (fun hb=>?_) (fun hb=>?_) <;> (try simp only [hb]))|(with_reducible refine And.intro (by first|omega|(simp;done)|(simp;omega)) ?_)|simp (maxSteps:=9999999) (implicitDefEqProofs:=false) only [go_sem,hb1,int_beqL,List.length_map,List.length_replicate,List.drop_replicate,hll,c1,c2,c3,List.append_nil]|fail))
  · have hd:decide (b.length=32∧leV b<lQ)=false:=by simp [h]
    rw [hd]
    have hb1:(b.length==32)=false:=by simp [h]
    refine spec_of Tryz.func43 rfl rfl rfl (by kernel_rfl) rfl fun K=>?_
    (repeat' (first|with_reducible (first|refine zA fun Kn hK=>?_|refine zB (by kernel_rfl) ?_|refine Nx.go ?_|go_step)|(refine ⟨_,hr,?_⟩)|(refine ⟨_,he,?_⟩)|with_reducible (first|refine zI ?_|refine zJ ?_|refine zK ?_ ?_|refine zL ?_ ?_|refine zR (by kernel_rfl) ?_)|simp (maxSteps:=9999999) (disch:=omega) only [wq]|(with_reducible refine zM (fun hb=>?_) (fun hb=>?_) <;> (try simp only [hb]))|(with_reducible refine And.intro (by first|omega|(simp;done)|(simp;omega)) ?_)|simp (maxSteps:=9999999) (implicitDefEqProofs:=false) only [go_sem,hb1,int_beqL,List.length_map,List.length_replicate,List.drop_replicate,hll,c1,c2,c3,List.append_nil]|fail))
end Go.Proofs.YtdakeodebgggfaaGreatDoor
namespace Go.Proofs.YtdakeodebgggfaaGreatDoor
open Go.RowKit
theorem raw_eq (V:Nat) (hV:V<65536^16) {L:List Nat} (h1:vV L=V) (h2:L.length=16) (h3: ∀ z∈L,z<65536):(refC (toF V)=L)↔V<pP:=by
  have hd:=dg_vV L h3
  rw [h1,h2] at hd
  rw [refC,toF_val]
  constructor
  · intro h
    have h4:vV (dg 16 (V%pP))=V:=by rw [h,h1]
    rw [vV_dg,Nat.mod_eq_of_lt (Nat.lt_trans (Nat.mod_lt _ (by decide +kernel)) (by decide +kernel))] at h4
    rw [← h4]
    exact Nat.mod_lt _ (by decide +kernel)
  · intro h
    rw [Nat.mod_eq_of_lt h,hd]
theorem refraw_m {G:Nat→Option (List D)} (b:List UInt8) (hb:b.length=32):Spec Tryz.prog G 93 [.c (bytesD b)] (.many [.g ((refC (toF (leV b))).map nD),.c (.v (.bool (decide (leV b<pP))))]):=by
  obtain ⟨hv,hll,hlt⟩:=rawL_val 16 b hb
  have hget:=fun k x y h1 h2=>rawL_get (k:=k) (l:=b) (x:=x) (y:=y) h1 h2
  have hVl:=leV_lt b
  rw [hb,show (256:Nat)^32=65536^16 by decide +kernel] at hVl
  have hEq:=raw_eq (leV b) hVl hv hll hlt
  clear hVl
  have hf:=fit_m (G:=G) (rawL b) hll fun x hx=>by have:=hlt x hx;omega
  have hlo:=refC_len (toF (leV b))
  rw [show dg 16 (vV (rawL b)%pP)=refC (toF (leV b)) by rw [hv];rfl] at hf
  have hk2:=keyL_nums (P:=Tryz.prog) (t:=61) (e:=59) (n:=16) (l:=refC (toF (leV b))) Tryz.underlying61 Tryz.underlying59 (by kernel_rfl) (by kernel_rfl) hlo fun x hx=>by have:=refC_lt _ x hx;omega
  have hk1:=keyL_nums (P:=Tryz.prog) (t:=61) (e:=59) (n:=16) (l:=rawL b) Tryz.underlying61 Tryz.underlying59 (by kernel_rfl) (by kernel_rfl) hll fun x hx=>by have:=hlt x hx;omega
  generalize refC (toF (leV b))=O at *
  have hh:(decide (leV b<pP)=true)↔O.map litN=(rawL b).map litN:=by rw [decide_eq_true_eq,litN_map,hEq]
  generalize decide (leV b<pP)=okb at *
  clear hEq hv
  have hst:=fun k r hk h=>set_take (l:=rawL b) (r:=r) (k:=k) hk hll h
  generalize rawL b=L at *
  obtain ⟨l1,l2,l3⟩:=cd_facts (l:=L.map nD) (n:=16) (by rw [List.length_map];exact hll)
  obtain ⟨o1,o2,o3⟩:=cd_facts (l:=O.map nD) (n:=16) (by rw [List.length_map];exact hlo)
  refine spec_of Tryz.func93 rfl rfl rfl (by kernel_rfl) rfl fun K=>?_
  (repeat' (first|with_reducible (first|refine zA fun Kn hK=>?_|refine zB (by kernel_rfl) ?_|refine Nx.go ?_|go_step)|fail|with_reducible (first|refine zI ?_|refine zJ ?_|refine zK ?_ ?_|refine zL ?_ ?_|refine zR (by kernel_rfl) ?_)|simp (maxSteps:=9999999) (disch:=omega) only [wq]|(with_reducible refine zM (fun hb=>?_) (fun hb=>?_) <;> (try simp only [hb]))|(with_reducible refine And.intro (by first|omega|(simp;done)|(simp;omega)) ?_)|simp (maxSteps:=9999999) (implicitDefEqProofs:=false) only [go_sem,List.length_map,List.length_replicate,List.drop_replicate,List.take_replicate,List.append_nil]|fail))
  refine sound_loopR (fun x:{p:Nat × List Nat // p.1≤16∧p.2=L.take p.1++List.replicate (16-p.1) 0}=>⟨[(0,.a (.c (.d (bytesD b)))),(2,vP 2 0),(4,vP 4 0),(5,vI x.1.1)],[(2,some ⟨61,zeroOf Tryz.prog 61,true,false⟩),(4,some ⟨61,(x.1.2.map nD).map C.d,true,false⟩)]⟩) (fun x=>16-x.1.1) ⟨(0,List.replicate 16 0),Nat.zero_le _,by simp⟩ [] (by (iterate 2 ((try simp (maxSteps:=9999999) (implicitDefEqProofs:=false) only [go_sem,true_and]);(try simp (maxSteps:=9999999) (disch:=omega) only [wq])));try simp [nD]) (fun ⟨⟨k,r⟩,hk,hr⟩=>?_)
  dsimp only at hk hr
  have hrl:r.length=16:=by rw [hr,List.length_append,List.length_take,List.length_replicate];omega
  by_cases hlk:k<16
  · have hb1:decide ((k:Int)<16)=true:=decide_eq_true (by omega)
    obtain ⟨x,hx⟩: ∃ x,b[2*k]?=some x:=⟨_,List.getElem?_eq_getElem (by omega)⟩
    obtain ⟨y,hy⟩: ∃ y,b[2*k+1]?=some y:=⟨_,List.getElem?_eq_getElem (by omega)⟩
    have hx8:x.toNat<256:=x.toNat_lt
    have hy8:y.toNat<256:=y.toNat_lt
    have hgx:=flatB hx
    have hgy:=flatB hy
    have hgd:=hget k x y hx hy
    have hs:=hst k r hlk hr
    rw [hgd] at hs
    have h2n:(2*(k:Int)).toNat=2*k:=by omega
    have h2n1:(2*(k:Int)+1).toNat=2*k+1:=by omega
    have hw1:IntKind.i64.wrap (2*(k:Int))=2*(k:Int):=wrap_id (by omega) (by omega)
    have hT:(x.toNat%18446744073709551616+256*(y.toNat%18446744073709551616)%18446744073709551616)%18446744073709551616=x.toNat+256*y.toNat:=by omega
    have hT2:(x.toNat+256*y.toNat%18446744073709551616)%18446744073709551616=x.toNat+256*y.toNat:=by omega
    (repeat' (first|with_reducible (first|refine zA fun Kn hK=>?_|refine zB (by kernel_rfl) ?_|refine Nx.go ?_|go_step)|fail|with_reducible (first|refine zI ?_|refine zJ ?_|refine zK ?_ ?_|refine zL ?_ ?_|refine zR (by kernel_rfl) ?_)|simp (maxSteps:=9999999) (disch:=omega) only [wq]|(with_reducible refine zM (fun hb=>?_) (fun hb=>?_) <;> (try simp only [hb]))|(with_reducible refine And.intro (by first|omega|(simp;done)|(simp;omega)) ?_)|simp (maxSteps:=9999999) (implicitDefEqProofs:=false) only [go_sem,hb1,hw1,hgx,hgy,h2n,h2n1,hT,hT2,wrap_nat,List.length_map,hrl,hb]|fail))
    refine ⟨[],⟨(k+1,r.set k (x.toNat+256*y.toNat)),by omega,hs⟩,?_⟩
    (iterate 2 ((try simp (maxSteps:=9999999) (implicitDefEqProofs:=false) only [go_sem,true_and]);(try simp (maxSteps:=9999999) (disch:=omega) only [wq])))
    try (simp only [ijq,true_and,and_true];first|done|omega|(split <;> omega)|(simp;done)|(simp;omega))
  have hb1:decide ((k:Int)<16)=false:=decide_eq_false (by omega)
  obtain rfl:k=16:=by omega
  rw [Nat.sub_self,take16 hll,List.replicate_zero,List.append_nil] at hr
  subst hr
  (repeat' (first|with_reducible (first|refine zA fun Kn hK=>?_|refine zB (by kernel_rfl) ?_|refine Nx.go ?_|go_step)|(refine ⟨_,hf,?_⟩)|(refine run_agg_eql (by kernel_rfl) hk2 hk1 hh ?_)|with_reducible (first|refine zI ?_|refine zJ ?_|refine zK ?_ ?_|refine zL ?_ ?_|refine zR (by kernel_rfl) ?_)|simp (maxSteps:=9999999) (disch:=omega) only [wq]|(with_reducible refine zM (fun hb=>?_) (fun hb=>?_) <;> (try simp only [hb]))|(with_reducible refine And.intro (by first|omega|(simp;done)|(simp;omega)) ?_)|simp (maxSteps:=9999999) (implicitDefEqProofs:=false) only [go_sem,hb1,List.length_map,List.length_replicate,List.drop_replicate,hll,hlo,l1,l2,l3,o1,o2,o3,List.append_nil]|fail))
end Go.Proofs.YtdakeodebgggfaaGreatDoor
namespace Go.Proofs.YtdakeodebgggfaaGreatDoor
open Go.RowKit
theorem le_two (v:Nat) {k:Nat} (hk:k<16):(leB v).take (2*(k+1))=(leB v).take (2*k)++[UInt8.ofNat ((refC (toF v)).getD k 0%256),UInt8.ofNat ((refC (toF v)).getD k 0/256)]∨ ¬ v<pP:=by
  by_cases hv:v<pP
  · left
    have hd:(refC (toF v)).getD k 0=v/65536^k%65536:=by
      rw [refC,toF_val,Nat.mod_eq_of_lt hv,dg_get hk]
    have e1:(65536:Nat)^k=2^(8*(2*k)):=by rw [show (65536:Nat)=2^16 from rfl,← Nat.pow_mul];congr 1;omega
    have e2:v/2^(8*(2*k+1))=v/65536^k/256:=by rw [e1,Nat.div_div_eq_div_mul,show (256:Nat)=2^8 from rfl,← Nat.pow_add];rfl
    rw [show 2*(k+1)=2*k+1+1 by omega,List.take_add_one,List.take_add_one,leB_get (by omega),leB_get (by omega),hd,e2,← e1]
    rw [List.append_assoc]
    congr 2
    generalize v/65536^k=z
    rw [show z%65536%256=z%256 by omega,show z%65536/256=z/256%256 by omega]
    rfl
  · exact .inr hv
end Go.Proofs.YtdakeodebgggfaaGreatDoor
namespace Go.Proofs.YtdakeodebgggfaaGreatDoor
open Go.RowKit
theorem refC_inj {x y:F}:(refC x).map litN=(refC y).map litN↔x=y:=by
  rw [litN_map]
  constructor
  · intro h
    refine F.ext ?_
    rw [← refC_val x,h,refC_val]
  · rintro rfl;rfl
theorem refC_key (x:F):KeyL Tryz.prog 61 (((refC x).map nD).map C.d) ((refC x).map litN):=
  keyL_nums (P:=Tryz.prog) (t:=61) (e:=59) (n:=16) Tryz.underlying61 Tryz.underlying59 (by kernel_rfl) (by kernel_rfl) (refC_len x) fun y hy=>by have:=refC_lt _ y hy;omega
theorem refC_key_eq {x y:F} {b:Bool} (h:b=decide (x=y)):(b=true)↔(refC x).map litN=(refC y).map litN:=by
  rw [refC_inj,h,decide_eq_true_eq]
theorem refC_odd (x:F):((refC x).getD 0 0%2==1)=oddF x:=by
  rw [refC,dg_get (by omega),Nat.pow_zero,Nat.div_one,Nat.mod_mod_of_dvd _ (show 2 ∣ 65536 by decide),oddF,Bool.eq_iff_iff,beq_iff_eq,decide_eq_true_eq]
theorem refC_zero:refC 0=List.replicate 16 0:=dg_zero 16
theorem negF (x:F):(0:F)-x= -x:=by
  refine F.ext ?_
  show (pP-x.val+0)%pP=(pP-x.val)%pP
  rw [Nat.add_zero]
section
variable {G:Nat→Option (List D)}
theorem refroot_w {u p1 a s t b s2:F}
    (h1:Spec Tryz.prog G 101 [.g ((refC u).map nD),.c (.v (.int .u64 5)),.c (.v (.int .i64 3))] (.one (.g ((refC p1).map nD))))
    (h2:Spec Tryz.prog G 59 [.g ((refC p1).map nD),.g ((refC u).map nD)] (.one (.g ((refC a).map nD))))
    (h3:Spec Tryz.prog G 59 [.g ((refC a).map nD),.g ((refC a).map nD)] (.one (.g ((refC s).map nD))))
    (h4:Spec Tryz.prog G 58 [.c (.v (.int .u64 2))] (.one (.g ((refC (toF 2)).map nD))))
    (h5:Spec Tryz.prog G 101 [.g ((refC (toF 2)).map nD),.c (.v (.int .u64 1)),.c (.v (.int .i64 2))] (.one (.g ((refC t).map nD))))
    (h6:Spec Tryz.prog G 59 [.g ((refC a).map nD),.g ((refC t).map nD)] (.one (.g ((refC b).map nD))))
    (h7:Spec Tryz.prog G 59 [.g ((refC b).map nD),.g ((refC b).map nD)] (.one (.g ((refC s2).map nD))))
    (h8:Spec Tryz.prog G 94 [.g ((refC a).map nD)] (.one (.g ((refC (-a)).map nD))))
    (h9:Spec Tryz.prog G 94 [.g ((refC b).map nD)] (.one (.g ((refC (-b)).map nD)))) :
    Spec Tryz.prog G 104 [.g ((refC u).map nD)] (.many [.g ((refC (if s=u then (if oddF a then -a else a) else if s2=u then (if oddF b then -b else b) else 0)).map nD),.c (.v (.bool (decide (s=u)||decide (s2=u))))]):=by
  have hlen:=refC_len
  have c1:=fun (y:F)=>(cd_facts (l:=(refC y).map nD) (n:=16) (by rw [List.length_map];exact hlen y)).1
  have c2:=fun (y:F)=>(cd_facts (l:=(refC y).map nD) (n:=16) (by rw [List.length_map];exact hlen y)).2.1
  have c3:=fun (y:F)=>(cd_facts (l:=(refC y).map nD) (n:=16) (by rw [List.length_map];exact hlen y)).2.2
  have k1:=refC_key s
  have k2:=refC_key u
  have k3:=refC_key s2
  have ga:=numsC_get (l:=refC a) (k:=0) (by rw [hlen];omega)
  have gb:=numsC_get (l:=refC b) (k:=0) (by rw [hlen];omega)
  have oa:=refC_odd a
  have ob:=refC_odd b
  have ma:(refC a).getD 0 0%2%18446744073709551616=(refC a).getD 0 0%2:=Nat.mod_eq_of_lt (by omega)
  have mb:(refC b).getD 0 0%2%18446744073709551616=(refC b).getD 0 0%2:=Nat.mod_eq_of_lt (by omega)
  have hz:=refC_zero
  by_cases hs:s=u
  · have hh:(true=true)↔(refC s).map litN=(refC u).map litN:=refC_key_eq (by rw [decide_eq_true hs])
    rw [if_pos hs,decide_eq_true hs,Bool.true_or]
    clear hs
    cases ho:oddF a with
    | true =>
      rw [ho] at oa
      rw [if_pos rfl]
      refine spec_of Tryz.func104 rfl rfl rfl (by kernel_rfl) rfl fun K=>?_
      (repeat' (first|with_reducible (first|refine zA fun Kn hK=>?_|refine zB (by kernel_rfl) ?_|refine Nx.go ?_|go_step)|(refine ⟨_,h1,?_⟩)|(refine ⟨_,h2,?_⟩)|(refine ⟨_,h3,?_⟩)|(refine ⟨_,h8,?_⟩)|(refine run_agg_neq (by kernel_rfl) k1 k2 hh ?_)|with_reducible (first|refine zI ?_|refine zJ ?_|refine zK ?_ ?_|refine zL ?_ ?_|refine zR (by kernel_rfl) ?_)|simp (maxSteps:=9999999) (disch:=omega) only [wq]|(with_reducible refine zM (fun hb=>?_) (fun hb=>?_) <;> (try simp only [hb]))|(with_reducible refine And.intro (by first|omega|(simp;done)|(simp;omega)) ?_)|simp (maxSteps:=9999999) (implicitDefEqProofs:=false) only [go_sem,c1,c2,c3,hlen,ga,oa,ma,int_beqL,wrap_nat,Bool.not_true,List.length_map,List.length_replicate,List.drop_replicate,List.append_nil]|fail))
    | false =>
      rw [ho] at oa
      rw [if_neg (by simp)]
      refine spec_of Tryz.func104 rfl rfl rfl (by kernel_rfl) rfl fun K=>?_
      (repeat' (first|with_reducible (first|refine zA fun Kn hK=>?_|refine zB (by kernel_rfl) ?_|refine Nx.go ?_|go_step)|(refine ⟨_,h1,?_⟩)|(refine ⟨_,h2,?_⟩)|(refine ⟨_,h3,?_⟩)|(refine ⟨_,h8,?_⟩)|(refine run_agg_neq (by kernel_rfl) k1 k2 hh ?_)|with_reducible (first|refine zI ?_|refine zJ ?_|refine zK ?_ ?_|refine zL ?_ ?_|refine zR (by kernel_rfl) ?_)|simp (maxSteps:=9999999) (disch:=omega) only [wq]|(with_reducible refine zM (fun hb=>?_) (fun hb=>?_) <;> (try simp only [hb]))|(with_reducible refine And.intro (by first|omega|(simp;done)|(simp;omega)) ?_)|simp (maxSteps:=9999999) (implicitDefEqProofs:=false) only [go_sem,c1,c2,c3,hlen,ga,oa,ma,int_beqL,wrap_nat,Bool.not_true,List.length_map,List.length_replicate,List.drop_replicate,List.append_nil]|fail))
  · have hh:(false=true)↔(refC s).map litN=(refC u).map litN:=refC_key_eq (by rw [decide_eq_false hs])
    rw [if_neg hs,decide_eq_false hs,Bool.false_or]
    clear hs
    by_cases hs2:s2=u
    · have hh2:(true=true)↔(refC s2).map litN=(refC u).map litN:=refC_key_eq (by rw [decide_eq_true hs2])
      rw [if_pos hs2,decide_eq_true hs2]
      clear hs2
      cases ho:oddF b with
      | true =>
        rw [ho] at ob
        rw [if_pos rfl]
        refine spec_of Tryz.func104 rfl rfl rfl (by kernel_rfl) rfl fun K=>?_
        (repeat' (first|with_reducible (first|refine zA fun Kn hK=>?_|refine zB (by kernel_rfl) ?_|refine Nx.go ?_|go_step)|(refine ⟨_,h1,?_⟩)|(refine ⟨_,h2,?_⟩)|(refine ⟨_,h3,?_⟩)|(refine ⟨_,h4,?_⟩)|(refine ⟨_,h5,?_⟩)|(refine ⟨_,h6,?_⟩)|(refine ⟨_,h7,?_⟩)|(refine ⟨_,h9,?_⟩)|(refine run_agg_neq (by kernel_rfl) k1 k2 hh ?_)|(refine run_agg_neq (by kernel_rfl) k3 k2 hh2 ?_)|with_reducible (first|refine zI ?_|refine zJ ?_|refine zK ?_ ?_|refine zL ?_ ?_|refine zR (by kernel_rfl) ?_)|simp (maxSteps:=9999999) (disch:=omega) only [wq]|(with_reducible refine zM (fun hb=>?_) (fun hb=>?_) <;> (try simp only [hb]))|(with_reducible refine And.intro (by first|omega|(simp;done)|(simp;omega)) ?_)|simp (maxSteps:=9999999) (implicitDefEqProofs:=false) only [go_sem,c1,c2,c3,hlen,gb,ob,mb,int_beqL,wrap_nat,Bool.not_true,Bool.not_false,List.length_map,List.length_replicate,List.drop_replicate,List.append_nil]|fail))
      | false =>
        rw [ho] at ob
        rw [if_neg (by simp)]
        refine spec_of Tryz.func104 rfl rfl rfl (by kernel_rfl) rfl fun K=>?_
        (repeat' (first|with_reducible (first|refine zA fun Kn hK=>?_|refine zB (by kernel_rfl) ?_|refine Nx.go ?_|go_step)|(refine ⟨_,h1,?_⟩)|(refine ⟨_,h2,?_⟩)|(refine ⟨_,h3,?_⟩)|(refine ⟨_,h4,?_⟩)|(refine ⟨_,h5,?_⟩)|(refine ⟨_,h6,?_⟩)|(refine ⟨_,h7,?_⟩)|(refine ⟨_,h9,?_⟩)|(refine run_agg_neq (by kernel_rfl) k1 k2 hh ?_)|(refine run_agg_neq (by kernel_rfl) k3 k2 hh2 ?_)|with_reducible (first|refine zI ?_|refine zJ ?_|refine zK ?_ ?_|refine zL ?_ ?_|refine zR (by kernel_rfl) ?_)|simp (maxSteps:=9999999) (disch:=omega) only [wq]|(with_reducible refine zM (fun hb=>?_) (fun hb=>?_) <;> (try simp only [hb]))|(with_reducible refine And.intro (by first|omega|(simp;done)|(simp;omega)) ?_)|simp (maxSteps:=9999999) (implicitDefEqProofs:=false) only [go_sem,c1,c2,c3,hlen,gb,ob,mb,int_beqL,wrap_nat,Bool.not_true,Bool.not_false,List.length_map,List.length_replicate,List.drop_replicate,List.append_nil]|fail))
    · have hh2:(false=true)↔(refC s2).map litN=(refC u).map litN:=refC_key_eq (by rw [decide_eq_false hs2])
      rw [if_neg hs2,decide_eq_false hs2]
      clear hs2
      have hzC:List.replicate 16 (C.d (D.v (Value.int IntKind.u64 0)))=((refC 0).map nD).map C.d:=by rw [hz];rfl
      refine spec_of Tryz.func104 rfl rfl rfl (by kernel_rfl) rfl fun K=>?_
      (repeat' (first|with_reducible (first|refine zA fun Kn hK=>?_|refine zB (by kernel_rfl) ?_|refine Nx.go ?_|go_step)|(refine ⟨_,h1,?_⟩)|(refine ⟨_,h2,?_⟩)|(refine ⟨_,h3,?_⟩)|(refine ⟨_,h4,?_⟩)|(refine ⟨_,h5,?_⟩)|(refine ⟨_,h6,?_⟩)|(refine ⟨_,h7,?_⟩)|(refine ⟨_,h9,?_⟩)|(refine run_agg_neq (by kernel_rfl) k1 k2 hh ?_)|(refine run_agg_neq (by kernel_rfl) k3 k2 hh2 ?_)|with_reducible (first|refine zI ?_|refine zJ ?_|refine zK ?_ ?_|refine zL ?_ ?_|refine zR (by kernel_rfl) ?_)|simp (maxSteps:=9999999) (disch:=omega) only [wq]|(with_reducible refine zM (fun hb=>?_) (fun hb=>?_) <;> (try simp only [hb]))|(with_reducible refine And.intro (by first|omega|(simp;done)|(simp;omega)) ?_)|simp (maxSteps:=9999999) (implicitDefEqProofs:=false) only [go_sem,c1,c2,c3,hlen,int_beqL,wrap_nat,Bool.not_true,Bool.not_false,List.length_map,hzC,List.append_nil]|fail))
end
theorem refroot_m {G:Nat→Option (List D)} (u:F):Spec Tryz.prog G 104 [.g ((refC u).map nD)] (.many [.g ((refC (rootF u)).map nD),.c (.v (.bool (rootOk u)))]):=by
  have hA:fpow u ((pP-5)/2^3)*u=rootA u:=by
    rw [← fpow_succ,rootA]
    congr 1
  have hT:(pP-1)/2^2=2^253-5:=by decide +kernel
  have h1:=refpow_m (G:=G) u 5 3 (by omega) (by omega)
  have h2:=refmul_m (G:=G) (fpow u ((pP-5)/2^3)) u
  rw [hA] at h2
  have h3:=refmul_m (G:=G) (rootA u) (rootA u)
  have h4:=refof_m (G:=G) 2 (by omega)
  have h5:=refpow_m (G:=G) (toF 2) 1 2 (by omega) (by omega)
  rw [hT] at h5
  have h6:=refmul_m (G:=G) (rootA u) (fpow (toF 2) (2^253-5))
  have h7:=refmul_m (G:=G) (rootB u) (rootB u)
  have hw:=refroot_w (G:=G) (a:=rootA u) (s:=rootA u*rootA u) (b:=rootB u) (s2:=rootB u*rootB u) h1 h2 h3 h4 h5 h6 h7 (refneg_m (rootA u)) (refneg_m (rootB u))
  have e1:(if rootA u*rootA u=u then (if oddF (rootA u) then -rootA u else rootA u) else if rootB u*rootB u=u then (if oddF (rootB u) then -rootB u else rootB u) else 0)=rootF u:=by
    unfold rootF rootOk rootC
    by_cases h:rootA u*rootA u=u
    · rw [if_pos h,if_pos h,if_pos (decide_eq_true h),negF]
    · rw [if_neg h,if_neg h]
      by_cases h':rootB u*rootB u=u
      · rw [if_pos h',if_pos (decide_eq_true h'),negF]
      · rw [if_neg h',if_neg (by simpa using h')]
  have e2:(decide (rootA u*rootA u=u)||decide (rootB u*rootB u=u))=rootOk u:=by
    unfold rootOk rootC
    by_cases h:rootA u*rootA u=u
    · rw [if_pos h,decide_eq_true h,Bool.true_or]
    · rw [if_neg h,decide_eq_false h,Bool.false_or]
  rw [e1,e2] at hw
  exact hw
end Go.Proofs.YtdakeodebgggfaaGreatDoor
namespace Go.Proofs.YtdakeodebgggfaaGreatDoor
open Go.RowKit
def wordsD (l:List Nat):D:= .sl l.length (l.map nD)
def lL:List Nat:=[54253,23797,25370,22546,40150,41719,63966,5342,0,0,0,0,0,0,0,4096]
@[go_sem ↓ high] theorem aop_lL {G:Nat→Option (List D)} {sl:Nat→SV} {d:Option Nat} {ty:TypeId} {pos:String} {af:Array Edge} {gd:Option (Nat × Bool)} :
    aop Tryz.prog G (evl G sl) ⟨d,.buildSlice 106 16 ⟨[(0,Operand.const (Value.int IntKind.u64 54253)),(1,Operand.const (Value.int IntKind.u64 23797)),(2,Operand.const (Value.int IntKind.u64 25370)),(3,Operand.const (Value.int IntKind.u64 22546)),(4,Operand.const (Value.int IntKind.u64 40150)),(5,Operand.const (Value.int IntKind.u64 41719)),(6,Operand.const (Value.int IntKind.u64 63966)),(7,Operand.const (Value.int IntKind.u64 5342)),(8,Operand.const (Value.int IntKind.u64 0)),(9,Operand.const (Value.int IntKind.u64 0)),(10,Operand.const (Value.int IntKind.u64 0)),(11,Operand.const (Value.int IntKind.u64 0)),(12,Operand.const (Value.int IntKind.u64 0)),(13,Operand.const (Value.int IntKind.u64 0)),(14,Operand.const (Value.int IntKind.u64 0)),(15,Operand.const (Value.int IntKind.u64 4096))]⟩,ty,pos,af,gd⟩= .need (true=true) (.need (tyok Tryz.prog 59=true∧16*szOf Tryz.prog 59≤16777216) (newQ d 59 ((lL.map nD).map C.d) (fun d=> .row d (szOf Tryz.prog 59) 0 16 (.ex 16)))):=by
  rw [aop_buildSlice]
  kernel_rfl
theorem lorder_m {G:Nat→Option (List D)}:Spec Tryz.prog G 105 [] (.one (.c (.sl 16 (lL.map nD)))):=by
  obtain ⟨c1,c2,c3⟩:=cd_facts (l:=lL.map nD) (n:=16) rfl
  have hl:lL.length=16:=rfl
  refine spec_of Tryz.func105 rfl rfl rfl (by kernel_rfl) rfl fun K=>?_
  (repeat' (first|with_reducible (first|refine zA fun Kn hK=>?_|refine zB (by kernel_rfl) ?_|refine Nx.go ?_|go_step)|fail|with_reducible (first|refine zI ?_|refine zJ ?_|refine zK ?_ ?_|refine zL ?_ ?_|refine zR (by kernel_rfl) ?_)|simp (maxSteps:=9999999) (disch:=omega) only [wq]|(with_reducible refine zM (fun hb=>?_) (fun hb=>?_) <;> (try simp only [hb]))|(with_reducible refine And.intro (by first|omega|(simp;done)|(simp;omega)) ?_)|simp (maxSteps:=9999999) (implicitDefEqProofs:=false) only [go_sem,hl,c1,c2,c3,List.length_map,List.append_nil]|fail))
theorem vV_cmp: ∀ {a b:List Nat} {j x y:Nat},a.drop (j+1)=b.drop (j+1)→a[j]?=some x→b[j]?=some y→(∀ z∈a,z<65536)→(∀ z∈b,z<65536)→x≠y→(vV a<vV b↔x<y)
  | [],_,j,x,y,_,h,_,_,_,_=>by simp at h
  | _::_,[],j,x,y,_,_,h,_,_,_=>by simp at h
  | u::a,v::b,0,x,y,h,h1,h2,_,_,hne=>by
    obtain rfl:u=x:=by simpa using h1
    obtain rfl:v=y:=by simpa using h2
    have e:a=b:=by simpa using h
    rw [vV,vV,e]
    omega
  | u :: a,v::b,j+1,x,y,h,h1,h2,ha,hb,hne=>by
    have ih:=vV_cmp (a:=a) (b:=b) (j:=j) (x:=x) (y:=y) (by simpa using h) (by simpa using h1) (by simpa using h2) (fun z hz=>ha z (List.mem_cons_of_mem _ hz)) (fun z hz=>hb z (List.mem_cons_of_mem _ hz)) hne
    have hu:=ha u List.mem_cons_self
    have hv:=hb v List.mem_cons_self
    rw [vV,vV]
    have hne2:vV a≠vV b:=fun e=>by
      have ih2:=vV_cmp (a:=b) (b:=a) (j:=j) (x:=y) (y:=x) (by have h':a.drop (j+1)=b.drop (j+1):=(by simpa using h);exact h'.symm) (by simpa using h2) (by simpa using h1) (fun z hz=>hb z (List.mem_cons_of_mem _ hz)) (fun z hz=>ha z (List.mem_cons_of_mem _ hz)) (Ne.symm hne)
      omega
    omega
theorem numsD_get {l:List Nat} {k x:Nat} (h:l[k]?=some x):(l.map nD)[k]?=some (D.v (.int .u64 (x:Int))):=by
  rw [List.getElem?_map,h]
  rfl
theorem below_m {G:Nat→Option (List D)} (a b:List Nat) (n:Nat) (la:a.length=n) (lb:b.length=n) (hn:n≤1000000000) (ha: ∀ z∈a,z<65536) (hb: ∀ z∈b,z<65536):Spec Tryz.prog G 106 [.c (.sl n (a.map nD)),.c (.sl n (b.map nD))] (.one (.c (.v (.bool (decide (vV a<vV b)))))):=by
  refine spec_of Tryz.func106 rfl rfl rfl (by kernel_rfl) rfl fun K=>?_
  (repeat' (first|with_reducible (first|refine zA fun Kn hK=>?_|refine zB (by kernel_rfl) ?_|refine Nx.go ?_|go_step)|fail|with_reducible (first|refine zI ?_|refine zJ ?_|refine zK ?_ ?_|refine zL ?_ ?_|refine zR (by kernel_rfl) ?_)|simp (maxSteps:=9999999) (disch:=omega) only [wq]|(with_reducible refine zM (fun hb=>?_) (fun hb=>?_) <;> (try simp only [hb]))|(with_reducible refine And.intro (by first|omega|(simp;done)|(simp;omega)) ?_)|simp (maxSteps:=9999999) (implicitDefEqProofs:=false) only [go_sem,true_and]|fail))
  refine sound_loopR (fun x:{m:Nat // m≤n∧a.drop m=b.drop m}=>⟨[(0,vD (.sl n (a.map nD))),(1,vD (.sl n (b.map nD))),(5,vI ((x.1:Int)-1))],[]⟩) (fun x=>x.1) ⟨n,Nat.le_refl _,by rw [List.drop_eq_nil_of_le (by omega),List.drop_eq_nil_of_le (by omega)]⟩ [] (by (iterate 2 ((try simp (maxSteps:=9999999) (implicitDefEqProofs:=false) only [go_sem,true_and]);(try simp (maxSteps:=9999999) (disch:=omega) only [wq])));try simp) (fun ⟨m,hm,hd⟩=>?_)
  cases m with
  | zero =>
    have e1:((0:Nat):Int)-1= -1:=rfl
    have hb1:decide ((-1:Int)≥0)=false:=rfl
    obtain rfl:a=b:=by simpa using hd
    have hf:decide (vV a<vV a)=false:=decide_eq_false (by omega)
    rw [e1]
    (repeat' (first|with_reducible (first|refine zA fun Kn hK=>?_|refine zB (by kernel_rfl) ?_|refine Nx.go ?_|go_step)|fail|with_reducible (first|refine zI ?_|refine zJ ?_|refine zK ?_ ?_|refine zL ?_ ?_|refine zR (by kernel_rfl) ?_)|simp (maxSteps:=9999999) (disch:=omega) only [wq]|(with_reducible refine zM (fun hb=>?_) (fun hb=>?_) <;> (try simp only [hb]))|(with_reducible refine And.intro (by first|omega|(simp;done)|(simp;omega)) ?_)|simp (maxSteps:=9999999) (implicitDefEqProofs:=false) only [go_sem,hb1,hf]|fail))
  | succ j =>
    have e1:((j+1:Nat):Int)-1=(j:Int):=by omega
    have hb1:decide ((j:Int)≥0)=true:=decide_eq_true (by omega)
    obtain ⟨x,hx⟩: ∃ x,a[j]?=some x:=⟨_,List.getElem?_eq_getElem (by omega)⟩
    obtain ⟨y,hy⟩: ∃ y,b[j]?=some y:=⟨_,List.getElem?_eq_getElem (by omega)⟩
    have hgx:=numsD_get hx
    have hgy:=numsD_get hy
    rw [e1]
    by_cases hxy:x=y
    · subst hxy
      have hd1:((x:Int)==(x:Int))=true:=by simp
      have hdj:a.drop j=b.drop j:=by
        obtain ⟨h1,h2⟩:=List.getElem?_eq_some_iff.1 hx
        obtain ⟨h3,h4⟩:=List.getElem?_eq_some_iff.1 hy
        rw [List.drop_eq_getElem_cons h1,List.drop_eq_getElem_cons h3,h2,h4,hd]
      (repeat' (first|with_reducible (first|refine zA fun Kn hK=>?_|refine zB (by kernel_rfl) ?_|refine Nx.go ?_|go_step)|fail|with_reducible (first|refine zI ?_|refine zJ ?_|refine zK ?_ ?_|refine zL ?_ ?_|refine zR (by kernel_rfl) ?_)|simp (maxSteps:=9999999) (disch:=omega) only [wq]|(with_reducible refine zM (fun hb=>?_) (fun hb=>?_) <;> (try simp only [hb]))|(with_reducible refine And.intro (by first|omega|(simp;done)|(simp;omega)) ?_)|simp (maxSteps:=9999999) (implicitDefEqProofs:=false) only [go_sem,hb1,hgx,hgy,hd1,List.length_map,la,lb]|fail))
      refine ⟨[],⟨j,by omega,hdj⟩,?_⟩
      (iterate 2 ((try simp (maxSteps:=9999999) (implicitDefEqProofs:=false) only [go_sem,true_and]);(try simp (maxSteps:=9999999) (disch:=omega) only [wq])))
      try (simp only [ijq,true_and,and_true];first|done|omega|(split <;> omega)|(simp;done)|(simp;omega))
      try exact Nat.lt_succ_self j
    · have hd1:((x:Int)==(y:Int))=false:=by
        rw [beq_eq_false_iff_ne]
        omega
      have hc:=vV_cmp hd hx hy ha hb hxy
      have hf:decide (vV a<vV b)=decide ((x:Int)<(y:Int)):=by
        rw [decide_eq_decide,hc]
        omega
      (repeat' (first|with_reducible (first|refine zA fun Kn hK=>?_|refine zB (by kernel_rfl) ?_|refine Nx.go ?_|go_step)|fail|with_reducible (first|refine zI ?_|refine zJ ?_|refine zK ?_ ?_|refine zL ?_ ?_|refine zR (by kernel_rfl) ?_)|simp (maxSteps:=9999999) (disch:=omega) only [wq]|(with_reducible refine zM (fun hb=>?_) (fun hb=>?_) <;> (try simp only [hb]))|(with_reducible refine And.intro (by first|omega|(simp;done)|(simp;omega)) ?_)|simp (maxSteps:=9999999) (implicitDefEqProofs:=false) only [go_sem,hb1,hgx,hgy,hd1,hf,List.length_map,la,lb]|fail))
end Go.Proofs.YtdakeodebgggfaaGreatDoor
namespace Go.Proofs.YtdakeodebgggfaaGreatDoor
open Go.RowKit
def InL (a b:List Nat) (x:Nat × List Nat × Nat):Prop:=x.1≤a.length∧x.2.1.length=x.1∧x.2.2≤1∧(∀ y∈x.2.1,y<65536)∧vV x.2.1+vV (b.take x.1)=vV (a.take x.1)+x.2.2*65536^x.1
theorem InL.step {a b r:List Nat} {k bo t q x y:Nat} (h:InL a b (k,r,bo)) (hk:k<a.length) (lab:a.length=b.length) (hx:a.getD k 0=x) (hy:b.getD k 0=y) (hxl:x<65536) (hyl:y<65536) (ht:t+y+bo=x+65536) (hq:q+t/65536=1):InL a b (k+1,r++[t%65536],q):=by
  obtain ⟨h1,h2,h3,h4,h5⟩:=h
  dsimp only at h1 h2 h3 h4 h5
  refine ⟨by dsimp only;omega,by dsimp only;rw [List.length_append,h2];rfl,by dsimp only;omega,fun z hz=>?_,?_⟩
  · rcases List.mem_append.1 hz with h|h
    · exact h4 z h
    · rw [List.mem_singleton.1 h];exact Nat.mod_lt _ (by omega)
  · dsimp only
    rw [vV_app,vV_take (b:=a) hk,vV_take (b:=b) (by omega),hx,hy,h2,vV,vV,Nat.pow_succ,Nat.mul_zero,Nat.add_zero]
    generalize vV r=v at *
    generalize vV (a.take k)=va at *
    generalize vV (b.take k)=vb at *
    generalize 65536^k=P at *
    have hd:=Nat.div_add_mod t 65536
    generalize t%65536=d at *
    have e:d+y+bo=x+65536*q:=by omega
    have e2:P*d+P*y+P*bo=P*x+P*65536*q:=by rw [← Nat.mul_add,← Nat.mul_add,e,Nat.mul_add,Nat.mul_assoc]
    have e3:=Nat.mul_comm P bo
    have e4:=Nat.mul_comm (P*65536) q
    omega
theorem InL.done {a b r:List Nat} {bo:Nat} (h:InL a b (a.length,r,bo)) (lab:a.length=b.length) (hle:vV b≤vV a) (ha: ∀ z∈a,z<65536):r=dg a.length (vV a-vV b):=by
  obtain ⟨h1,h2,h3,h4,h5⟩:=h
  dsimp only at h1 h2 h3 h4 h5
  have hv:=vV_lt h4
  have hva:=vV_lt ha
  rw [h2] at hv
  rw [List.take_length,lab,List.take_length] at h5
  have hd:=dg_vV r h4
  rw [h2] at hd
  have hbc:bo=0∨bo=1:=by omega
  rw [← lab] at h5
  generalize 65536^a.length=P at *
  have e:vV r=vV a-vV b:=by
    rcases hbc with rfl|rfl <;> omega
  rw [e] at hd
  exact hd.symm
theorem off_m {G:Nat→Option (List D)} (a b:List Nat) (n:Nat) (la:a.length=n) (lb:b.length=n) (hn:n≤1000000) (ha: ∀ z∈a,z<65536) (hb: ∀ z∈b,z<65536) (hle:vV b≤vV a):Spec Tryz.prog G 107 [.c (.sl n (a.map nD)),.c (.sl n (b.map nD))] (.one (.c (.sl n ((dg n (vV a-vV b)).map nD)))):=by
  have hz0:InL a b (0,[],0):=⟨Nat.zero_le _,rfl,Nat.zero_le _,by simp,by simp [vV]⟩
  refine spec_of Tryz.func107 rfl rfl rfl (by kernel_rfl) rfl fun K=>?_
  (repeat' (first|with_reducible (first|refine zA fun Kn hK=>?_|refine zB (by kernel_rfl) ?_|refine Nx.go ?_|go_step)|fail|with_reducible (first|refine zI ?_|refine zJ ?_|refine zK ?_ ?_|refine zL ?_ ?_|refine zR (by kernel_rfl) ?_)|simp (maxSteps:=9999999) (disch:=omega) only [wq]|(with_reducible refine zM (fun hb=>?_) (fun hb=>?_) <;> (try simp only [hb]))|(with_reducible refine And.intro (by first|omega|(simp;done)|(simp;omega)) ?_)|simp (maxSteps:=9999999) (implicitDefEqProofs:=false) only [go_sem,true_and]|fail))
  refine sound_grow 5 9 1 0 0 (by rfl) (by rfl) (by rfl) (by rfl) ?_
  refine sound_trim 9 0 (by rfl) ?_
  refine sound_loopR (fun x:{p:Nat × List Nat × Nat // InL a b p}=>⟨[(0,vD (.sl n (a.map nD))),(1,vD (.sl n (b.map nD))),(5,vR 1000 1 x.1.1),(6,.a (.c (.d (nD x.1.2.2)))),(11,vI n),(12,vI x.1.1)],[(1000,some ⟨59,(x.1.2.1.map nD).map C.d,false,false⟩)]⟩) (fun x=>n-x.1.1) ⟨(0,[],0),hz0⟩ [(1000,9)] (by (iterate 2 ((try simp (maxSteps:=9999999) (implicitDefEqProofs:=false) only [go_sem,AObj.trim,List.take_zero]);(try simp (maxSteps:=9999999) (disch:=omega) only [wq])));try simp [nD]) (fun ⟨⟨k,r,bo⟩,hI⟩=>?_)
  obtain ⟨hk,hrl,hbo,hr4,hr5⟩:=id hI
  dsimp only at hk hrl hbo hr4 hr5
  by_cases hlt:k<n
  · have hb1:decide ((k:Int)<(n:Int))=true:=decide_eq_true (by omega)
    obtain ⟨x,hx⟩: ∃ x,a[k]?=some x:=⟨_,List.getElem?_eq_getElem (by omega)⟩
    obtain ⟨y,hy⟩: ∃ y,b[k]?=some y:=⟨_,List.getElem?_eq_getElem (by omega)⟩
    have hgx:=numsD_get hx
    have hgy:=numsD_get hy
    have hxl:=ha x (List.mem_of_getElem? hx)
    have hyl:=hb y (List.mem_of_getElem? hy)
    obtain ⟨t,ht⟩: ∃ t,t+y+bo=x+65536:=⟨x+65536-y-bo,by omega⟩
    obtain ⟨q,hq⟩: ∃ q,q+t/65536=1:=⟨1-t/65536,by omega⟩
    have hst:=InL.step hI (by omega) (by omega) (by rw [List.getD_eq_getElem?_getD,hx];rfl) (by rw [List.getD_eq_getElem?_getD,hy];rfl) hxl hyl ht hq
    have hT:(((65536+x)%18446744073709551616+(18446744073709551616-y%18446744073709551616))%18446744073709551616+(18446744073709551616-bo%18446744073709551616))%18446744073709551616=t:=by omega
    have hq1:t/65536%18446744073709551616=t/65536:=Nat.mod_eq_of_lt (by omega)
    have hm1:t%65536%18446744073709551616=t%65536:=Nat.mod_eq_of_lt (by omega)
    have hq3:(1+(18446744073709551616-t/65536))%18446744073709551616=q:=by omega
    have hc:((r++[t%65536]).map nD).map C.d=(r.map nD).map C.d++[C.d (D.v (.int .u64 ((t%65536:Nat):Int)))]:=by simp [nD]
    (repeat' (first|with_reducible (first|refine zA fun Kn hK=>?_|refine zB (by kernel_rfl) ?_|refine Nx.go ?_|go_step)|fail|with_reducible (first|refine zI ?_|refine zJ ?_|refine zK ?_ ?_|refine zL ?_ ?_|refine zR (by kernel_rfl) ?_)|simp (maxSteps:=9999999) (disch:=omega) only [wq]|(with_reducible refine zM (fun hb=>?_) (fun hb=>?_) <;> (try simp only [hb]))|(with_reducible refine And.intro (by first|omega|(simp;done)|(simp;omega)) ?_)|simp (maxSteps:=9999999) (implicitDefEqProofs:=false) only [go_sem,hb1,hgx,hgy,hT,hq1,hm1,hq3,wrap_nat,List.length_map,la,lb,hrl]|fail))
    refine ⟨[(1000,34)],⟨(k+1,r++[t%65536],q),hst⟩,?_⟩
    (iterate 2 ((try simp (maxSteps:=9999999) (implicitDefEqProofs:=false) only [go_sem,hc]);(try simp (maxSteps:=9999999) (disch:=omega) only [wq])))
    try (simp only [ijq,true_and,and_true];first|done|omega|(split <;> omega)|(simp;done)|(simp;omega))
  have hb1:decide ((k:Int)<(n:Int))=false:=decide_eq_false (by omega)
  obtain rfl:k=n:=by omega
  subst la
  have hr:=InL.done hI lb.symm hle ha
  subst hr
  have hdl:=dg_len a.length (vV a-vV b)
  generalize dg a.length (vV a-vV b)=R at *
  obtain ⟨r1,r2,r3⟩:=cd_facts (l:=R.map nD) (n:=a.length) (by rw [List.length_map];exact hdl)
  (repeat' (first|with_reducible (first|refine zA fun Kn hK=>?_|refine zB (by kernel_rfl) ?_|refine Nx.go ?_|go_step)|fail|with_reducible (first|refine zI ?_|refine zJ ?_|refine zK ?_ ?_|refine zL ?_ ?_|refine zR (by kernel_rfl) ?_)|simp (maxSteps:=9999999) (disch:=omega) only [wq]|(with_reducible refine zM (fun hb=>?_) (fun hb=>?_) <;> (try simp only [hb]))|(with_reducible refine And.intro (by first|omega|(simp;done)|(simp;omega)) ?_)|simp (maxSteps:=9999999) (implicitDefEqProofs:=false) only [go_sem,hb1,r1,r2,r3,List.length_map,hdl,List.take_length]|fail))
end Go.Proofs.YtdakeodebgggfaaGreatDoor
namespace Go.Proofs.YtdakeodebgggfaaGreatDoor
open Go.RowKit
def rawO:List UInt8→List Nat
  | x::y::l=>(x.toNat+256*y.toNat)::rawO l
  | [x]=>[x.toNat]
  | []=>[]
theorem rawO_val: ∀ (l:List UInt8),vV (rawO l)=leV l∧(∀ z∈rawO l,z<65536)∧2*(rawO l).length≤l.length+1∧l.length≤2*(rawO l).length
  | []=>⟨rfl,by simp [rawO],by simp [rawO],by simp [rawO]⟩
  | [x]=>by
    have:=x.toNat_lt
    refine ⟨rfl,fun z hz=>?_,by simp [rawO],by simp [rawO]⟩
    rw [List.mem_singleton.1 hz]
    omega
  | x::y::l=>by
    obtain ⟨h1,h2,h3,h4⟩:=rawO_val l
    have hx:=x.toNat_lt
    have hy:=y.toNat_lt
    refine ⟨by rw [rawO,vV,h1,leV,leV];omega,fun z hz=>?_,by rw [rawO,List.length_cons,List.length_cons,List.length_cons];omega,by rw [rawO,List.length_cons,List.length_cons,List.length_cons];omega⟩
    rw [rawO,List.mem_cons] at hz
    rcases hz with h|h
    · rw [h];omega
    · exact h2 z h
theorem rawO_two: ∀ {k:Nat} {l:List UInt8} {x y:UInt8},l[2*k]?=some x→l[2*k+1]?=some y→(rawO l)[k]?=some (x.toNat+256*y.toNat)
  | 0,u::v::l,x,y,h1,h2=>by
    obtain rfl:u=x:=by simpa using h1
    obtain rfl:v=y:=by simpa using h2
    rfl
  | 0,[u],x,y,h1,h2=>by simp at h2
  | 0,[],x,y,h1,h2=>by simp at h1
  | k+1,u::v::l,x,y,h1,h2=>by
    rw [rawO,List.getElem?_cons_succ]
    exact rawO_two (by rw [show 2*(k+1)=2*k+1+1 by omega] at h1;simpa using h1) (by rw [show 2*(k+1)+1=2*k+1+1+1 by omega] at h2;simpa using h2)
  | k+1,[u],x,y,h1,h2=>by
    rw [show 2*(k+1)+1=2*k+2+1 by omega] at h2
    simp at h2
  | k+1,[],x,y,h1,h2=>by simp at h1
theorem rawO_one: ∀ {k:Nat} {l:List UInt8} {x:UInt8},l[2*k]?=some x→l.length=2*k+1→(rawO l)[k]?=some x.toNat
  | 0,[u],x,h1,h2=>by
    obtain rfl:u=x:=by simpa using h1
    rfl
  | 0,[],x,h1,h2=>by simp at h1
  | 0,u::v::l,x,h1,h2=>by simp at h2
  | k+1,u::v::l,x,h1,h2=>by
    rw [rawO,List.getElem?_cons_succ]
    exact rawO_one (by rw [show 2*(k+1)=2*k+1+1 by omega] at h1;simpa using h1) (by simp at h2;omega)
  | k+1,[u],x,h1,h2=>by simp at h2
  | k+1,[],x,h1,h2=>by simp at h1
theorem digits_m {G:Nat→Option (List D)} (b:List UInt8) (hn:b.length≤1000000):Spec Tryz.prog G 71 [.c (bytesD b)] (.one (.c (wordsD (rawO b)))):=by
  obtain ⟨hv,hz,hl1,hl2⟩:=rawO_val b
  have htwo:=fun k x y h1 h2=>rawO_two (k:=k) (l:=b) (x:=x) (y:=y) h1 h2
  have hone:=fun k x h1 h2=>rawO_one (k:=k) (l:=b) (x:=x) h1 h2
  clear hv hz
  generalize rawO b=R at *
  refine spec_of Tryz.func71 rfl rfl rfl (by kernel_rfl) rfl fun K=>?_
  (repeat' (first|with_reducible (first|refine zA fun Kn hK=>?_|refine zB (by kernel_rfl) ?_|refine Nx.go ?_|go_step)|fail|with_reducible (first|refine zI ?_|refine zJ ?_|refine zK ?_ ?_|refine zL ?_ ?_|refine zR (by kernel_rfl) ?_)|simp (maxSteps:=9999999) (disch:=omega) only [wq]|(with_reducible refine zM (fun hb=>?_) (fun hb=>?_) <;> (try simp only [hb]))|(with_reducible refine And.intro (by first|omega|(simp;done)|(simp;omega)) ?_)|simp (maxSteps:=9999999) (implicitDefEqProofs:=false) only [go_sem,true_and]|fail))
  refine sound_grow 3 6 1 0 0 (by rfl) (by rfl) (by rfl) (by rfl) ?_
  refine sound_trim 6 0 (by rfl) ?_
  refine sound_loopR (fun x:{k:Nat // k≤R.length}=>⟨[(0,vD (bytesD b)),(3,vR 1000 1 x.1),(4,vI (2*(x.1:Int)))],[(1000,some ⟨59,((R.take x.1).map nD).map C.d,false,false⟩)]⟩) (fun x=>R.length-x.1) ⟨0,Nat.zero_le _⟩ [(1000,6)] (by (iterate 2 ((try simp (maxSteps:=9999999) (implicitDefEqProofs:=false) only [go_sem,AObj.trim,List.take_zero]);(try simp (maxSteps:=9999999) (disch:=omega) only [wq])));try simp) (fun ⟨k,hk⟩=>?_)
  have hrl:(R.take k).length=k:=by rw [List.length_take];omega
  by_cases hlt:k<R.length
  · have hb1:decide (2*(k:Int)<(b.length:Int))=true:=decide_eq_true (by omega)
    obtain ⟨x,hx⟩: ∃ x,b[2*k]?=some x:=⟨_,List.getElem?_eq_getElem (by omega)⟩
    have hgx:=flatB hx
    have hx8:x.toNat<256:=x.toNat_lt
    have h2n:(2*(k:Int)).toNat=2*k:=by omega
    have h2n1:(2*(k:Int)+1).toNat=2*k+1:=by omega
    have hm:x.toNat%18446744073709551616=x.toNat:=Nat.mod_eq_of_lt (by omega)
    have h2k:(2:Int)*(k:Int)+2=2*((k+1:Nat):Int):=by omega
    by_cases h2:2*k+1<b.length
    · have hb2:decide (2*(k:Int)+1<(b.length:Int))=true:=decide_eq_true (by omega)
      obtain ⟨y,hy⟩: ∃ y,b[2*k+1]?=some y:=⟨_,List.getElem?_eq_getElem (by omega)⟩
      have hgy:=flatB hy
      have hy8:y.toNat<256:=y.toNat_lt
      have hR:=htwo k x y hx hy
      have hT:(x.toNat+256*y.toNat%18446744073709551616)%18446744073709551616=x.toNat+256*y.toNat:=by omega
      have hmy:y.toNat%18446744073709551616=y.toNat:=Nat.mod_eq_of_lt (by omega)
      have hc:((R.take (k+1)).map nD).map C.d=((R.take k).map nD).map C.d++[C.d (D.v (.int .u64 ((x.toNat+256*y.toNat:Nat):Int)))]:=by
        rw [List.take_add_one,hR]
        simp [nD]
      (repeat' (first|with_reducible (first|refine zA fun Kn hK=>?_|refine zB (by kernel_rfl) ?_|refine Nx.go ?_|go_step)|fail|with_reducible (first|refine zI ?_|refine zJ ?_|refine zK ?_ ?_|refine zL ?_ ?_|refine zR (by kernel_rfl) ?_)|simp (maxSteps:=9999999) (disch:=omega) only [wq]|(with_reducible refine zM (fun hb=>?_) (fun hb=>?_) <;> (try simp only [hb]))|(with_reducible refine And.intro (by first|omega|(simp;done)|(simp;omega)) ?_)|simp (maxSteps:=9999999) (implicitDefEqProofs:=false) only [go_sem,hb1,hb2,hgx,hgy,h2n,h2n1,hm,hmy,hT,wrap_nat,List.length_map,hrl]|fail))
      refine ⟨[(1000,35)],⟨k+1,hlt⟩,?_⟩
      (iterate 2 ((try simp (maxSteps:=9999999) (implicitDefEqProofs:=false) only [go_sem,hc,h2k]);(try simp (maxSteps:=9999999) (disch:=omega) only [wq])))
      try (simp only [ijq,true_and,and_true];first|done|omega|(split <;> omega)|(simp;done)|(simp;omega))
      try omega
    · have hb2:decide (2*(k:Int)+1<(b.length:Int))=false:=decide_eq_false (by omega)
      have hR:=hone k x hx (by omega)
      have hc:((R.take (k+1)).map nD).map C.d=((R.take k).map nD).map C.d++[C.d (D.v (.int .u64 ((x.toNat:Nat):Int)))]:=by
        rw [List.take_add_one,hR]
        simp [nD]
      (repeat' (first|with_reducible (first|refine zA fun Kn hK=>?_|refine zB (by kernel_rfl) ?_|refine Nx.go ?_|go_step)|fail|with_reducible (first|refine zI ?_|refine zJ ?_|refine zK ?_ ?_|refine zL ?_ ?_|refine zR (by kernel_rfl) ?_)|simp (maxSteps:=9999999) (disch:=omega) only [wq]|(with_reducible refine zM (fun hb=>?_) (fun hb=>?_) <;> (try simp only [hb]))|(with_reducible refine And.intro (by first|omega|(simp;done)|(simp;omega)) ?_)|simp (maxSteps:=9999999) (implicitDefEqProofs:=false) only [go_sem,hb1,hb2,hgx,h2n,h2n1,hm,wrap_nat,List.length_map,hrl]|fail))
      refine ⟨[(1000,35)],⟨k+1,hlt⟩,?_⟩
      (iterate 2 ((try simp (maxSteps:=9999999) (implicitDefEqProofs:=false) only [go_sem,hc,h2k]);(try simp (maxSteps:=9999999) (disch:=omega) only [wq])))
      try (simp only [ijq,true_and,and_true];first|done|omega|(split <;> omega)|(simp;done)|(simp;omega))
      try omega
  have hb1:decide (2*(k:Int)<(b.length:Int))=false:=decide_eq_false (by omega)
  obtain rfl:k=R.length:=by omega
  rw [List.take_length] at hrl
  obtain ⟨r1,r2,r3⟩:=cd_facts (l:=R.map nD) (n:=R.length) (by rw [List.length_map])
  (repeat' (first|with_reducible (first|refine zA fun Kn hK=>?_|refine zB (by kernel_rfl) ?_|refine Nx.go ?_|go_step)|fail|with_reducible (first|refine zI ?_|refine zJ ?_|refine zK ?_ ?_|refine zL ?_ ?_|refine zR (by kernel_rfl) ?_)|simp (maxSteps:=9999999) (disch:=omega) only [wq]|(with_reducible refine zM (fun hb=>?_) (fun hb=>?_) <;> (try simp only [hb]))|(with_reducible refine And.intro (by first|omega|(simp;done)|(simp;omega)) ?_)|simp (maxSteps:=9999999) (implicitDefEqProofs:=false) only [go_sem,hb1,r1,r2,r3,wordsD,List.length_map,List.take_length]|fail))
end Go.Proofs.YtdakeodebgggfaaGreatDoor
namespace Go.Proofs.YtdakeodebgggfaaGreatDoor
open Go.RowKit
theorem lorder_o {G:Nat→Option (List D)}:Spec Tryz.prog G 105 [] (.obj 1 (.a (.c (.row 1 1 0 16 (.ex 16)))) ⟨59,(lL.map nD).map C.d,true,false⟩):=by
  obtain ⟨c1,c2,c3⟩:=cd_facts (l:=lL.map nD) (n:=16) rfl
  have hl:lL.length=16:=rfl
  refine specO_go Tryz.func105 rfl rfl rfl (by kernel_rfl) (by (iterate 2 ((try simp (maxSteps:=9999999) (implicitDefEqProofs:=false) only [go_sem,true_and]);(try simp (maxSteps:=9999999) (disch:=omega) only [wq])))) (by (iterate 2 ((try simp (maxSteps:=9999999) (implicitDefEqProofs:=false) only [go_sem,List.all_cons,List.all_nil]);(try simp (maxSteps:=9999999) (disch:=omega) only [wq])))) fun K m=>?_
  (repeat' (first|with_reducible (first|refine zA fun Kn hK=>?_|refine zB (by kernel_rfl) ?_|refine Nx.go ?_|go_step)|refine raw_t (by rfl) (by rfl) (by rfl)|with_reducible (first|refine zI ?_|refine zJ ?_|refine zK ?_ ?_|refine zL ?_ ?_|refine zR (by kernel_rfl) ?_)|simp (maxSteps:=9999999) (disch:=omega) only [wq]|(with_reducible refine zM (fun hb=>?_) (fun hb=>?_) <;> (try simp only [hb]))|(with_reducible refine And.intro (by first|omega|(simp;done)|(simp;omega)) ?_)|simp (maxSteps:=9999999) (implicitDefEqProofs:=false) only [go_sem,hl,c1,c2,c3,List.length_map,List.append_nil]|fail))
def InQ (r:List Nat) (c0:Nat) (x:Nat × List Nat × Nat):Prop:=x.1≤17∧x.2.1.length=x.1∧x.2.2≤1∧(∀ y∈x.2.1,y<65536)∧vV x.2.1+x.2.2*65536^x.1=2*vV (r.take x.1)+c0
theorem InQ.zero {r:List Nat} {c:Nat} (h:c≤1):InQ r c (0,[],c):=⟨Nat.zero_le _,rfl,h,by simp,by simp [vV]⟩
theorem InQ.step {r s:List Nat} {k c0 c x t:Nat} (h:InQ r c0 (k,s,c)) (hk:k<17) (hr:r.length=17) (hx:r[k]?=some x) (hxl:x<65536) (ht:t=2*x+c):InQ r c0 (k+1,s++[t%65536],t/65536):=by
  obtain ⟨h1,h2,h3,h4,h5⟩:=h
  dsimp only at h1 h2 h3 h4 h5
  refine ⟨by dsimp only;omega,by dsimp only;rw [List.length_append,h2];rfl,by dsimp only;omega,fun z hz=>?_,?_⟩
  · rcases List.mem_append.1 hz with h|h
    · exact h4 z h
    · rw [List.mem_singleton.1 h];exact Nat.mod_lt _ (by omega)
  · dsimp only
    have hg:r.getD k 0=x:=by rw [List.getD_eq_getElem?_getD,hx];rfl
    rw [vV_app,vV_take (b:=r) (by omega),hg,h2,vV,vV,Nat.pow_succ,Nat.mul_zero,Nat.add_zero]
    generalize vV s=v at *
    generalize vV (r.take k)=vr at *
    generalize 65536^k=P at *
    have hd:=Nat.div_add_mod t 65536
    generalize t%65536=d at *
    generalize t/65536=q at *
    have e2:P*65536*q+P*d=P*t:=by rw [← hd,Nat.mul_add,Nat.mul_assoc]
    have e3:P*t=2*(P*x)+P*c:=by rw [ht,Nat.mul_add,Nat.mul_left_comm]
    have e4:=Nat.mul_comm (P*65536) q
    have e5:=Nat.mul_comm P c
    omega
theorem InQ.done {r s:List Nat} {c0 c:Nat} (h:InQ r c0 (17,s,c)) (hr:r.length=17) (hv:2*vV r+c0<65536^17):s=dg 17 (2*vV r+c0):=by
  obtain ⟨h1,h2,h3,h4,h5⟩:=h
  dsimp only at h1 h2 h3 h4 h5
  rw [List.take_of_length_le (by omega)] at h5
  have hl:=vV_lt h4
  rw [h2] at hl
  have hd:=dg_vV s h4
  rw [h2] at hd
  have hc:c=0∨c=1:=by omega
  have e:vV s=2*vV r+c0:=by
    generalize 65536^17=P at *
    rcases hc with rfl|rfl <;> omega
  rw [e] at hd
  exact hd.symm
def l17:List Nat:=lL++[0]
theorem l17_val:vV l17=lQ:=by decide +kernel
theorem l17_len:l17.length=17:=rfl
theorem l17_lt: ∀ z∈l17,z<65536:=by decide
def restQ (V s:Nat):Nat:=V/2^s%lQ
theorem restQ_lt (V s:Nat):restQ V s<lQ:=Nat.mod_lt _ (by decide +kernel)
theorem restQ_step (V s:Nat):restQ V s=(2*restQ V (s+1)+V/2^s%2)%lQ:=by
  unfold restQ
  rw [Nat.pow_succ,← Nat.div_div_eq_div_mul]
  generalize V/2^s=a
  have h:=Nat.div_add_mod a 2
  generalize a%2=b at *
  rw [Nat.add_mod,Nat.mul_mod,Nat.mod_mod,← Nat.mul_mod,← Nat.add_mod]
  congr 1
  omega
theorem restQ_cut {V s:Nat}:restQ V s=if 2*restQ V (s+1)+V/2^s%2<lQ then 2*restQ V (s+1)+V/2^s%2 else 2*restQ V (s+1)+V/2^s%2-lQ:=by
  rw [restQ_step]
  have h1:=restQ_lt V (s+1)
  have h2:V/2^s%2<2:=Nat.mod_lt _ (by omega)
  generalize V/2^s%2=b at *
  generalize restQ V (s+1)=r at *
  rw [lQ_lit] at *
  split <;> omega
theorem digit_bit {V j f d:Nat} (hd:d=V/65536^j%65536) (hf:f<16):d/2^f%2=V/2^(16*j+f)%2:=by
  rw [hd,show (65536:Nat)^j=2^(16*j) by rw [Nat.pow_mul],show (65536:Nat)=2^f*2^(16-f) by rw [← Nat.pow_add,show f+(16-f)=16 by omega],Nat.mod_mul_right_div_self,Nat.div_div_eq_div_mul,← Nat.pow_add]
  obtain ⟨e,he⟩: ∃ e,16-f=e+1:=⟨15-f,by omega⟩
  rw [he,Nat.pow_succ,Nat.mul_comm (2^e),Nat.mod_mul_right_mod]
end Go.Proofs.YtdakeodebgggfaaGreatDoor
namespace Go.Proofs.YtdakeodebgggfaaGreatDoor
open Go.RowKit
theorem le_twoN (v n:Nat) {k:Nat} (hk:k<16) (hn:k<n):(leB v).take (2*(k+1))=(leB v).take (2*k)++[UInt8.ofNat ((dg n v).getD k 0%256),UInt8.ofNat ((dg n v).getD k 0/256)]:=by
  have e1:(65536:Nat)^k=2^(8*(2*k)):=by rw [show (65536:Nat)=2^16 from rfl,← Nat.pow_mul];congr 1;omega
  have e2:v/2^(8*(2*k+1))=v/65536^k/256:=by rw [e1,Nat.div_div_eq_div_mul,show (256:Nat)=2^8 from rfl,← Nat.pow_add];rfl
  rw [show 2*(k+1)=2*k+1+1 by omega,List.take_add_one,List.take_add_one,leB_get (by omega),leB_get (by omega),dg_get hn,e2,← e1]
  rw [List.append_assoc]
  congr 2
  generalize v/65536^k=z
  rw [show z%65536%256=z%256 by omega,show z%65536/256=z/256%256 by omega]
  rfl
theorem refrest_o {G:Nat→Option (List D)} (d:List Nat) (n:Nat) (hn:d.length=n) (hn2:n≤1000000) (hd: ∀ z∈d,z<65536):Spec Tryz.prog G 72 [.c (.sl n (d.map nD))] (.obj 1000 (.a (.c (.row 1000 1 0 32 .grow))) ⟨5,((leB (vV d%lQ)).map bD).map C.d,false,false⟩):=by
  have ho:=lorder_o (G:=G)
  have hll:lL.length=16:=rfl
  have hl17:((lL.map nD).map C.d)++[C.d (D.v (.int .u64 0))]=(l17.map nD).map C.d:=by simp [l17,nD]
  have h17l:=l17_len
  have hz17:(List.replicate 17 [C.d (D.v (.int .u64 0))]).flatten=((dg 17 0).map nD).map C.d:=rfl
  have hdl17:=dg_len 17
  have hq0:restQ (vV d) (16*n)=0:=by
    have h:=vV_lt hd
    rw [hn,show (65536:Nat)=2^16 from rfl,← Nat.pow_mul] at h
    rw [restQ,Nat.div_eq_of_lt h,Nat.zero_mod]
  obtain ⟨p1,p2,p3⟩:=cd_facts (l:=l17.map nD) (n:=17) rfl
  have hcd:=fun v=>cd_facts (l:=(dg 17 v).map nD) (n:=17) (by rw [List.length_map];exact hdl17 v)
  have q1:=fun v=>(hcd v).1
  have q2:=fun v=>(hcd v).2.1
  have q3:=fun v=>(hcd v).2.2
  have hdig: ∀ j x,d[j]?=some x→x=vV d/65536^j%65536:=fun j x h=>by
    have h1:=dg_vV d hd
    have hj:j<d.length:=(List.getElem?_eq_some_iff.1 h).1
    have h2:=dg_get (n:=d.length) (v:=vV d) hj
    rw [h1,List.getD_eq_getElem?_getD,h] at h2
    exact h2
  generalize hV:vV d=V at *
  refine specO_go Tryz.func72 rfl rfl rfl (by kernel_rfl) (by (iterate 2 ((try simp (maxSteps:=9999999) (implicitDefEqProofs:=false) only [go_sem,true_and]);(try simp (maxSteps:=9999999) (disch:=omega) only [wq])))) (by (iterate 2 ((try simp (maxSteps:=9999999) (implicitDefEqProofs:=false) only [go_sem,List.all_cons,List.all_nil]);(try simp (maxSteps:=9999999) (disch:=omega) only [wq])))) fun K m=>?_
  (repeat' (first|with_reducible (first|refine zA fun Kn hK=>?_|refine zB (by kernel_rfl) ?_|refine Nx.go ?_|go_step)|(refine ⟨_,ho,?_⟩)|with_reducible (first|refine zI ?_|refine zJ ?_|refine zK ?_ ?_|refine zL ?_ ?_|refine zR (by kernel_rfl) ?_)|simp (maxSteps:=9999999) (disch:=omega) only [wq]|(with_reducible refine zM (fun hb=>?_) (fun hb=>?_) <;> (try simp only [hb]))|(with_reducible refine And.intro (by first|omega|(simp;done)|(simp;omega)) ?_)|simp (maxSteps:=9999999) (implicitDefEqProofs:=false) only [go_sem,hll,hl17,hz17,List.length_map,List.append_nil]|fail))
  refine sound_data 3 ?_
  (iterate 2 ((try simp (maxSteps:=9999999) (implicitDefEqProofs:=false) only [go_sem,true_and,p1,p2,p3,h17l,List.length_map]);(try simp (maxSteps:=9999999) (disch:=omega) only [wq])))
  refine sound_data 4 ?_
  (iterate 2 ((try simp (maxSteps:=9999999) (implicitDefEqProofs:=false) only [go_sem,true_and,q1,q2,q3,hdl17,List.length_map]);(try simp (maxSteps:=9999999) (disch:=omega) only [wq])))
  refine sound_loopR (fun x:{m:Nat // m≤n}=>⟨[(0,vD (.sl n (d.map nD))),(3,vD (.sl 17 (l17.map nD))),(4,vD (.sl 17 ((dg 17 (restQ V (16*x.1))).map nD))),(5,vI ((x.1:Int)-1))],[]⟩) (fun x=>x.1) ⟨n,Nat.le_refl _⟩ [] (by (iterate 2 ((try simp (maxSteps:=9999999) (implicitDefEqProofs:=false) only [go_sem,hq0]);(try simp (maxSteps:=9999999) (disch:=omega) only [wq])));try simp) (fun ⟨m,hm⟩=>?_)
  cases m with
  | zero =>
    have e1:((0:Nat):Int)-1= -1:=rfl
    have hb1:decide ((-1:Int)≥0)=false:=rfl
    rw [e1]
    (repeat' (first|with_reducible (first|refine zA fun Kn hK=>?_|refine zB (by kernel_rfl) ?_|refine Nx.go ?_|go_step)|fail|with_reducible (first|refine zI ?_|refine zJ ?_|refine zK ?_ ?_|refine zL ?_ ?_|refine zR (by kernel_rfl) ?_)|simp (maxSteps:=9999999) (disch:=omega) only [wq]|(with_reducible refine zM (fun hb=>?_) (fun hb=>?_) <;> (try simp only [hb]))|(with_reducible refine And.intro (by first|omega|(simp;done)|(simp;omega)) ?_)|simp (maxSteps:=9999999) (implicitDefEqProofs:=false) only [go_sem,hb1]|fail))
    have hr0:restQ V (16*0)=V%lQ:=by rw [restQ,Nat.mul_zero,Nat.pow_zero,Nat.div_one]
    have hst:=fun k (h:k<16)=>le_twoN (V%lQ) 17 h (by omega)
    have hl32:=leB_len (V%lQ)
    rw [hr0]
    generalize V%lQ=v at *
    generalize leB v=B at *
    refine sound_grow 11 64 1 0 0 (by rfl) (by rfl) (by rfl) (by rfl) ?_
    refine sound_trim 64 0 (by rfl) ?_
    refine sound_loopR (fun x:{k:Nat // k≤16}=>⟨[(4,vD (.sl 17 ((dg 17 v).map nD))),(11,vR 1000 1 (2*x.1)),(12,vI x.1)],[(1000,some ⟨5,((B.take (2*x.1)).map bD).map C.d,false,false⟩)]⟩) (fun x=>16-x.1) ⟨0,Nat.zero_le _⟩ [(1000,64)] (by (iterate 2 ((try simp (maxSteps:=9999999) (implicitDefEqProofs:=false) only [go_sem,AObj.trim,List.take_zero]);(try simp (maxSteps:=9999999) (disch:=omega) only [wq])));try simp) (fun ⟨k,hk⟩=>?_)
    have hBl:(B.take (2*k)).length=2*k:=by rw [List.length_take];omega
    by_cases hlk:k<16
    · have hb2:decide ((k:Int)<16)=true:=decide_eq_true (by omega)
      have hg:=numsD_get (get_of (l:=dg 17 v) (k:=k) (by rw [hdl17];omega))
      have hs:=hst k hlk
      have hdlt:(dg 17 v).getD k 0<65536:=by rw [dg_get (by omega)];exact Nat.mod_lt _ (by omega)
      have hdl:=hdl17 v
      generalize (dg 17 v).getD k 0=z at *
      have hc:((B.take (2*(k+1))).map bD).map C.d=((B.take (2*k)).map bD).map C.d++[C.d (D.v (.int .u8 ((z%256:Nat):Int))),C.d (D.v (.int .u8 ((z/256:Nat):Int)))]:=by
        rw [hs,List.map_append,List.map_append]
        simp only [List.map_cons,List.map_nil,bD]
        rw [UInt8.toNat_ofNat_of_lt' (by simp only [UInt8.size];omega),UInt8.toNat_ofNat_of_lt' (by simp only [UInt8.size];omega)]
      have h1:z%256%18446744073709551616=z%256:=Nat.mod_eq_of_lt (by omega)
      have h2:z/256%18446744073709551616=z/256:=Nat.mod_eq_of_lt (by omega)
      have h3:z/256%256=z/256:=Nat.mod_eq_of_lt (by omega)
      (repeat' (first|with_reducible (first|refine zA fun Kn hK=>?_|refine zB (by kernel_rfl) ?_|refine Nx.go ?_|go_step)|fail|with_reducible (first|refine zI ?_|refine zJ ?_|refine zK ?_ ?_|refine zL ?_ ?_|refine zR (by kernel_rfl) ?_)|simp (maxSteps:=9999999) (disch:=omega) only [wq]|(with_reducible refine zM (fun hb=>?_) (fun hb=>?_) <;> (try simp only [hb]))|(with_reducible refine And.intro (by first|omega|(simp;done)|(simp;omega)) ?_)|simp (maxSteps:=9999999) (implicitDefEqProofs:=false) only [go_sem,hb2,hg,h1,h2,h3,wrap_nat,wrap8_nat,Nat.mod_mod,List.length_map,hdl,hBl]|fail))
      refine ⟨[(1000,83)],⟨k+1,hlk⟩,?_⟩
      (iterate 2 ((try simp (maxSteps:=9999999) (implicitDefEqProofs:=false) only [go_sem,hc]);(try simp (maxSteps:=9999999) (disch:=omega) only [wq])))
      try (simp only [ijq,true_and,and_true];first|done|omega|(split <;> omega)|(simp;done)|(simp;omega))
    have hb2:decide ((k:Int)<16)=false:=decide_eq_false (by omega)
    obtain rfl:k=16:=by omega
    have hB:B.take (2*16)=B:=List.take_of_length_le (by omega)
    rw [hB] at hBl
    rw [hB]
    (repeat' (first|with_reducible (first|refine zA fun Kn hK=>?_|refine zB (by kernel_rfl) ?_|refine Nx.go ?_|go_step)|refine raw_t (by rfl) (by rfl) (by rfl)|with_reducible (first|refine zI ?_|refine zJ ?_|refine zK ?_ ?_|refine zL ?_ ?_|refine zR (by kernel_rfl) ?_)|simp (maxSteps:=9999999) (disch:=omega) only [wq]|(with_reducible refine zM (fun hb=>?_) (fun hb=>?_) <;> (try simp only [hb]))|(with_reducible refine And.intro (by first|omega|(simp;done)|(simp;omega)) ?_)|simp (maxSteps:=9999999) (implicitDefEqProofs:=false) only [go_sem,hb2,List.length_map,hl32,List.take_length]|fail))
  | succ j =>
    have e1:((j+1:Nat):Int)-1=(j:Int):=by omega
    have hb1:decide ((j:Int)≥0)=true:=decide_eq_true (by omega)
    rw [e1]
    (repeat' (first|with_reducible (first|refine zA fun Kn hK=>?_|refine zB (by kernel_rfl) ?_|refine Nx.go ?_|go_step)|fail|with_reducible (first|refine zI ?_|refine zJ ?_|refine zK ?_ ?_|refine zL ?_ ?_|refine zR (by kernel_rfl) ?_)|simp (maxSteps:=9999999) (disch:=omega) only [wq]|(with_reducible refine zM (fun hb=>?_) (fun hb=>?_) <;> (try simp only [hb]))|(with_reducible refine And.intro (by first|omega|(simp;done)|(simp;omega)) ?_)|simp (maxSteps:=9999999) (implicitDefEqProofs:=false) only [go_sem,hb1]|fail))
    rw [show 16*(j+1)=16*j+16 by omega]
    obtain ⟨x,hx⟩: ∃ x,d[j]?=some x:=⟨_,List.getElem?_eq_getElem (by omega)⟩
    have hgx:=numsD_get hx
    have hxe:=hdig j x hx
    have hxl:=hd x (List.mem_of_getElem? hx)
    refine sound_loopR (fun y:{e:Nat // e≤16}=>⟨[(0,vD (.sl n (d.map nD))),(3,vD (.sl 17 (l17.map nD))),(4,vD (.sl 17 ((dg 17 (restQ V (16*j+y.1))).map nD))),(5,vI j),(6,.a (.c (.d (nD (2^y.1/2)))))],[]⟩) (fun y=>y.1) ⟨16,Nat.le_refl _⟩ [] (by (iterate 2 ((try simp (maxSteps:=9999999) (implicitDefEqProofs:=false) only [go_sem,true_and]);(try simp (maxSteps:=9999999) (disch:=omega) only [wq])));try simp [nD]) (fun ⟨e,he⟩=>?_)
    cases e with
    | zero =>
      have hb2:decide (((2^0/2:Nat):Int)>0)=false:=rfl
      (repeat' (first|with_reducible (first|refine zA fun Kn hK=>?_|refine zB (by kernel_rfl) ?_|refine Nx.go ?_|go_step)|fail|with_reducible (first|refine zI ?_|refine zJ ?_|refine zK ?_ ?_|refine zL ?_ ?_|refine zR (by kernel_rfl) ?_)|simp (maxSteps:=9999999) (disch:=omega) only [wq]|(with_reducible refine zM (fun hb=>?_) (fun hb=>?_) <;> (try simp only [hb]))|(with_reducible refine And.intro (by first|omega|(simp;done)|(simp;omega)) ?_)|simp (maxSteps:=9999999) (implicitDefEqProofs:=false) only [go_sem,hb2]|fail))
      refine ⟨[],⟨j,by omega⟩,?_⟩
      (iterate 2 ((try simp (maxSteps:=9999999) (implicitDefEqProofs:=false) only [go_sem,Nat.add_zero]);(try simp (maxSteps:=9999999) (disch:=omega) only [wq])))
      try (simp only [ijq,true_and,and_true];first|done|omega|(split <;> omega)|(simp;done)|(simp;omega))
      try omega
    | succ f =>
      have hw:2^(f+1)/2=2^f:=by rw [Nat.pow_succ];omega
      have hbit:=digit_bit hxe (show f<16 by omega)
      have hcut:=restQ_cut (V:=V) (s:=16*j+f)
      have hRl:=restQ_lt V (16*j+f+1)
      have hb01:V/2^(16*j+f)%2≤1:=by have:=Nat.mod_lt (V/2^(16*j+f)) (show 0<2 by omega);omega
      rw [show 16*j+(f+1)=16*j+f+1 by omega,hw]
      generalize V/2^(16*j+f)%2=bt at *
      generalize restQ V (16*j+f+1)=R at *
      have hwp:0<2^f:=Nat.pow_pos (by omega)
      have hwl:2^f≤65536:=Nat.pow_le_pow_right (n:=2) (j:=16) (by omega) (by omega)
      generalize hwf:2^f=w at *
      have hb2:decide ((w:Int)>0)=true:=decide_eq_true (by omega)
      have hwm:w/2%18446744073709551616=w/2:=by omega
      have hw0:((w:Int)==0)=false:=by rw [beq_eq_false_iff_ne];omega
      have hw1: ¬ ((w:Int)=0):=by omega
      have hw3:(w==0)=false:=by rw [beq_eq_false_iff_ne];omega
      have htd:(x:Int).tdiv (w:Int)=((x/w:Nat):Int):=by rw [Int.tdiv_eq_ediv_of_nonneg (by omega)];rfl
      have hxw:x/w≤x:=Nat.div_le_self _ _
      have hm0:x/w%18446744073709551616=x/w:=Nat.mod_eq_of_lt (by omega)
      have hm1:bt%18446744073709551616=bt:=Nat.mod_eq_of_lt (by omega)
      (repeat' (first|with_reducible (first|refine zA fun Kn hK=>?_|refine zB (by kernel_rfl) ?_|refine Nx.go ?_|go_step)|fail|with_reducible (first|refine zI ?_|refine zJ ?_|refine zK ?_ ?_|refine zL ?_ ?_|refine zR (by kernel_rfl) ?_)|simp (maxSteps:=9999999) (disch:=omega) only [wq]|(with_reducible refine zM (fun hb=>?_) (fun hb=>?_) <;> (try simp only [hb]))|(with_reducible refine And.intro (by first|omega|(simp;done)|(simp;omega)) ?_)|simp (maxSteps:=9999999) (implicitDefEqProofs:=false) only [go_sem,hb2,hgx,hw0,hw1,hw3,htd,hm0,hbit,hm1,wrap_nat,List.length_map,hn]|fail))
      have hR17:R<65536^17:=Nat.lt_trans hRl (by decide +kernel)
      have hvR:vV (dg 17 R)=R:=by rw [vV_dg,Nat.mod_eq_of_lt hR17]
      have hRd:=dg_lt 17 R
      have hRlen:=hdl17 R
      have hsm:2*vV (dg 17 R)+bt<65536^17:=by
        rw [hvR]
        have:(2*lQ:Nat)<65536^17:=by decide +kernel
        generalize 65536^17=M at *
        omega
      have hdone:=fun s c (h:InQ (dg 17 R) bt (17,s,c))=>InQ.done h hRlen hsm
      rw [hvR] at hdone
      have hvN:vV (dg 17 (2*R+bt))=2*R+bt:=by rw [vV_dg];rw [hvR] at hsm;exact Nat.mod_eq_of_lt hsm
      have hbel:=below_m (G:=G) (dg 17 (2*R+bt)) l17 17 (hdl17 _) rfl (by omega) (dg_lt 17 _) l17_lt
      have hoff:=fun h=>off_m (G:=G) (dg 17 (2*R+bt)) l17 17 (hdl17 _) rfl (by omega) (dg_lt 17 _) l17_lt h
      rw [hvN,l17_val] at hbel hoff
      have hlN:=hdl17 (2*R+bt)
      clear hsm hR17 hvR hvN
      generalize hr17:dg 17 R=r at *
      refine sound_grow 8 35 1 0 0 (by rfl) (by rfl) (by rfl) (by rfl) ?_
      refine sound_trim 35 0 (by rfl) ?_
      refine sound_loopR (fun y:{p:Nat × List Nat × Nat // InQ r bt p}=>⟨[(0,vD (.sl n (d.map nD))),(3,vD (.sl 17 (l17.map nD))),(4,vD (.sl 17 (r.map nD))),(5,vI j),(6,.a (.c (.d (nD w)))),(7,.a (.c (.d (nD y.1.2.2)))),(8,vR 1000 1 y.1.1),(37,vI 17),(38,vI y.1.1)],[(1000,some ⟨59,(y.1.2.1.map nD).map C.d,false,false⟩)]⟩) (fun y=>17-y.1.1) ⟨(0,[],bt),InQ.zero hb01⟩ [(1000,35)] (by (iterate 2 ((try simp (maxSteps:=9999999) (implicitDefEqProofs:=false) only [go_sem,AObj.trim,List.take_zero]);(try simp (maxSteps:=9999999) (disch:=omega) only [wq])));try simp [nD]) (fun ⟨⟨k,s,c⟩,hI⟩=>?_)
      obtain ⟨hk,hsl,hc1,hs4,hs5⟩:=id hI
      dsimp only at hk hsl hc1 hs4 hs5
      by_cases hlk:k<17
      · have hb3:decide ((k:Int)<17)=true:=decide_eq_true (by omega)
        obtain ⟨z,hz⟩: ∃ z,r[k]?=some z:=⟨_,List.getElem?_eq_getElem (by omega)⟩
        have hgz:=numsD_get hz
        have hzl:=hRd z (List.mem_of_getElem? hz)
        have hst:=InQ.step (t:=2*z+c) hI hlk hRlen hz hzl rfl
        have hT:(2*z%18446744073709551616+c)%18446744073709551616=2*z+c:=by omega
        generalize 2*z+c=t at *
        have hq1:t/65536%18446744073709551616=t/65536:=by omega
        have hm2:t%65536%18446744073709551616=t%65536:=by omega
        have hcc:((s++[t%65536]).map nD).map C.d=(s.map nD).map C.d++[C.d (D.v (.int .u64 ((t%65536:Nat):Int)))]:=by simp [nD]
        (repeat' (first|with_reducible (first|refine zA fun Kn hK=>?_|refine zB (by kernel_rfl) ?_|refine Nx.go ?_|go_step)|fail|with_reducible (first|refine zI ?_|refine zJ ?_|refine zK ?_ ?_|refine zL ?_ ?_|refine zR (by kernel_rfl) ?_)|simp (maxSteps:=9999999) (disch:=omega) only [wq]|(with_reducible refine zM (fun hb=>?_) (fun hb=>?_) <;> (try simp only [hb]))|(with_reducible refine And.intro (by first|omega|(simp;done)|(simp;omega)) ?_)|simp (maxSteps:=9999999) (implicitDefEqProofs:=false) only [go_sem,hb3,hgz,hT,hq1,hm2,wrap_nat,List.length_map,hRlen,hsl]|fail))
        refine ⟨[(1000,52)],⟨(k+1,s++[t%65536],t/65536),hst⟩,?_⟩
        (iterate 2 ((try simp (maxSteps:=9999999) (implicitDefEqProofs:=false) only [go_sem,hcc]);(try simp (maxSteps:=9999999) (disch:=omega) only [wq])))
        try (simp only [ijq,true_and,and_true];first|done|omega|(split <;> omega)|(simp;done)|(simp;omega))
        try omega
      · have hb3:decide ((k:Int)<17)=false:=decide_eq_false (by omega)
        obtain rfl:k=17:=by omega
        obtain rfl:=hdone s c hI
        obtain ⟨u1,u2,u3⟩:=hcd (2*R+bt)
        dsimp only
        clear hI hs4 hs5 hdone
        refine sound_data 8 ?_
        (iterate 2 ((try simp (maxSteps:=9999999) (implicitDefEqProofs:=false) only [go_sem,true_and,u1,u2,u3,hlN,List.length_map]);(try simp (maxSteps:=9999999) (disch:=omega) only [wq])))
        by_cases hcmp:2*R+bt<lQ
        · rw [decide_eq_true hcmp] at hbel
          rw [if_pos hcmp] at hcut
          rw [← hcut] at hbel ⊢
          (repeat' (first|with_reducible (first|refine zA fun Kn hK=>?_|refine zB (by kernel_rfl) ?_|refine Nx.go ?_|go_step)|(refine ⟨_,hbel,?_⟩)|with_reducible (first|refine zI ?_|refine zJ ?_|refine zK ?_ ?_|refine zL ?_ ?_|refine zR (by kernel_rfl) ?_)|simp (maxSteps:=9999999) (disch:=omega) only [wq]|(with_reducible refine zM (fun hb=>?_) (fun hb=>?_) <;> (try simp only [hb]))|(with_reducible refine And.intro (by first|omega|(simp;done)|(simp;omega)) ?_)|simp (maxSteps:=9999999) (implicitDefEqProofs:=false) only [go_sem,hb3,Bool.not_true,hwf,wrap_nat,hwm]|fail))
          refine ⟨[],⟨f,by omega⟩,?_⟩
          (iterate 2 ((try simp (maxSteps:=9999999) (implicitDefEqProofs:=false) only [go_sem,hwf]);(try simp (maxSteps:=9999999) (disch:=omega) only [wq])))
          try (simp only [ijq,true_and,and_true];first|done|omega|(split <;> omega)|(simp;done)|(simp;omega))
          try omega
        · rw [decide_eq_false hcmp] at hbel
          have hof:=hoff (by omega)
          rw [if_neg hcmp] at hcut
          rw [← hcut] at hof
          (repeat' (first|with_reducible (first|refine zA fun Kn hK=>?_|refine zB (by kernel_rfl) ?_|refine Nx.go ?_|go_step)|(refine ⟨_,hbel,?_⟩)|(refine ⟨_,hof,?_⟩)|with_reducible (first|refine zI ?_|refine zJ ?_|refine zK ?_ ?_|refine zL ?_ ?_|refine zR (by kernel_rfl) ?_)|simp (maxSteps:=9999999) (disch:=omega) only [wq]|(with_reducible refine zM (fun hb=>?_) (fun hb=>?_) <;> (try simp only [hb]))|(with_reducible refine And.intro (by first|omega|(simp;done)|(simp;omega)) ?_)|simp (maxSteps:=9999999) (implicitDefEqProofs:=false) only [go_sem,hb3,Bool.not_false,hwf,wrap_nat,hwm]|fail))
          refine ⟨[],⟨f,by omega⟩,?_⟩
          (iterate 2 ((try simp (maxSteps:=9999999) (implicitDefEqProofs:=false) only [go_sem,hwf]);(try simp (maxSteps:=9999999) (disch:=omega) only [wq])))
          try (simp only [ijq,true_and,and_true];first|done|omega|(split <;> omega)|(simp;done)|(simp;omega))
          try omega
end Go.Proofs.YtdakeodebgggfaaGreatDoor
namespace Go.Proofs.YtdakeodebgggfaaGreatDoor
open Go.RowKit
theorem refreduce_o {G:Nat→Option (List D)} (b:List UInt8) (hn:b.length≤1000000):Spec Tryz.prog G 69 [.c (bytesD b)] (.obj 5 (.a (.c (.row 5 1 0 32 .grow))) ⟨5,((leB (leV b%lQ)).map bD).map C.d,false,false⟩):=by
  obtain ⟨hv,hz,hl1,hl2⟩:=rawO_val b
  have h1:=digits_m (G:=G) b hn
  have h2:=refrest_o (G:=G) (rawO b) (rawO b).length rfl (by omega) hz
  rw [hv] at h2
  unfold wordsD at h1
  generalize leB (leV b%lQ)=B at *
  generalize rawO b=R at *
  refine specO_go Tryz.func69 rfl rfl rfl (by kernel_rfl) (by (iterate 2 ((try simp (maxSteps:=9999999) (implicitDefEqProofs:=false) only [go_sem,true_and]);(try simp (maxSteps:=9999999) (disch:=omega) only [wq])))) (by (iterate 2 ((try simp (maxSteps:=9999999) (implicitDefEqProofs:=false) only [go_sem,List.all_cons,List.all_nil]);(try simp (maxSteps:=9999999) (disch:=omega) only [wq])))) fun K m=>?_
  (repeat' (first|with_reducible (first|refine zA fun Kn hK=>?_|refine zB (by kernel_rfl) ?_|refine Nx.go ?_|go_step)|(refine ⟨_,h1,?_⟩)|(refine ⟨_,h2,?_⟩)|(refine raw_t (by rfl) (by rfl) (by rfl))|with_reducible (first|refine zI ?_|refine zJ ?_|refine zK ?_ ?_|refine zL ?_ ?_|refine zR (by kernel_rfl) ?_)|simp (maxSteps:=9999999) (disch:=omega) only [wq]|(with_reducible refine zM (fun hb=>?_) (fun hb=>?_) <;> (try simp only [hb]))|(with_reducible refine And.intro (by first|omega|(simp;done)|(simp;omega)) ?_)|simp (maxSteps:=9999999) (implicitDefEqProofs:=false) only [go_sem,true_and]|fail))
theorem refreduce_m {G:Nat→Option (List D)} (b:List UInt8) (hn:b.length≤1000000):Spec Tryz.prog G 69 [.c (bytesD b)] (.one (.c (bytesD (leB (leV b%lQ))))):=by
  obtain ⟨hv,hz,hl1,hl2⟩:=rawO_val b
  have h1:=digits_m (G:=G) b hn
  have h2:=refrest_o (G:=G) (rawO b) (rawO b).length rfl (by omega) hz
  rw [hv] at h2
  have hll:=leB_len (leV b%lQ)
  unfold wordsD at h1
  generalize leB (leV b%lQ)=B at *
  generalize rawO b=R at *
  obtain ⟨c1,c2,c3⟩:=cd_facts (l:=B.map bD) (n:=32) (by rw [List.length_map];exact hll)
  refine spec_of Tryz.func69 rfl rfl rfl (by kernel_rfl) rfl fun K=>?_
  (repeat' (first|with_reducible (first|refine zA fun Kn hK=>?_|refine zB (by kernel_rfl) ?_|refine Nx.go ?_|go_step)|(refine ⟨_,h1,?_⟩)|(refine ⟨_,h2,?_⟩)|with_reducible (first|refine zI ?_|refine zJ ?_|refine zK ?_ ?_|refine zL ?_ ?_|refine zR (by kernel_rfl) ?_)|simp (maxSteps:=9999999) (disch:=omega) only [wq]|(with_reducible refine zM (fun hb=>?_) (fun hb=>?_) <;> (try simp only [hb]))|(with_reducible refine And.intro (by first|omega|(simp;done)|(simp;omega)) ?_)|simp (maxSteps:=9999999) (implicitDefEqProofs:=false) only [go_sem,c1,c2,c3,hll,List.length_map]|fail))
  all_goals (first|rfl|(rw [bytesD,hll]))
end Go.Proofs.YtdakeodebgggfaaGreatDoor
namespace Go.Proofs.YtdakeodebgggfaaGreatDoor
open Go.RowKit
theorem refmay_m {G:Nat→Option (List D)} (b:List UInt8) (hn:b.length≤1000000):Spec Tryz.prog G 50 [.c (bytesD b)] (.one (.c (.v (.bool (decide (b.length=32∧leV b<lQ)))))):=by
  by_cases h:b.length=32
  · have hr:=refreduce_m (G:=G) b hn
    have hok:=may_ok h
    have hll:=leB_len (leV b%lQ)
    generalize leB (leV b%lQ)=R at *
    have hd:decide (b.length=32∧leV b<lQ)=(R==b):=by
      have h1:(R==b)=(b==R):=by rw [Bool.eq_iff_iff,beq_iff_eq,beq_iff_eq];exact eq_comm
      rw [h1,hok]
      simp [h]
    rw [hd]
    have hb1:(b.length==32)=true:=by simp [h]
    refine spec_of Tryz.func50 rfl rfl rfl (by kernel_rfl) rfl fun K=>?_
    (repeat' (first|with_reducible (first|refine zA fun Kn hK=>?_|refine zB (by kernel_rfl) ?_|refine Nx.go ?_|go_step)|(refine ⟨_,hr,?_⟩)|with_reducible (first|refine zI ?_|refine zJ ?_|refine zK ?_ ?_|refine zL ?_ ?_|refine zR (by kernel_rfl) ?_)|simp (maxSteps:=9999999) (disch:=omega) only [wq]|(with_reducible refine zM (fun hb=>?_) (fun hb=>?_) <;> (try simp only [hb]))|(with_reducible refine And.intro (by first|omega|(simp;done)|(simp;omega)) ?_)|simp (maxSteps:=9999999) (implicitDefEqProofs:=false) only [go_sem,hb1,int_beqL]|fail))
  · have hd:decide (b.length=32∧leV b<lQ)=false:=by simp [h]
    rw [hd]
    have hb1:(b.length==32)=false:=by simp [h]
    refine spec_of Tryz.func50 rfl rfl rfl (by kernel_rfl) rfl fun K=>?_
    (repeat' (first|with_reducible (first|refine zA fun Kn hK=>?_|refine zB (by kernel_rfl) ?_|refine Nx.go ?_|go_step)|fail|with_reducible (first|refine zI ?_|refine zJ ?_|refine zK ?_ ?_|refine zL ?_ ?_|refine zR (by kernel_rfl) ?_)|simp (maxSteps:=9999999) (disch:=omega) only [wq]|(with_reducible refine zM (fun hb=>?_) (fun hb=>?_) <;> (try simp only [hb]))|(with_reducible refine And.intro (by first|omega|(simp;done)|(simp;omega)) ?_)|simp (maxSteps:=9999999) (implicitDefEqProofs:=false) only [go_sem,hb1,int_beqL]|fail))
end Go.Proofs.YtdakeodebgggfaaGreatDoor
namespace Go.Proofs.YtdakeodebgggfaaGreatDoor
open Go.RowKit
def InU (a b c:List Nat) (x:Nat × List Nat):Prop:=x.1≤16∧x.2.length=34∧(∀ y∈x.2,y≤x.1*8589934592)∧vV x.2=vV (c.take x.1)+vV (a.take x.1)*vV b
def InV (a b c:List Nat) (i:Nat) (x:Nat × List Nat):Prop:=x.1≤16∧x.2.length=34∧(∀ y∈x.2,y≤(i+1)*8589934592)∧(∀ m,i+x.1≤m→x.2.getD m 0≤i*8589934592+65535)∧vV x.2=vV (c.take (i+1))+vV (a.take i)*vV b+a.getD i 0*vV (b.take x.1)*65536^i
theorem InV.zero {a b c r:List Nat} {i y:Nat} (h:InU a b c (i,r)) (hi:i<16) (lc:c.length=16) (hy:c.getD i 0=y) (hyl:y<65536):r.getD i 0≤i*8589934592∧InV a b c i (0,r.set i (r.getD i 0+y)):=by
  obtain ⟨h1,h2,h3,h4⟩:=h
  dsimp only at h1 h2 h3 h4
  have hx:=getD_le h3 i
  refine ⟨hx,Nat.zero_le _,by dsimp only;rw [List.length_set];exact h2,fun z hz=>?_,fun m hm=>?_,?_⟩
  · rcases List.mem_or_eq_of_mem_set hz with h|h
    · exact Nat.le_trans (h3 z h) (Nat.mul_le_mul_right _ (Nat.le_succ i))
    · rw [h];omega
  · dsimp only
    by_cases he:i=m
    · subst he
      rw [getD_set_eq (by omega)]
      omega
    · rw [getD_set_ne he]
      exact Nat.le_trans (getD_le h3 m) (Nat.le_add_right _ _)
  · dsimp only
    have hs:=vV_set (l:=r) (j:=i) (d:=r.getD i 0+y) (by omega)
    rw [vV_take (b:=c) (by omega),hy,List.take_zero,vV,Nat.mul_zero,Nat.zero_mul,Nat.add_zero]
    rw [Nat.mul_add] at hs
    omega
theorem InV.step {a b c r:List Nat} {i k p:Nat} (h:InV a b c i (k,r)) (hi:i<16) (hk:k<16) (lb:b.length=16) (hp:p=a.getD i 0*b.getD k 0) (hpl:p≤65535*65535):r.getD (i+k) 0≤i*8589934592+65535∧InV a b c i (k+1,r.set (i+k) (r.getD (i+k) 0+p)):=by
  obtain ⟨h1,h2,h3,h4,h5⟩:=h
  dsimp only at h1 h2 h3 h4 h5
  have hx:=h4 (i+k) (Nat.le_refl _)
  refine ⟨hx,by dsimp only;omega,by dsimp only;rw [List.length_set];exact h2,fun y hy=>?_,fun m hm=>?_,?_⟩
  · rcases List.mem_or_eq_of_mem_set hy with h|h
    · exact h3 y h
    · rw [h];omega
  · dsimp only at hm ⊢
    rw [getD_set_ne (by omega)]
    exact h4 m (by omega)
  · dsimp only
    have hs:=vV_set (l:=r) (j:=i+k) (d:=r.getD (i+k) 0+p) (by omega)
    rw [vV_take (b:=b) (by omega),Nat.mul_add (a.getD i 0),Nat.add_mul]
    rw [Nat.mul_add] at hs
    have e:a.getD i 0*(65536^k*b.getD k 0)*65536^i=65536^(i+k)*p:=by
      rw [hp,Nat.pow_add]
      generalize a.getD i 0=x
      generalize b.getD k 0=y
      generalize 65536^k=P
      generalize 65536^i=Q
      rw [Nat.mul_comm P y,← Nat.mul_assoc x,Nat.mul_comm (Q*P),Nat.mul_assoc (x*y),Nat.mul_comm P Q]
    rw [e]
    omega
theorem InV.done {a b c r:List Nat} {i:Nat} (h:InV a b c i (16,r)) (hi:i<16) (la:a.length=16) (lb:b.length=16):InU a b c (i+1,r):=by
  obtain ⟨h1,h2,h3,h4,h5⟩:=h
  dsimp only at h1 h2 h3 h4 h5
  refine ⟨by dsimp only;omega,h2,h3,?_⟩
  dsimp only
  rw [h5,take16 lb,vV_take (b:=a) (by omega),Nat.add_mul,Nat.mul_right_comm,Nat.mul_comm (65536^i),Nat.add_assoc]
def InE (l:List Nat) (x:Nat × List Nat × Nat):Prop:=x.1≤l.length∧x.2.1.length=l.length∧x.2.2<1152921504606846976∧vV x.2.1+x.2.2*65536^x.1=vV l∧(∀ j,j<x.1→x.2.1.getD j 0<65536)∧(∀ j,x.1≤j→x.2.1.getD j 0=l.getD j 0)
theorem InE.zero {l:List Nat}:InE l (0,l,0):=⟨Nat.zero_le _,rfl,by dsimp only;omega,by dsimp only;rw [Nat.zero_mul,Nat.add_zero],fun j h=>by dsimp only at h;omega,fun j _=>rfl⟩
theorem InE.step {l r:List Nat} {k c x t:Nat} (h:InE l (k,r,c)) (hk:k<l.length) (hb: ∀ x∈l,x<1152921504606846976) (hx:x=r.getD k 0) (ht:t=x+c):t<2305843009213693952∧InE l (k+1,r.set k (t%65536),t/65536):=by
  obtain ⟨h1,h2,h3,h4,h5,h6⟩:=h
  dsimp only at h1 h2 h3 h4 h5 h6
  have hxb:x<1152921504606846976:=by
    rw [hx,h6 k (Nat.le_refl _)]
    exact (all_getD (by omega)).1 hb k (by omega)
  refine ⟨by omega,by dsimp only;omega,by dsimp only;rw [List.length_set];exact h2,by dsimp only;omega,?_,?_,?_⟩
  · dsimp only
    have hs:=vV_set (l:=r) (j:=k) (d:=t%65536) (by omega)
    rw [← hx] at hs
    rw [← h4,Nat.pow_succ]
    generalize 65536^k=P at *
    have hd:=Nat.div_add_mod t 65536
    generalize t/65536=q at *
    generalize t%65536=m at *
    subst ht
    have e1:P*(65536*q+m)=q*(P*65536)+P*m:=by rw [Nat.mul_add,← Nat.mul_assoc,Nat.mul_comm (P*65536)]
    rw [hd,Nat.mul_add] at e1
    have e2:=Nat.mul_comm P c
    omega
  · dsimp only
    intro j hj
    by_cases he:k=j
    · subst he
      rw [getD_set_eq (by omega)]
      exact Nat.mod_lt _ (by omega)
    · rw [getD_set_ne he]
      exact h5 j (by omega)
  · dsimp only
    intro j hj
    rw [getD_set_ne (by omega)]
    exact h6 j (by omega)
theorem InE.done {l r:List Nat} {c:Nat} (h:InE l (l.length,r,c)) (hv:vV l<65536^l.length):(∀ x∈r,x<65536)∧r.length=l.length∧vV r=vV l:=by
  obtain ⟨h1,h2,h3,h4,h5,h6⟩:=h
  dsimp only at h1 h2 h3 h4 h5 h6
  have hd: ∀ x∈r,x<65536:=(all_getD (by omega)).2 fun j hj=>h5 j (by omega)
  refine ⟨hd,h2,?_⟩
  generalize 65536^l.length=P at *
  rcases Nat.eq_zero_or_pos c with rfl|hc
  · omega
  · have:=Nat.mul_le_mul hc (Nat.le_refl P)
    omega
end Go.Proofs.YtdakeodebgggfaaGreatDoor
namespace Go.Proofs.YtdakeodebgggfaaGreatDoor
open Go.RowKit
theorem acc_step {r:List UInt8} {k x c t:Nat} {y:UInt8} (h:r[k]?=some y) (ht:t=x+y.toNat+c):leV (r.set k (UInt8.ofNat (t%256)))+t/256*256^(k+1)=leV r+c*256^k+x*256^k:=by
  have h1:=leV_set (d:=UInt8.ofNat (t%256)) h
  have h2:(UInt8.ofNat (t%256)).toNat=t%256:=UInt8.toNat_ofNat_of_lt' (by simp only [UInt8.size];omega)
  rw [h2] at h1
  rw [Nat.pow_succ]
  generalize 256^k=P at *
  have h3:=Nat.div_add_mod t 256
  generalize t/256=q at *
  generalize t%256=m at *
  subst ht
  have e1:P*(x+y.toNat+c)=P*x+P*y.toNat+P*c:=by rw [Nat.mul_add,Nat.mul_add]
  have e2:P*(256*q+m)=q*(P*256)+P*m:=by rw [Nat.mul_add,← Nat.mul_assoc,Nat.mul_comm (P*256)]
  rw [h3,e1] at e2
  have e3:=Nat.mul_comm P x
  have e4:=Nat.mul_comm P c
  omega
def accV (A B C i:Nat):Nat:=C+A%256^i*B
theorem mod_up (A i:Nat):A%256^(i+1)=A%256^i+A/256^i%256*256^i:=by
  rw [Nat.pow_succ,Nat.mod_mul,Nat.mul_comm (256^i)]
theorem accV_step (A B C i:Nat):accV A B C (i+1)=accV A B C i+A/256^i%256*B*256^i:=by
  unfold accV
  rw [mod_up,Nat.add_mul,Nat.add_assoc,Nat.mul_assoc _ (256^i),Nat.mul_comm (256^i) B,← Nat.mul_assoc]
theorem accV_lt {A B C:Nat} (hB:B<256^32) (hC:C<256^32) {i:Nat} (hi:i≤32):accV A B C i<256^64:=by
  have h1:A%256^i<256^32:=Nat.lt_of_lt_of_le (Nat.mod_lt _ (Nat.pow_pos (by omega))) (Nat.pow_le_pow_right (by omega) hi)
  unfold accV
  rw [show (256:Nat)^64=256^32*256^32 by rw [← Nat.pow_add]]
  generalize (256:Nat)^32=M at *
  generalize A%256^i=a at *
  have h2:a*B≤(M-1)*M:=Nat.mul_le_mul (by omega) (by omega)
  have h3:(M-1)*M+M=M*M:=by
    obtain ⟨m,rfl⟩: ∃ m,M=m+1:=⟨M-1,by omega⟩
    rw [Nat.add_sub_cancel,Nat.add_mul m 1,Nat.one_mul]
  omega
def InA (A B C i:Nat) (r:List UInt8):Prop:=r.length=65∧leV r=accV A B C i
def InB (A B C i:Nat) (x:Nat × List UInt8 × Nat):Prop:=x.1≤32∧x.2.1.length=65∧x.2.2≤255∧leV x.2.1+x.2.2*256^(i+x.1)=accV A B C i+A/256^i%256*(B%256^x.1)*256^i
def InC (A B C i:Nat) (x:Nat × List UInt8 × Nat):Prop:=x.1≤64∧x.2.1.length=65∧x.2.2≤255∧leV x.2.1+x.2.2*256^x.1=accV A B C (i+1)
theorem InB.step {A B C i j c t ya yb:Nat} {r:List UInt8} {y:UInt8} (h:InB A B C i (j,r,c)) (hj:j<32) (ha:ya=A/256^i%256) (hb:yb=B/256^j%256) (hy:r[i+j]?=some y) (ht:t=ya*yb+y.toNat+c) (h256:ya*yb≤65025) :
    InB A B C i (j+1,r.set (i+j) (UInt8.ofNat (t%256)),t/256):=by
  obtain ⟨h1,h2,h3,h4⟩:=h
  have hyl:y.toNat<256:=y.toNat_lt
  dsimp only at h1 h2 h3 h4
  refine ⟨by dsimp only;omega,by dsimp only;rw [List.length_set];exact h2,by dsimp only;omega,?_⟩
  dsimp only
  have hs:=acc_step hy ht
  rw [show i+(j+1)=i+j+1 by omega,hs,h4,mod_up B j,← hb,← ha,Nat.mul_add,Nat.add_mul,Nat.add_assoc]
  congr 2
  rw [Nat.pow_add,Nat.mul_comm (256^i),← Nat.mul_assoc,Nat.mul_assoc ya]
theorem InB.done {A B C i c:Nat} {r:List UInt8} (h:InB A B C i (32,r,c)) (hB:B<256^32) (hi:i<32):InC A B C i (i+32,r,c):=by
  obtain ⟨h1,h2,h3,h4⟩:=h
  refine ⟨by dsimp only;omega,h2,h3,?_⟩
  dsimp only at h4 ⊢
  rw [h4,Nat.mod_eq_of_lt hB,accV_step]
theorem InC.lt {A B C i k c:Nat} {r:List UInt8} (h:InC A B C i (k,r,c)) (hB:B<256^32) (hC:C<256^32) (hi:i<32) (hc:0<c):k<64:=by
  obtain ⟨h1,h2,h3,h4⟩:=h
  dsimp only at h1 h4
  have hv:=accV_lt (A:=A) hB hC (i:=i+1) (by omega)
  refine Nat.lt_of_le_of_ne h1 fun e=>?_
  subst e
  have:1*256^64≤c*256^64:=Nat.mul_le_mul hc (Nat.le_refl _)
  generalize (256:Nat)^64=M at *
  omega
theorem InC.step {A B C i k c t:Nat} {r:List UInt8} {y:UInt8} (h:InC A B C i (k,r,c)) (hk:k<64) (hy:r[k]?=some y) (ht:t=y.toNat+c):InC A B C i (k+1,r.set k (UInt8.ofNat (t%256)),t/256):=by
  obtain ⟨h1,h2,h3,h4⟩:=h
  have hyl:y.toNat<256:=y.toNat_lt
  dsimp only at h1 h2 h3 h4
  refine ⟨by dsimp only;omega,by dsimp only;rw [List.length_set];exact h2,by dsimp only;omega,?_⟩
  dsimp only
  have hs:=acc_step (x:=0) hy (by omega:t=0+y.toNat+c)
  rw [hs,Nat.zero_mul,Nat.add_zero,h4]
theorem InC.done {A B C i k:Nat} {r:List UInt8} (h:InC A B C i (k,r,0)):InA A B C (i+1) r:=by
  obtain ⟨h1,h2,h3,h4⟩:=h
  dsimp only at h2 h4
  exact ⟨h2,by omega⟩
theorem leV_append_zeros (c:List UInt8): ∀ n,leV (c++List.replicate n 0)=leV c:=by
  have hz: ∀ n,leV (List.replicate n 0)=0:=fun n=>by
    induction n with
    | zero=>rfl
    | succ n ih=>rw [List.replicate_succ,leV,ih];rfl
  intro n
  induction c with
  | nil=>exact hz n
  | cons b l ih=>rw [List.cons_append,leV,leV,ih]
theorem InA.zero {A B:Nat} {c:List UInt8} (h:c.length=32):InA A B (leV c) 0 (c++List.replicate 33 0):=by
  refine ⟨by simp [h],?_⟩
  rw [leV_append_zeros,accV,Nat.pow_zero,Nat.mod_one,Nat.zero_mul,Nat.add_zero]
theorem InB.zero {A B C i:Nat} {r:List UInt8} (h:InA A B C i r):InB A B C i (0,r,0):=by
  refine ⟨by dsimp only;omega,h.1,by dsimp only;omega,?_⟩
  dsimp only
  rw [h.2,Nat.pow_zero,Nat.mod_one,Nat.mul_zero,Nat.zero_mul,Nat.zero_mul]
end Go.Proofs.YtdakeodebgggfaaGreatDoor
namespace Go.Proofs.YtdakeodebgggfaaGreatDoor
open Go.RowKit
@[go_sem] theorem ty_65:tyok Tryz.prog 132=true:=by kernel_rfl
@[go_sem] theorem kd_65:kdOf Tryz.prog 132=Kd.arr 65 5:=by kernel_rfl
@[go_sem] theorem ze_65:zeroOf Tryz.prog 132=List.replicate 65 (C.d (.v (.int .u8 0))):=by kernel_rfl
theorem bytesC_get {l:List UInt8} {k:Nat} {x:UInt8} (h:l[k]?=some x):((l.map bD).map C.d)[k]?=some (C.d (D.v (.int .u8 (x.toNat:Int)))):=by
  rw [List.getElem?_map,List.getElem?_map,h]
  rfl
theorem pow_8:(2:Nat)^min 8 64=256:=by decide
theorem shr_8 {t:Nat}:(t:Int).fdiv (2^min 8 64)=((t/256:Nat):Int):=by
  show (t:Int).fdiv 256=_
  rw [Int.fdiv_eq_ediv_of_nonneg _ (by decide)]
  rfl
def maF (a b c:List UInt8):Nat:=(leV a*leV b+leV c)%lQ
theorem mulAdd_m {G:Nat→Option (List D)} (a b c:List UInt8) (la:a.length=32) (lb:b.length=32) (lc:c.length=32):Spec Tryz.prog G 56 [.g (a.map bD),.g (b.map bD),.g (c.map bD)] (.one (.g ((leB (maF a b c)).map bD))):=by
  have hR:=fun (r:List UInt8) (h:r.length=65)=>reduce_m (G:=G) r (by omega)
  unfold bytesD at hR
  have hA:=leV_lt a
  have hB:=leV_lt b
  have hC:=leV_lt c
  rw [la] at hA
  rw [lb] at hB
  rw [lc] at hC
  have hatA:=fun i (y:UInt8) (h:a[i]?=some y)=>leV_at h
  have hatB:=fun i (y:UInt8) (h:b[i]?=some y)=>leV_at h
  have hend:accV (leV a) (leV b) (leV c) 32%lQ=maF a b c:=by
    rw [accV,Nat.mod_eq_of_lt hA,maF,Nat.add_comm]
  have hz:=InA.zero (A:=leV a) (B:=leV b) lc
  have hcp:(c.map bD).map C.d++List.replicate 33 (C.d (.v (.int .u8 0)))=(((c++List.replicate 33 0).map bD).map C.d):=by
    rw [List.map_append,List.map_append,List.map_replicate,List.map_replicate]
    rfl
  have HB:=Lib.hid hB
  have HC:=Lib.hid hC
  clear hA hB hC
  generalize leV a=A at *
  generalize leV b=B at *
  generalize leV c=Cn at *
  generalize maF a b c=Rn at *
  have hln:=leB_len Rn
  generalize hout:leB Rn=out at *
  obtain ⟨a1,a2,a3⟩:=cd_facts (l:=a.map bD) (n:=32) (by rw [List.length_map];exact la)
  obtain ⟨b1,b2,b3⟩:=cd_facts (l:=b.map bD) (n:=32) (by rw [List.length_map];exact lb)
  obtain ⟨c1,c2,c3⟩:=cd_facts (l:=c.map bD) (n:=32) (by rw [List.length_map];exact lc)
  refine spec_of Tryz.func56 rfl rfl rfl (by kernel_rfl) rfl fun K=>?_
  (repeat' (first|with_reducible (first|refine zA fun Kn hK=>?_|refine zB (by kernel_rfl) ?_|refine Nx.go ?_|go_step)|fail|with_reducible (first|refine zI ?_|refine zJ ?_|refine zK ?_ ?_|refine zL ?_ ?_|refine zR (by kernel_rfl) ?_)|simp (maxSteps:=9999999) (disch:=omega) only [wq]|(with_reducible refine zM (fun hb=>?_) (fun hb=>?_) <;> (try simp only [hb]))|(with_reducible refine And.intro (by first|omega|(simp;done)|(simp;omega)) ?_)|simp (maxSteps:=9999999) (implicitDefEqProofs:=false) only [go_sem,setAt,List.length_map,List.length_replicate,List.drop_replicate,List.take_zero,List.nil_append,List.drop_zero,la,lb,lc,a1,a2,a3,b1,b2,b3,c1,c2,c3,hcp,List.append_nil]|fail))
  refine sound_loopR (fun x:{p:Nat × List UInt8 // p.1≤32∧InA A B Cn p.1 p.2}=>⟨[(3,vP 3 0),(4,vP 4 0),(5,vP 5 0),(6,vP 6 0),(7,vP 7 0),(19,.a (.agg ((a.map bD).map C.d))),(20,vI x.1.1)],[(3,some ⟨39,(a.map bD).map C.d,true,false⟩),(4,some ⟨39,(b.map bD).map C.d,true,false⟩),(5,some ⟨39,(c.map bD).map C.d,true,false⟩),(6,some ⟨39,zeroOf Tryz.prog 39,true,false⟩),(7,some ⟨132,(x.1.2.map bD).map C.d,true,false⟩)]⟩) (fun x=>32-x.1.1) ⟨(0,c++List.replicate 33 0),by omega,hz⟩ [] (by (iterate 2 ((try simp (maxSteps:=9999999) (implicitDefEqProofs:=false) only [go_sem,show min 32 65=32 from rfl,c1,c2,lc,List.length_map,hcp]);(try simp (maxSteps:=9999999) (disch:=omega) only [wq])));try simp) (fun ⟨⟨i,r⟩,hi,hr⟩=>?_)
  dsimp only at hi hr
  have hrl:=hr.1
  by_cases hlt:i<32
  · have hb1:decide ((i:Int)<32)=true:=decide_eq_true (by omega)
    obtain ⟨ya,hya⟩: ∃ y,a[i]?=some y:=⟨_,List.getElem?_eq_getElem (by omega)⟩
    have hga:=bytesC_get hya
    have hva:=hatA i ya hya
    (repeat' (first|with_reducible (first|refine zA fun Kn hK=>?_|refine zB (by kernel_rfl) ?_|refine Nx.go ?_|go_step)|fail|with_reducible (first|refine zI ?_|refine zJ ?_|refine zK ?_ ?_|refine zL ?_ ?_|refine zR (by kernel_rfl) ?_)|simp (maxSteps:=9999999) (disch:=omega) only [wq]|(with_reducible refine zM (fun hb=>?_) (fun hb=>?_) <;> (try simp only [hb]))|(with_reducible refine And.intro (by first|omega|(simp;done)|(simp;omega)) ?_)|simp (maxSteps:=9999999) (implicitDefEqProofs:=false) only [go_sem,hb1,hga,List.length_map,la,lb,b1,b2,b3]|fail))
    refine sound_loopR (fun x:{p:Nat × List UInt8 × Nat // InB A B Cn i p}=>⟨[(3,vP 3 0),(4,vP 4 0),(5,vP 5 0),(6,vP 6 0),(7,vP 7 0),(19,.a (.agg ((a.map bD).map C.d))),(20,vI i),(8,vI i),(9,.a (.c (.d (bD ya)))),(10,vI x.1.2.2),(24,.a (.agg ((b.map bD).map C.d))),(25,vI x.1.1)],[(3,some ⟨39,(a.map bD).map C.d,true,false⟩),(4,some ⟨39,(b.map bD).map C.d,true,false⟩),(5,some ⟨39,(c.map bD).map C.d,true,false⟩),(6,some ⟨39,zeroOf Tryz.prog 39,true,false⟩),(7,some ⟨132,(x.1.2.1.map bD).map C.d,true,false⟩)]⟩) (fun x=>32-x.1.1) ⟨(0,r,0),InB.zero hr⟩ [] (by (iterate 2 ((try simp (maxSteps:=9999999) (implicitDefEqProofs:=false) only [go_sem,bD]);(try simp (maxSteps:=9999999) (disch:=omega) only [wq])));try simp) (fun ⟨⟨j,r,cy⟩,hI⟩=>?_)
    obtain ⟨hj,hrl,hcy,_⟩:=id hI
    dsimp only at hj hrl hcy
    by_cases hjt:j<32
    · have hb2:decide ((j:Int)<32)=true:=decide_eq_true (by omega)
      obtain ⟨yb,hyb⟩: ∃ y,b[j]?=some y:=⟨_,List.getElem?_eq_getElem (by omega)⟩
      obtain ⟨y,hy⟩: ∃ y,r[i+j]?=some y:=⟨_,List.getElem?_eq_getElem (by omega)⟩
      have hgb:=bytesC_get hyb
      have hgy:=bytesC_get hy
      have hvb:=hatB j yb hyb
      have ha8:ya.toNat<256:=ya.toNat_lt
      have hb8:yb.toNat<256:=yb.toNat_lt
      have hy8:y.toNat<256:=y.toNat_lt
      have hpl:ya.toNat*yb.toNat≤255*255:=Nat.mul_le_mul (by omega) (by omega)
      have hst:=InB.step (t:=ya.toNat*yb.toNat+y.toNat+cy) hI hjt hva.symm hvb.symm hy rfl hpl
      have hbD:bD ya=D.v (.int .u8 (ya.toNat:Int)):=rfl
      have hmul:IntKind.i64.wrap ((ya.toNat:Int)*(yb.toNat:Int))=((ya.toNat*yb.toNat:Nat):Int):=by
        rw [← Int.natCast_mul]
        exact wrap_id (by omega) (by omega)
      generalize ya.toNat*yb.toNat=p at *
      have hsum:(p:Int)+(y.toNat:Int)+(cy:Int)=((p+y.toNat+cy:Nat):Int):=by omega
      have hij:((i:Int)+(j:Int)).toNat=i+j:=by omega
      have hcs:=bytesC_set (l:=r) (k:=i+j) (v:=(p+y.toNat+cy)%256) (Nat.mod_lt _ (by omega))
      generalize hT:p+y.toNat+cy=T at *
      (repeat' (first|with_reducible (first|refine zA fun Kn hK=>?_|refine zB (by kernel_rfl) ?_|refine Nx.go ?_|go_step)|fail|with_reducible (first|refine zI ?_|refine zJ ?_|refine zK ?_ ?_|refine zL ?_ ?_|refine zR (by kernel_rfl) ?_)|simp (maxSteps:=9999999) (disch:=omega) only [wq]|(with_reducible refine zM (fun hb=>?_) (fun hb=>?_) <;> (try simp only [hb]))|(with_reducible refine And.intro (by first|omega|(simp;done)|(simp;omega)) ?_)|simp (maxSteps:=9999999) (implicitDefEqProofs:=false) only [go_sem,hb2,hbD,hga,hgb,hgy,hmul,hsum,hij,hcs,wrap8_nat,shr_8,pow_8,List.length_map,hrl,la,lb]|fail))
      refine ⟨[],⟨(j+1,r.set (i+j) (UInt8.ofNat (T%256)),T/256),hst⟩,?_⟩
      (iterate 2 ((try simp (maxSteps:=9999999) (implicitDefEqProofs:=false) only [go_sem,true_and]);(try simp (maxSteps:=9999999) (disch:=omega) only [wq])))
      try (simp only [ijq,true_and,and_true];first|done|omega|(split <;> omega)|(simp;done)|(simp;omega))
    · have hb2:decide ((j:Int)<32)=false:=decide_eq_false (by omega)
      obtain rfl:j=32:=by omega
      have hC0:=InB.done hI HB.out hlt
      (repeat' (first|with_reducible (first|refine zA fun Kn hK=>?_|refine zB (by kernel_rfl) ?_|refine Nx.go ?_|go_step)|fail|with_reducible (first|refine zI ?_|refine zJ ?_|refine zK ?_ ?_|refine zL ?_ ?_|refine zR (by kernel_rfl) ?_)|simp (maxSteps:=9999999) (disch:=omega) only [wq]|(with_reducible refine zM (fun hb=>?_) (fun hb=>?_) <;> (try simp only [hb]))|(with_reducible refine And.intro (by first|omega|(simp;done)|(simp;omega)) ?_)|simp (maxSteps:=9999999) (implicitDefEqProofs:=false) only [go_sem,hb2]|fail))
      refine sound_loopR (fun x:{p:Nat × List UInt8 × Nat // InC A B Cn i p}=>⟨[(3,vP 3 0),(4,vP 4 0),(5,vP 5 0),(6,vP 6 0),(7,vP 7 0),(19,.a (.agg ((a.map bD).map C.d))),(20,vI i),(10,vI x.1.2.2),(14,vI x.1.1)],[(3,some ⟨39,(a.map bD).map C.d,true,false⟩),(4,some ⟨39,(b.map bD).map C.d,true,false⟩),(5,some ⟨39,(c.map bD).map C.d,true,false⟩),(6,some ⟨39,zeroOf Tryz.prog 39,true,false⟩),(7,some ⟨132,(x.1.2.1.map bD).map C.d,true,false⟩)]⟩) (fun x=>64-x.1.1) ⟨(i+32,r,cy),hC0⟩ [] (by (iterate 2 ((try simp (maxSteps:=9999999) (implicitDefEqProofs:=false) only [go_sem,true_and]);(try simp (maxSteps:=9999999) (disch:=omega) only [wq])));try simp) (fun ⟨⟨k,r,cy⟩,hI⟩=>?_)
      obtain ⟨hk,hrl,hcy,_⟩:=id hI
      dsimp only at hk hrl hcy
      by_cases hc0:0<cy
      · have hb3:decide ((cy:Int)>0)=true:=decide_eq_true (by omega)
        have hk64:=InC.lt hI HB.out HC.out hlt hc0
        obtain ⟨y,hy⟩: ∃ y,r[k]?=some y:=⟨_,List.getElem?_eq_getElem (by omega)⟩
        have hgy:=bytesC_get hy
        have hy8:y.toNat<256:=y.toNat_lt
        have hst:=InC.step (t:=y.toNat+cy) hI hk64 hy rfl
        have hsum:(y.toNat:Int)+(cy:Int)=((y.toNat+cy:Nat):Int):=by omega
        have hcs:=bytesC_set (l:=r) (k:=k) (v:=(y.toNat+cy)%256) (Nat.mod_lt _ (by omega))
        generalize hT:y.toNat+cy=T at *
        (repeat' (first|with_reducible (first|refine zA fun Kn hK=>?_|refine zB (by kernel_rfl) ?_|refine Nx.go ?_|go_step)|fail|with_reducible (first|refine zI ?_|refine zJ ?_|refine zK ?_ ?_|refine zL ?_ ?_|refine zR (by kernel_rfl) ?_)|simp (maxSteps:=9999999) (disch:=omega) only [wq]|(with_reducible refine zM (fun hb=>?_) (fun hb=>?_) <;> (try simp only [hb]))|(with_reducible refine And.intro (by first|omega|(simp;done)|(simp;omega)) ?_)|simp (maxSteps:=9999999) (implicitDefEqProofs:=false) only [go_sem,hb3,hgy,hsum,hcs,wrap8_nat,shr_8,pow_8,List.length_map,hrl]|fail))
        refine ⟨[],⟨(k+1,r.set k (UInt8.ofNat (T%256)),T/256),hst⟩,?_⟩
        (iterate 2 ((try simp (maxSteps:=9999999) (implicitDefEqProofs:=false) only [go_sem,true_and]);(try simp (maxSteps:=9999999) (disch:=omega) only [wq])))
        try (simp only [ijq,true_and,and_true];first|done|omega|(split <;> omega)|(simp;done)|(simp;omega))
      · have hb3:decide ((cy:Int)>0)=false:=decide_eq_false (by omega)
        obtain rfl:cy=0:=by omega
        have hn:=InC.done hI
        (repeat' (first|with_reducible (first|refine zA fun Kn hK=>?_|refine zB (by kernel_rfl) ?_|refine Nx.go ?_|go_step)|fail|with_reducible (first|refine zI ?_|refine zJ ?_|refine zK ?_ ?_|refine zL ?_ ?_|refine zR (by kernel_rfl) ?_)|simp (maxSteps:=9999999) (disch:=omega) only [wq]|(with_reducible refine zM (fun hb=>?_) (fun hb=>?_) <;> (try simp only [hb]))|(with_reducible refine And.intro (by first|omega|(simp;done)|(simp;omega)) ?_)|simp (maxSteps:=9999999) (implicitDefEqProofs:=false) only [go_sem,hb3]|fail))
        refine ⟨[],⟨(i+1,r),by omega,hn⟩,?_⟩
        (iterate 2 ((try simp (maxSteps:=9999999) (implicitDefEqProofs:=false) only [go_sem,true_and]);(try simp (maxSteps:=9999999) (disch:=omega) only [wq])))
        try (simp only [ijq,true_and,and_true];first|done|omega|(split <;> omega)|(simp;done)|(simp;omega))
  · have hb1:decide ((i:Int)<32)=false:=decide_eq_false (by omega)
    obtain rfl:i=32:=by omega
    have hRr:=hR r hrl
    rw [hr.2,hend,hrl,hout] at hRr
    obtain ⟨r1,r2,r3⟩:=cd_facts (l:=r.map bD) (n:=65) (by rw [List.length_map];exact hrl)
    obtain ⟨o1,o2,o3⟩:=cd_facts (l:=out.map bD) (n:=32) (by rw [List.length_map];exact hln)
    (repeat' (first|with_reducible (first|refine zA fun Kn hK=>?_|refine zB (by kernel_rfl) ?_|refine Nx.go ?_|go_step)|(refine ⟨none,?_⟩)|(refine ⟨_,hRr,?_⟩)|with_reducible (first|refine zI ?_|refine zJ ?_|refine zK ?_ ?_|refine zL ?_ ?_|refine zR (by kernel_rfl) ?_)|simp (maxSteps:=9999999) (disch:=omega) only [wq]|(with_reducible refine zM (fun hb=>?_) (fun hb=>?_) <;> (try simp only [hb]))|(with_reducible refine And.intro (by first|omega|(simp;done)|(simp;omega)) ?_)|simp (maxSteps:=9999999) (implicitDefEqProofs:=false) only [go_sem,hb1,List.length_map,List.length_replicate,List.drop_replicate,hrl,hln,r1,r2,r3,o1,o2,o3,List.append_nil]|fail))
end Go.Proofs.YtdakeodebgggfaaGreatDoor
namespace Go.Proofs.YtdakeodebgggfaaGreatDoor
open Go.RowKit
theorem refmulAdd_o {G:Nat→Option (List D)} (a b c:List UInt8) (la:a.length=32) (lb:b.length=32) (lc:c.length=32):Spec Tryz.prog G 34 [.c (bytesD a),.c (bytesD b),.c (bytesD c)] (.obj 92 (.a (.c (.row 92 1 0 32 .grow))) ⟨5,((leB (maF a b c)).map bD).map C.d,false,false⟩):=by
  have h1:=digits_m (G:=G) a (by omega)
  have h2:=digits_m (G:=G) b (by omega)
  have h3:=digits_m (G:=G) c (by omega)
  obtain ⟨va,za,ka,ja⟩:=rawO_val a
  obtain ⟨vb,zb,kb,jb⟩:=rawO_val b
  obtain ⟨vc,zc,kc,jc⟩:=rawO_val c
  have hla:(rawO a).length=16:=by omega
  have hlb:(rawO b).length=16:=by omega
  have hlc:(rawO c).length=16:=by omega
  have hrest:=fun (r:List Nat) h1 h2=>refrest_o (G:=G) r 34 h1 (by omega) h2
  have hend:(vV (rawO c)+vV (rawO a)*vV (rawO b))%lQ=maF a b c:=by rw [va,vb,vc,maF,Nat.add_comm]
  have hbig:vV (rawO c)+vV (rawO a)*vV (rawO b)<65536^34:=by
    have h4:=vV_lt za
    have h5:=vV_lt zb
    have h6:=vV_lt zc
    rw [hla] at h4
    rw [hlb] at h5
    rw [hlc] at h6
    have h7:vV (rawO a)*vV (rawO b)≤65536^16*65536^16:=Nat.mul_le_mul (by omega) (by omega)
    have h8:(65536^16+65536^16*65536^16:Nat)<65536^34:=by decide +kernel
    exact Nat.lt_of_le_of_lt (Nat.add_le_add (Nat.le_of_lt h6) h7) h8
  unfold wordsD at h1 h2 h3
  rw [hla] at h1
  rw [hlb] at h2
  rw [hlc] at h3
  clear va vb vc ka kb kc ja jb jc
  generalize maF a b c=M at *
  generalize rawO a=A at *
  generalize rawO b=B at *
  generalize rawO c=Cc at *
  have HB:=Lib.hid hbig
  clear hbig
  have hz0:InU A B Cc (0,List.replicate 34 0):=⟨Nat.zero_le _,List.length_replicate,fun y hy=>by rw [List.eq_of_mem_replicate hy];exact Nat.zero_le _,by rw [zeros_val,List.take_zero,List.take_zero,vV,Nat.zero_mul]⟩
  have hz34:(List.replicate 34 [C.d (D.v (.int .u64 0))]).flatten=((List.replicate 34 0).map nD).map C.d:=rfl
  refine specO_go Tryz.func34 rfl rfl rfl (by kernel_rfl) (by (iterate 2 ((try simp (maxSteps:=9999999) (implicitDefEqProofs:=false) only [go_sem,true_and]);(try simp (maxSteps:=9999999) (disch:=omega) only [wq])))) (by (iterate 2 ((try simp (maxSteps:=9999999) (implicitDefEqProofs:=false) only [go_sem,List.all_cons,List.all_nil]);(try simp (maxSteps:=9999999) (disch:=omega) only [wq])))) fun K m=>?_
  (repeat' (first|with_reducible (first|refine zA fun Kn hK=>?_|refine zB (by kernel_rfl) ?_|refine Nx.go ?_|go_step)|(refine ⟨_,h1,?_⟩)|(refine ⟨_,h2,?_⟩)|(refine ⟨_,h3,?_⟩)|with_reducible (first|refine zI ?_|refine zJ ?_|refine zK ?_ ?_|refine zL ?_ ?_|refine zR (by kernel_rfl) ?_)|simp (maxSteps:=9999999) (disch:=omega) only [wq]|(with_reducible refine zM (fun hb=>?_) (fun hb=>?_) <;> (try simp only [hb]))|(with_reducible refine And.intro (by first|omega|(simp;done)|(simp;omega)) ?_)|simp (maxSteps:=9999999) (implicitDefEqProofs:=false) only [go_sem,hz34,List.length_map]|fail))
  refine sound_loopR (fun x:{p:Nat × List Nat // InU A B Cc p}=>⟨[(7,vD (.sl 16 (A.map nD))),(8,vD (.sl 16 (B.map nD))),(9,vD (.sl 16 (Cc.map nD))),(10,.a (.c (.row 21 1 0 34 (.ex 34)))),(11,vI x.1.1)],[(21,some ⟨59,(x.1.2.map nD).map C.d,true,false⟩)]⟩) (fun x=>16-x.1.1) ⟨(0,List.replicate 34 0),hz0⟩ [] (by (iterate 2 ((try simp (maxSteps:=9999999) (implicitDefEqProofs:=false) only [go_sem,hz34]);(try simp (maxSteps:=9999999) (disch:=omega) only [wq])));try simp) (fun ⟨⟨i,r⟩,hI⟩=>?_)
  obtain ⟨hi,hrl,hr3,hr4⟩:=id hI
  dsimp only at hi hrl hr3 hr4
  by_cases hlt:i<16
  · have hb1:decide ((i:Int)<16)=true:=decide_eq_true (by omega)
    obtain ⟨y,hy⟩: ∃ y,Cc[i]?=some y:=⟨_,List.getElem?_eq_getElem (by omega)⟩
    have hgy:=numsD_get hy
    have hyl:=zc y (List.mem_of_getElem? hy)
    have hgr:=numsC_get (l:=r) (k:=i) (by omega)
    obtain ⟨hxl,hst⟩:=InV.zero hI hlt hlc (by rw [List.getD_eq_getElem?_getD,hy];rfl) hyl
    have hT:(r.getD i 0+y)%18446744073709551616=r.getD i 0+y:=Nat.mod_eq_of_lt (by omega)
    (repeat' (first|with_reducible (first|refine zA fun Kn hK=>?_|refine zB (by kernel_rfl) ?_|refine Nx.go ?_|go_step)|fail|with_reducible (first|refine zI ?_|refine zJ ?_|refine zK ?_ ?_|refine zL ?_ ?_|refine zR (by kernel_rfl) ?_)|simp (maxSteps:=9999999) (disch:=omega) only [wq]|(with_reducible refine zM (fun hb=>?_) (fun hb=>?_) <;> (try simp only [hb]))|(with_reducible refine And.intro (by first|omega|(simp;done)|(simp;omega)) ?_)|simp (maxSteps:=9999999) (implicitDefEqProofs:=false) only [go_sem,hb1,hgy,hgr,hT,List.length_map,hrl,hlc]|fail))
    refine sound_loopR (fun x:{p:Nat × List Nat // InV A B Cc i p}=>⟨[(7,vD (.sl 16 (A.map nD))),(8,vD (.sl 16 (B.map nD))),(9,vD (.sl 16 (Cc.map nD))),(10,.a (.c (.row 21 1 0 34 (.ex 34)))),(11,vI i),(12,vI x.1.1)],[(21,some ⟨59,(x.1.2.map nD).map C.d,true,false⟩)]⟩) (fun x=>16-x.1.1) ⟨(0,r.set i (r.getD i 0+y)),hst⟩ [] (by (iterate 2 ((try simp (maxSteps:=9999999) (implicitDefEqProofs:=false) only [go_sem,true_and]);(try simp (maxSteps:=9999999) (disch:=omega) only [wq])));try simp) (fun ⟨⟨k,r⟩,hI⟩=>?_)
    obtain ⟨hk,hrl,hr3,hr4,hr5⟩:=id hI
    dsimp only at hk hrl hr3 hr4 hr5
    by_cases hlk:k<16
    · have hb2:decide ((k:Int)<16)=true:=decide_eq_true (by omega)
      have hga:=numsD_get (get_of (l:=A) (k:=i) (by omega))
      have hgb:=numsD_get (get_of (l:=B) (k:=k) (by omega))
      have hgr:=numsC_get (l:=r) (k:=i+k) (by omega)
      have hxi:=(all_getD (by omega)).1 za i (by omega)
      have hyk:=(all_getD (by omega)).1 zb k (by omega)
      have hpl:A.getD i 0*B.getD k 0≤65535*65535:=Nat.mul_le_mul (by omega) (by omega)
      obtain ⟨hrl2,hst⟩:=InV.step hI hlt hlk hlb rfl hpl
      generalize hp:A.getD i 0*B.getD k 0=p at *
      have hT1:p%18446744073709551616=p:=Nat.mod_eq_of_lt (by omega)
      have hT:(r.getD (i+k) 0+p)%18446744073709551616=r.getD (i+k) 0+p:=Nat.mod_eq_of_lt (by omega)
      have hij:((i:Int)+(k:Int)).toNat=i+k:=by omega
      (repeat' (first|with_reducible (first|refine zA fun Kn hK=>?_|refine zB (by kernel_rfl) ?_|refine Nx.go ?_|go_step)|fail|with_reducible (first|refine zI ?_|refine zJ ?_|refine zK ?_ ?_|refine zL ?_ ?_|refine zR (by kernel_rfl) ?_)|simp (maxSteps:=9999999) (disch:=omega) only [wq]|(with_reducible refine zM (fun hb=>?_) (fun hb=>?_) <;> (try simp only [hb]))|(with_reducible refine And.intro (by first|omega|(simp;done)|(simp;omega)) ?_)|simp (maxSteps:=9999999) (implicitDefEqProofs:=false) only [go_sem,hb2,hga,hgb,hgr,hp,hT1,hT,hij,List.length_map,hrl,hla,hlb]|fail))
      refine ⟨[],⟨(k+1,r.set (i+k) (r.getD (i+k) 0+p)),hst⟩,?_⟩
      (iterate 2 ((try simp (maxSteps:=9999999) (implicitDefEqProofs:=false) only [go_sem,true_and]);(try simp (maxSteps:=9999999) (disch:=omega) only [wq])))
      try (simp only [ijq,true_and,and_true];first|done|omega|(split <;> omega)|(simp;done)|(simp;omega))
      try omega
    · have hb2:decide ((k:Int)<16)=false:=decide_eq_false (by omega)
      obtain rfl:k=16:=by omega
      have hn:=InV.done hI hlt hla hlb
      (repeat' (first|with_reducible (first|refine zA fun Kn hK=>?_|refine zB (by kernel_rfl) ?_|refine Nx.go ?_|go_step)|fail|with_reducible (first|refine zI ?_|refine zJ ?_|refine zK ?_ ?_|refine zL ?_ ?_|refine zR (by kernel_rfl) ?_)|simp (maxSteps:=9999999) (disch:=omega) only [wq]|(with_reducible refine zM (fun hb=>?_) (fun hb=>?_) <;> (try simp only [hb]))|(with_reducible refine And.intro (by first|omega|(simp;done)|(simp;omega)) ?_)|simp (maxSteps:=9999999) (implicitDefEqProofs:=false) only [go_sem,hb2]|fail))
      refine ⟨[],⟨(i+1,r),hn⟩,?_⟩
      (iterate 2 ((try simp (maxSteps:=9999999) (implicitDefEqProofs:=false) only [go_sem,true_and]);(try simp (maxSteps:=9999999) (disch:=omega) only [wq])))
      try (simp only [ijq,true_and,and_true];first|done|omega|(split <;> omega)|(simp;done)|(simp;omega))
      try omega
  have hb1:decide ((i:Int)<16)=false:=decide_eq_false (by omega)
  obtain rfl:i=16:=by omega
  rw [take16 hla,take16 hlc] at hr4
  have hin: ∀ z∈r,z<1152921504606846976:=fun z hz=>by have:=hr3 z hz;omega
  (repeat' (first|with_reducible (first|refine zA fun Kn hK=>?_|refine zB (by kernel_rfl) ?_|refine Nx.go ?_|go_step)|fail|with_reducible (first|refine zI ?_|refine zJ ?_|refine zK ?_ ?_|refine zL ?_ ?_|refine zR (by kernel_rfl) ?_)|simp (maxSteps:=9999999) (disch:=omega) only [wq]|(with_reducible refine zM (fun hb=>?_) (fun hb=>?_) <;> (try simp only [hb]))|(with_reducible refine And.intro (by first|omega|(simp;done)|(simp;omega)) ?_)|simp (maxSteps:=9999999) (implicitDefEqProofs:=false) only [go_sem,hb1]|fail))
  refine sound_loopR (fun x:{p:Nat × List Nat × Nat // InE r p}=>⟨[(10,.a (.c (.row 21 1 0 34 (.ex 34)))),(13,.a (.c (.d (nD x.1.2.2)))),(64,vI 34),(65,vI x.1.1)],[(21,some ⟨59,(x.1.2.1.map nD).map C.d,true,false⟩)]⟩) (fun x=>34-x.1.1) ⟨(0,r,0),InE.zero⟩ [] (by (iterate 2 ((try simp (maxSteps:=9999999) (implicitDefEqProofs:=false) only [go_sem,true_and]);(try simp (maxSteps:=9999999) (disch:=omega) only [wq])));try simp [nD]) (fun ⟨⟨k,s,cy⟩,hI2⟩=>?_)
  obtain ⟨hk,hsl,hcy,_⟩:=id hI2
  dsimp only at hk hsl hcy
  rw [hrl] at hk hsl
  by_cases hlk:k<34
  · have hb2:decide ((k:Int)<34)=true:=decide_eq_true (by omega)
    have hg1:=numsC_get (l:=s) (k:=k) (by omega)
    obtain ⟨hT1,hst⟩:=InE.step (t:=s.getD k 0+cy) hI2 (by omega) hin rfl rfl
    have hT2:(s.getD k 0+cy)%18446744073709551616=s.getD k 0+cy:=Nat.mod_eq_of_lt (by omega)
    have hg2:=numsC_new (l:=s) (k:=k) (v:=s.getD k 0+cy) (by omega)
    generalize hTe:s.getD k 0+cy=T at *
    have hq:T/65536%18446744073709551616=T/65536:=Nat.mod_eq_of_lt (by omega)
    have hm:T%65536%18446744073709551616=T%65536:=Nat.mod_eq_of_lt (by omega)
    (repeat' (first|with_reducible (first|refine zA fun Kn hK=>?_|refine zB (by kernel_rfl) ?_|refine Nx.go ?_|go_step)|fail|with_reducible (first|refine zI ?_|refine zJ ?_|refine zK ?_ ?_|refine zL ?_ ?_|refine zR (by kernel_rfl) ?_)|simp (maxSteps:=9999999) (disch:=omega) only [wq]|(with_reducible refine zM (fun hb=>?_) (fun hb=>?_) <;> (try simp only [hb]))|(with_reducible refine And.intro (by first|omega|(simp;done)|(simp;omega)) ?_)|simp (maxSteps:=9999999) (implicitDefEqProofs:=false) only [go_sem,hb2,hg1,hg2,hTe,hT2,hq,hm,wrap_nat,List.set_set,List.length_map,List.length_set,hsl]|fail))
    refine ⟨[],⟨(k+1,s.set k (T%65536),T/65536),hst⟩,?_⟩
    (iterate 2 ((try simp (maxSteps:=9999999) (implicitDefEqProofs:=false) only [go_sem,true_and]);(try simp (maxSteps:=9999999) (disch:=omega) only [wq])))
    try (simp only [ijq,true_and,and_true];first|done|omega|(split <;> omega)|(simp;done)|(simp;omega))
    try omega
  have hb2:decide ((k:Int)<34)=false:=decide_eq_false (by omega)
  obtain rfl:k=34:=by omega
  rw [← hrl] at hI2
  obtain ⟨hs1,hs2,hs3⟩:=InE.done hI2 (by rw [hr4,hrl];exact HB.out)
  have hre:=hrest s hsl hs1
  rw [hs3,hr4,hend] at hre
  obtain ⟨u1,u2,u3⟩:=cd_facts (l:=s.map nD) (n:=34) (by rw [List.length_map];exact hsl)
  (repeat' (first|with_reducible (first|refine zA fun Kn hK=>?_|refine zB (by kernel_rfl) ?_|refine Nx.go ?_|go_step)|(refine ⟨none,?_⟩)|(refine ⟨_,hre,?_⟩)|(refine raw_t (by rfl) (by rfl) (by rfl))|with_reducible (first|refine zI ?_|refine zJ ?_|refine zK ?_ ?_|refine zL ?_ ?_|refine zR (by kernel_rfl) ?_)|simp (maxSteps:=9999999) (disch:=omega) only [wq]|(with_reducible refine zM (fun hb=>?_) (fun hb=>?_) <;> (try simp only [hb]))|(with_reducible refine And.intro (by first|omega|(simp;done)|(simp;omega)) ?_)|simp (maxSteps:=9999999) (implicitDefEqProofs:=false) only [go_sem,hb2,u1,u2,u3,List.length_map,hsl]|fail))
end Go.Proofs.YtdakeodebgggfaaGreatDoor
namespace Go.Proofs.YtdakeodebgggfaaGreatDoor
open Go.RowKit
section
variable {G:Nat→Option (List D)}
theorem refD_w {a b c e f:F} (h1:Spec Tryz.prog G 58 [.c (.v (.int .u64 121665))] (.one (.g ((refC a).map nD))))
    (h2:Spec Tryz.prog G 94 [.g ((refC a).map nD)] (.one (.g ((refC b).map nD))))
    (h3:Spec Tryz.prog G 58 [.c (.v (.int .u64 121666))] (.one (.g ((refC c).map nD))))
    (h4:Spec Tryz.prog G 60 [.g ((refC c).map nD)] (.one (.g ((refC e).map nD))))
    (h5:Spec Tryz.prog G 59 [.g ((refC b).map nD),.g ((refC e).map nD)] (.one (.g ((refC f).map nD)))) :
    Spec Tryz.prog G 62 [] (.one (.g ((refC f).map nD))):=by
  have hlen:=refC_len
  have c1:=fun (y:F)=>(cd_facts (l:=(refC y).map nD) (n:=16) (by rw [List.length_map];exact hlen y)).1
  have c2:=fun (y:F)=>(cd_facts (l:=(refC y).map nD) (n:=16) (by rw [List.length_map];exact hlen y)).2.1
  have c3:=fun (y:F)=>(cd_facts (l:=(refC y).map nD) (n:=16) (by rw [List.length_map];exact hlen y)).2.2
  refine spec_of Tryz.func62 rfl rfl rfl (by kernel_rfl) rfl fun K=>?_
  (repeat' (first|with_reducible (first|refine zA fun Kn hK=>?_|refine zB (by kernel_rfl) ?_|refine Nx.go ?_|go_step)|(refine ⟨_,h1,?_⟩)|(refine ⟨_,h2,?_⟩)|(refine ⟨_,h3,?_⟩)|(refine ⟨_,h4,?_⟩)|(refine ⟨_,h5,?_⟩)|with_reducible (first|refine zI ?_|refine zJ ?_|refine zK ?_ ?_|refine zL ?_ ?_|refine zR (by kernel_rfl) ?_)|simp (maxSteps:=9999999) (disch:=omega) only [wq]|(with_reducible refine zM (fun hb=>?_) (fun hb=>?_) <;> (try simp only [hb]))|(with_reducible refine And.intro (by first|omega|(simp;done)|(simp;omega)) ?_)|simp (maxSteps:=9999999) (implicitDefEqProofs:=false) only [go_sem,c1,c2,c3,hlen,List.length_map,List.length_replicate,List.drop_replicate,List.append_nil]|fail))
theorem refD_m:Spec Tryz.prog G 62 [] (.one (.g ((refC dF).map nD))):=by
  have hm:=refmul_m (G:=G) (-(toF 121665)) (finv (toF 121666))
  rw [← negF,dF_is] at hm
  have hn:=refneg_m (G:=G) (toF 121665)
  rw [← negF] at hn
  exact refD_w (refof_m 121665 (by omega)) hn (refof_m 121666 (by omega)) (refinv_m _) hm
end
end Go.Proofs.YtdakeodebgggfaaGreatDoor
namespace Go.Proofs.YtdakeodebgggfaaGreatDoor
open Go.RowKit
def rD1 (x:F):List D:=(refC x).map nD
theorem rD1_len (x:F):(rD1 x).length=16:=by rw [rD1,List.length_map,refC_len]
def rC1 (x:F):List C:=(rD1 x).map C.d
theorem rC1_len (x:F):(rC1 x).length=16:=by rw [rC1,List.length_map,rD1_len]
section
variable {α:Type} {A B:List α}
theorem tk16 (h:A.length=16):(A++B).take 16=A:=List.take_left' h
theorem dp16 (h:A.length=16):(A++B).drop 16=B:=List.drop_left' h
theorem tk32 (h:A.length=16):(A++B).take 32=A++B.take 16:=by rw [List.take_append,h,List.take_of_length_le (by omega)]
theorem tk48 (h:A.length=16):(A++B).take 48=A++B.take 32:=by rw [List.take_append,h,List.take_of_length_le (by omega)]
theorem dp32 (h:A.length=16):(A++B).drop 32=B.drop 16:=by rw [List.drop_append,h,List.drop_of_length_le (by omega)];rfl
theorem dp48 (h:A.length=16):(A++B).drop 48=B.drop 32:=by rw [List.drop_append,h,List.drop_of_length_le (by omega)];rfl
end
def p3D (x y z:F):List D:=rD1 x++(rD1 y++rD1 z)
theorem p3D_len (x y z:F):(p3D x y z).length=48:=by simp [p3D,rD1_len]
theorem rep48:List.replicate 48 (C.d (.v (.int .u64 0)))=rC1 0++(rC1 0++rC1 0):=by
  have h:rC1 0=List.replicate 16 (C.d (.v (.int .u64 0))):=by rw [rC1,rD1,refC_zero];rfl
  rw [h]
  rfl
end Go.Proofs.YtdakeodebgggfaaGreatDoor
namespace Go.Proofs.YtdakeodebgggfaaGreatDoor
open Go.RowKit
section
variable {G:Nat→Option (List D)}
theorem rzero_m:Spec Tryz.prog G 63 [] (.one (.g (p3D 0 1 1))):=by
  have h1:Spec Tryz.prog G 58 [.c (.v (.int .u64 1))] (.one (.g (rD1 1))):=refof_m 1 (by omega)
  have l1:=rD1_len
  have l2:=rC1_len
  have e1: ∀ x,(rD1 x).map C.d=rC1 x:=fun _=>rfl
  have t1:=fun (x:F) (B:List C)=>tk16 (B:=B) (rC1_len x)
  have t2:=fun (x:F) (B:List C)=>tk32 (B:=B) (rC1_len x)
  have t3:=fun (x:F) (B:List C)=>tk48 (B:=B) (rC1_len x)
  have d1:=fun (x:F) (B:List C)=>dp16 (B:=B) (rC1_len x)
  have d2:=fun (x:F) (B:List C)=>dp32 (B:=B) (rC1_len x)
  have d3:=fun (x:F) (B:List C)=>dp48 (B:=B) (rC1_len x)
  have s1:=fun (x:F)=>(cd_facts (rD1_len x)).1
  have s2:=fun (x:F)=>(cd_facts (rD1_len x)).2.1
  have s3:=fun (x:F)=>(cd_facts (rD1_len x)).2.2
  simp only [e1] at s2 s3
  have dn: ∀ x,dOnly (rC1 x)=some (rD1 x):=fun x=>by simp only [rC1,go_sem]
  refine spec_of Tryz.func63 rfl rfl rfl (by kernel_rfl) rfl fun K=>?_
  (repeat' (first|with_reducible (first|refine zA fun Kn hK=>?_|refine zB (by kernel_rfl) ?_|refine Nx.go ?_|go_step)|(refine ⟨_,h1,?_⟩)|with_reducible (first|refine zI ?_|refine zJ ?_|refine zK ?_ ?_|refine zL ?_ ?_|refine zR (by kernel_rfl) ?_)|simp (maxSteps:=9999999) (disch:=omega) only [wq]|(with_reducible refine zM (fun hb=>?_) (fun hb=>?_) <;> (try simp only [hb]))|(with_reducible refine And.intro (by first|omega|(simp;done)|(simp;omega)) ?_)|simp (maxSteps:=9999999) (implicitDefEqProofs:=false) only [go_sem,rep48,dn,p3D,Option.bind_some,Option.map_some,e1,l1,l2,t1,t2,t3,d1,d2,d3,s1,s2,s3,List.length_append,List.append_assoc,List.append_nil]|fail))
end
end Go.Proofs.YtdakeodebgggfaaGreatDoor
namespace Go.Proofs.YtdakeodebgggfaaGreatDoor
open Go.RowKit
section
variable {G:Nat→Option (List D)}
def rX (x1 y1 z1 x2 y2 z2 k:F):F:=z1*z2*(z1*z2*(z1*z2)-k*(x1*x2)*(y1*y2))*((x1+y1)*(x2+y2)-x1*x2-y1*y2)
def rY (x1 y1 z1 x2 y2 z2 k:F):F:=z1*z2*(z1*z2*(z1*z2)+k*(x1*x2)*(y1*y2))*(y1*y2+x1*x2)
def rZ (x1 y1 z1 x2 y2 z2 k:F):F:=(z1*z2*(z1*z2)-k*(x1*x2)*(y1*y2))*(z1*z2*(z1*z2)+k*(x1*x2)*(y1*y2))
theorem radd_m (x1 y1 z1 x2 y2 z2 k:F):Spec Tryz.prog G 64 [.g (p3D x1 y1 z1),.g (p3D x2 y2 z2),.g (rD1 k)] (.one (.g (p3D (rX x1 y1 z1 x2 y2 z2 k) (rY x1 y1 z1 x2 y2 z2 k) (rZ x1 y1 z1 x2 y2 z2 k)))):=by
  have hm: ∀ x y:F,Spec Tryz.prog G 59 [.g (rD1 x),.g (rD1 y)] (.one (.g (rD1 (x*y)))):=fun x y=>refmul_m x y
  have ha: ∀ x y:F,Spec Tryz.prog G 102 [.g (rD1 x),.g (rD1 y)] (.one (.g (rD1 (x+y)))):=fun x y=>refadd_m x y
  have hs: ∀ x y:F,Spec Tryz.prog G 103 [.g (rD1 x),.g (rD1 y)] (.one (.g (rD1 (x-y)))):=fun x y=>refsub_m x y
  have l1:=rD1_len
  have l2:=rC1_len
  have e1: ∀ x,(rD1 x).map C.d=rC1 x:=fun _=>rfl
  have t1:=fun (x:F) (B:List C)=>tk16 (B:=B) (rC1_len x)
  have t2:=fun (x:F) (B:List C)=>tk32 (B:=B) (rC1_len x)
  have t3:=fun (x:F) (B:List C)=>tk48 (B:=B) (rC1_len x)
  have d1:=fun (x:F) (B:List C)=>dp16 (B:=B) (rC1_len x)
  have d2:=fun (x:F) (B:List C)=>dp32 (B:=B) (rC1_len x)
  have d3:=fun (x:F) (B:List C)=>dp48 (B:=B) (rC1_len x)
  have s1:=fun (x:F)=>(cd_facts (rD1_len x)).1
  have s2:=fun (x:F)=>(cd_facts (rD1_len x)).2.1
  have s3:=fun (x:F)=>(cd_facts (rD1_len x)).2.2
  simp only [e1] at s2 s3
  have dn: ∀ x,dOnly (rC1 x)=some (rD1 x):=fun x=>by simp only [rC1,go_sem]
  have r16:List.replicate 16 (C.d (.v (.int .u64 0)))=rC1 0:=by rw [rC1,rD1,refC_zero];rfl
  unfold p3D
  refine spec_of Tryz.func64 rfl rfl rfl (by kernel_rfl) rfl fun K=>?_
  (repeat' (first|with_reducible (first|refine zA fun Kn hK=>?_|refine zB (by kernel_rfl) ?_|refine Nx.go ?_|go_step)|(refine ⟨_,hm _ _,?_⟩)|(refine ⟨_,ha _ _,?_⟩)|(refine ⟨_,hs _ _,?_⟩)|with_reducible (first|refine zI ?_|refine zJ ?_|refine zK ?_ ?_|refine zL ?_ ?_|refine zR (by kernel_rfl) ?_)|simp (maxSteps:=9999999) (disch:=omega) only [wq]|(with_reducible refine zM (fun hb=>?_) (fun hb=>?_) <;> (try simp only [hb]))|(with_reducible refine And.intro (by first|omega|(simp;done)|(simp;omega)) ?_)|simp (maxSteps:=9999999) (implicitDefEqProofs:=false) only [go_sem,rep48,r16,dn,Option.bind_some,Option.map_some,e1,l1,l2,t1,t2,t3,d1,d2,d3,s1,s2,s3,List.map_append,List.length_append,List.append_assoc,List.append_nil]|fail))
  all_goals rfl
end
end Go.Proofs.YtdakeodebgggfaaGreatDoor
namespace Go.Proofs.YtdakeodebgggfaaGreatDoor
open Go.RowKit
section
variable {G:Nat→Option (List D)}
theorem rAdd_m (x1 y1 z1 x2 y2 z2:F):Spec Tryz.prog G 52 [.g (p3D x1 y1 z1),.g (p3D x2 y2 z2)] (.one (.g (p3D (rX x1 y1 z1 x2 y2 z2 dF) (rY x1 y1 z1 x2 y2 z2 dF) (rZ x1 y1 z1 x2 y2 z2 dF)))):=by
  have hd:Spec Tryz.prog G 62 [] (.one (.g (rD1 dF))):=refD_m
  have ha:=radd_m (G:=G) x1 y1 z1 x2 y2 z2 dF
  generalize rX x1 y1 z1 x2 y2 z2 dF=X at *
  generalize rY x1 y1 z1 x2 y2 z2 dF=Y at *
  generalize rZ x1 y1 z1 x2 y2 z2 dF=Z at *
  have l1:=rD1_len
  have l2:=rC1_len
  have e1: ∀ x,(rD1 x).map C.d=rC1 x:=fun _=>rfl
  have t1:=fun (x:F) (B:List C)=>tk16 (B:=B) (rC1_len x)
  have t2:=fun (x:F) (B:List C)=>tk32 (B:=B) (rC1_len x)
  have t3:=fun (x:F) (B:List C)=>tk48 (B:=B) (rC1_len x)
  have d1:=fun (x:F) (B:List C)=>dp16 (B:=B) (rC1_len x)
  have d2:=fun (x:F) (B:List C)=>dp32 (B:=B) (rC1_len x)
  have d3:=fun (x:F) (B:List C)=>dp48 (B:=B) (rC1_len x)
  have s1:=fun (x:F)=>(cd_facts (rD1_len x)).1
  have s2:=fun (x:F)=>(cd_facts (rD1_len x)).2.1
  have s3:=fun (x:F)=>(cd_facts (rD1_len x)).2.2
  simp only [e1] at s2 s3
  have dn: ∀ x,dOnly (rC1 x)=some (rD1 x):=fun x=>by simp only [rC1,go_sem]
  unfold p3D at ha ⊢
  refine spec_of Tryz.func52 rfl rfl rfl (by kernel_rfl) rfl fun K=>?_
  (repeat' (first|with_reducible (first|refine zA fun Kn hK=>?_|refine zB (by kernel_rfl) ?_|refine Nx.go ?_|go_step)|(refine ⟨_,hd,?_⟩)|(refine ⟨_,ha,?_⟩)|with_reducible (first|refine zI ?_|refine zJ ?_|refine zK ?_ ?_|refine zL ?_ ?_|refine zR (by kernel_rfl) ?_)|simp (maxSteps:=9999999) (disch:=omega) only [wq]|(with_reducible refine zM (fun hb=>?_) (fun hb=>?_) <;> (try simp only [hb]))|(with_reducible refine And.intro (by first|omega|(simp;done)|(simp;omega)) ?_)|simp (maxSteps:=9999999) (implicitDefEqProofs:=false) only [go_sem,rep48,dn,Option.bind_some,Option.map_some,e1,l1,l2,t1,t2,t3,d1,d2,d3,s1,s2,s3,List.map_append,List.length_append,List.append_assoc,List.append_nil]|fail))
end
end Go.Proofs.YtdakeodebgggfaaGreatDoor
namespace Go.Proofs.YtdakeodebgggfaaGreatDoor
open Go.RowKit
theorem refbytes_o {G:Nat→Option (List D)} (x:F):Spec Tryz.prog G 65 [.g ((refC x).map nD)] (.obj 1000 (.a (.c (.row 1000 1 0 32 .grow))) ⟨5,((leB x.val).map bD).map C.d,false,false⟩):=by
  have hst: ∀ k,k<16→(leB x.val).take (2*(k+1))=(leB x.val).take (2*k)++[UInt8.ofNat ((refC x).getD k 0%256),UInt8.ofNat ((refC x).getD k 0/256)]:=fun k hk=>by
    rcases le_two x.val hk with h|h
    · rw [toF_self] at h
      exact h
    · exact absurd x.isLt h
  have hl32:=leB_len x.val
  have hla:=refC_len x
  have hlt:=refC_lt x
  generalize refC x=a at *
  generalize leB x.val=B at *
  obtain ⟨a1,a2,a3⟩:=cd_facts (l:=a.map nD) (n:=16) (by rw [List.length_map];exact hla)
  refine specO_go Tryz.func65 rfl rfl rfl (by kernel_rfl) (by (iterate 2 ((try simp (maxSteps:=9999999) (implicitDefEqProofs:=false) only [go_sem,true_and]);(try simp (maxSteps:=9999999) (disch:=omega) only [wq])))) (by (iterate 2 ((try simp (maxSteps:=9999999) (implicitDefEqProofs:=false) only [go_sem,List.all_cons,List.all_nil]);(try simp (maxSteps:=9999999) (disch:=omega) only [wq])))) fun K m=>?_
  (repeat' (first|with_reducible (first|refine zA fun Kn hK=>?_|refine zB (by kernel_rfl) ?_|refine Nx.go ?_|go_step)|fail|with_reducible (first|refine zI ?_|refine zJ ?_|refine zK ?_ ?_|refine zL ?_ ?_|refine zR (by kernel_rfl) ?_)|simp (maxSteps:=9999999) (disch:=omega) only [wq]|(with_reducible refine zM (fun hb=>?_) (fun hb=>?_) <;> (try simp only [hb]))|(with_reducible refine And.intro (by first|omega|(simp;done)|(simp;omega)) ?_)|simp (maxSteps:=9999999) (implicitDefEqProofs:=false) only [go_sem,List.length_map,List.length_replicate,List.drop_replicate,List.take_replicate,hla,a1,a2,a3,List.append_nil]|fail))
  refine sound_grow 3 5 1 0 0 (by rfl) (by rfl) (by rfl) (by rfl) ?_
  refine sound_trim 5 0 (by rfl) ?_
  refine sound_loopR (fun x:{k:Nat // k≤16}=>⟨[(1,vP 1 0),(3,vR 1000 1 (2*x.1)),(4,vI x.1)],[(1,some ⟨61,(a.map nD).map C.d,true,false⟩),(1000,some ⟨5,((B.take (2*x.1)).map bD).map C.d,false,false⟩)]⟩) (fun x=>16-x.1) ⟨0,Nat.zero_le _⟩ [(1000,5)] (by (iterate 2 ((try simp (maxSteps:=9999999) (implicitDefEqProofs:=false) only [go_sem,AObj.trim,List.take_zero]);(try simp (maxSteps:=9999999) (disch:=omega) only [wq])));try simp) (fun ⟨k,hk⟩=>?_)
  have hBl:(B.take (2*k)).length=2*k:=by rw [List.length_take];omega
  by_cases hlk:k<16
  · have hb1:decide ((k:Int)<16)=true:=decide_eq_true (by omega)
    have hg:=numsC_get (l:=a) (k:=k) (by omega)
    have hs:=hst k hlk
    have hdl:=(all_getD (by omega)).1 hlt k (by omega)
    generalize a.getD k 0=d at *
    have hc:((B.take (2*(k+1))).map bD).map C.d=((B.take (2*k)).map bD).map C.d++[C.d (D.v (.int .u8 ((d%256:Nat):Int))),C.d (D.v (.int .u8 ((d/256:Nat):Int)))]:=by
      rw [hs,List.map_append,List.map_append]
      simp only [List.map_cons,List.map_nil,bD]
      rw [UInt8.toNat_ofNat_of_lt' (by simp only [UInt8.size];omega),UInt8.toNat_ofNat_of_lt' (by simp only [UInt8.size];omega)]
    have h1:d%256%18446744073709551616=d%256:=Nat.mod_eq_of_lt (by omega)
    have h2:d/256%18446744073709551616=d/256:=Nat.mod_eq_of_lt (by omega)
    have h3:d/256%256=d/256:=Nat.mod_eq_of_lt (by omega)
    (repeat' (first|with_reducible (first|refine zA fun Kn hK=>?_|refine zB (by kernel_rfl) ?_|refine Nx.go ?_|go_step)|fail|with_reducible (first|refine zI ?_|refine zJ ?_|refine zK ?_ ?_|refine zL ?_ ?_|refine zR (by kernel_rfl) ?_)|simp (maxSteps:=9999999) (disch:=omega) only [wq]|(with_reducible refine zM (fun hb=>?_) (fun hb=>?_) <;> (try simp only [hb]))|(with_reducible refine And.intro (by first|omega|(simp;done)|(simp;omega)) ?_)|simp (maxSteps:=9999999) (implicitDefEqProofs:=false) only [go_sem,hb1,hg,h1,h2,h3,wrap_nat,wrap8_nat,Nat.mod_mod,List.length_map,hla,hBl]|fail))
    refine ⟨[(1000,22)],⟨k+1,hlk⟩,?_⟩
    (iterate 2 ((try simp (maxSteps:=9999999) (implicitDefEqProofs:=false) only [go_sem,hc]);(try simp (maxSteps:=9999999) (disch:=omega) only [wq])))
    try (simp only [ijq,true_and,and_true];first|done|omega|(split <;> omega)|(simp;done)|(simp;omega))
  have hb1:decide ((k:Int)<16)=false:=decide_eq_false (by omega)
  obtain rfl:k=16:=by omega
  have hB:B.take (2*16)=B:=List.take_of_length_le (by omega)
  rw [hB] at hBl
  rw [hB]
  (repeat' (first|with_reducible (first|refine zA fun Kn hK=>?_|refine zB (by kernel_rfl) ?_|refine Nx.go ?_|go_step)|refine raw_t (by rfl) (by rfl) (by rfl)|with_reducible (first|refine zI ?_|refine zJ ?_|refine zK ?_ ?_|refine zL ?_ ?_|refine zR (by kernel_rfl) ?_)|simp (maxSteps:=9999999) (disch:=omega) only [wq]|(with_reducible refine zM (fun hb=>?_) (fun hb=>?_) <;> (try simp only [hb]))|(with_reducible refine And.intro (by first|omega|(simp;done)|(simp;omega)) ?_)|simp (maxSteps:=9999999) (implicitDefEqProofs:=false) only [go_sem,hb1,List.length_map,hl32,List.take_length]|fail))
end Go.Proofs.YtdakeodebgggfaaGreatDoor
namespace Go.Proofs.YtdakeodebgggfaaGreatDoor
open Go.RowKit
theorem leB_top (x:F):((leB x.val).getD 31 0).toNat<128:=by
  have h1:((leB x.val).getD 31 0).toNat=topB (leB x.val):=rfl
  rw [h1,← topB_div (leB_len _),leV_leB (Nat.lt_trans x.isLt (by decide +kernel)),Nat.div_lt_iff_lt_mul (Nat.pow_pos (by omega))]
  exact Nat.lt_trans x.isLt (by decide +kernel)
theorem w8_add {a:Nat}:IntKind.u8.wrap ((a:Int)+128)=(((a+128)%256:Nat):Int):=by
  rw [show (a:Int)+128=((a+128:Nat):Int) by omega,wrap8_nat]
section
variable {G:Nat→Option (List D)}
theorem rbytes_m (x y z:F):Spec Tryz.prog G 30 [.g (p3D x y z)] (.one (.c (bytesD (encB (x*finv z,y*finv z))))):=by
  have hi:Spec Tryz.prog G 60 [.g (rD1 z)] (.one (.g (rD1 (finv z)))):=refinv_m z
  have hm: ∀ x y:F,Spec Tryz.prog G 59 [.g (rD1 x),.g (rD1 y)] (.one (.g (rD1 (x*y)))):=fun x y=>refmul_m x y
  have hy:=hm y (finv z)
  have hx:=hm x (finv z)
  clear hm
  have hb:=refbytes_o (G:=G) (y*finv z)
  have he:encB (x*finv z,y*finv z)=if oddF (x*finv z) then setTop (leB (y*finv z).val) else leB (y*finv z).val:=rfl
  rw [he]
  have lb:=leB_len (y*finv z).val
  have ht:=leB_top (y*finv z)
  have ho:=refC_odd (x*finv z)
  have hg0:=numsC_get (l:=refC (x*finv z)) (k:=0) (by rw [refC_len];omega)
  have hg0':(rC1 (x*finv z))[0]?=some (C.d (D.v (.int .u64 ((refC (x*finv z)).getD 0 0:Nat)))):=hg0
  have hmm:(refC (x*finv z)).getD 0 0%2%18446744073709551616=(refC (x*finv z)).getD 0 0%2:=Nat.mod_eq_of_lt (by omega)
  change Spec Tryz.prog G _ [.g (rD1 (y*finv z))] _ at hb
  clear hg0
  generalize leB (y*finv z).val=b at *
  generalize hoo:oddF (x*finv z)=od at *
  have hg:((b.map bD).map C.d)[31]?=some (C.d (D.v (.int .u8 ((b.getD 31 0).toNat:Int)))):=by
    rw [List.getElem?_map,List.getElem?_map,topB_get lb]
    rfl
  have hset:=bytesC_set (l:=b) (k:=31) (v:=(b.getD 31 0).toNat%128+128) (by omega)
  rw [← show setTop b=b.set 31 (UInt8.ofNat ((b.getD 31 0).toNat%128+128)) from rfl,show (b.getD 31 0).toNat%128+128=(b.getD 31 0).toNat+128 by omega] at hset
  have hw:IntKind.u8.wrap (((b.getD 31 0).toNat:Int)+128)=(((b.getD 31 0).toNat+128:Nat):Int):=by
    rw [w8_add,Nat.mod_eq_of_lt (by omega)]
  have ls:(setTop b).length=32:=by rw [setTop,List.length_set,lb]
  obtain ⟨z1,z2,z3⟩:=cd_facts (l:=b.map bD) (n:=32) (by rw [List.length_map,lb])
  obtain ⟨z4,z5,z6⟩:=cd_facts (l:=(setTop b).map bD) (n:=32) (by rw [List.length_map,ls])
  generalize setTop b=o at *
  have l1:=rD1_len
  have l2:=rC1_len
  have e1: ∀ x,(rD1 x).map C.d=rC1 x:=fun _=>rfl
  have t1:=fun (x:F) (B:List C)=>tk16 (B:=B) (rC1_len x)
  have t2:=fun (x:F) (B:List C)=>tk32 (B:=B) (rC1_len x)
  have t3:=fun (x:F) (B:List C)=>tk48 (B:=B) (rC1_len x)
  have d1:=fun (x:F) (B:List C)=>dp16 (B:=B) (rC1_len x)
  have d2:=fun (x:F) (B:List C)=>dp32 (B:=B) (rC1_len x)
  have d3:=fun (x:F) (B:List C)=>dp48 (B:=B) (rC1_len x)
  have s1:=fun (x:F)=>(cd_facts (rD1_len x)).1
  have s2:=fun (x:F)=>(cd_facts (rD1_len x)).2.1
  have s3:=fun (x:F)=>(cd_facts (rD1_len x)).2.2
  simp only [e1] at s2 s3
  have dn: ∀ x,dOnly (rC1 x)=some (rD1 x):=fun x=>by simp only [rC1,go_sem]
  unfold p3D
  cases od <;> simp only [Bool.false_eq_true,if_true,if_false]
  all_goals
    refine spec_of Tryz.func30 rfl rfl rfl (by kernel_rfl) rfl fun K=>?_
    (repeat' (first|with_reducible (first|refine zA fun Kn hK=>?_|refine zB (by kernel_rfl) ?_|refine Nx.go ?_|go_step)|(refine ⟨_,hi,?_⟩)|(refine ⟨_,hy,?_⟩)|(refine ⟨_,hx,?_⟩)|(refine ⟨_,hb,?_⟩)|with_reducible (first|refine zI ?_|refine zJ ?_|refine zK ?_ ?_|refine zL ?_ ?_|refine zR (by kernel_rfl) ?_)|simp (maxSteps:=9999999) (disch:=omega) only [wq]|(with_reducible refine zM (fun hb=>?_) (fun hb=>?_) <;> (try simp only [hb]))|(with_reducible refine And.intro (by first|omega|(simp;done)|(simp;omega)) ?_)|simp (maxSteps:=9999999) (implicitDefEqProofs:=false) only [go_sem,hg,hset,hw,hg0',ho,hmm,int_beqL,wrap_nat,z1,z2,z3,z4,z5,z6,lb,ls,List.length_map,dn,Option.bind_some,Option.map_some,e1,l1,l2,t1,t2,t3,d1,d2,d3,s1,s2,s3,List.map_append,List.length_append,List.append_assoc,List.append_nil,List.length_replicate,List.drop_replicate]|fail))
  all_goals (first|rfl|(unfold bytesD;rw [lb])|(unfold bytesD;rw [ls]))
end
end Go.Proofs.YtdakeodebgggfaaGreatDoor
namespace Go.Proofs.YtdakeodebgggfaaGreatDoor
open Go.RowKit
section
variable {G:Nat→Option (List D)}
theorem rroot_m (y:F):Spec Tryz.prog G 61 [.g (rD1 y)] (.many [.g (rD1 (rootF ((y*y-1)*finv (dF*(y*y)+1)))),.c (.v (.bool (rootOk ((y*y-1)*finv (dF*(y*y)+1)))))]):=by
  have h1:Spec Tryz.prog G 58 [.c (.v (.int .u64 1))] (.one (.g (rD1 1))):=refof_m 1 (by omega)
  have hd:Spec Tryz.prog G 62 [] (.one (.g (rD1 dF))):=refD_m
  have hm: ∀ x y:F,Spec Tryz.prog G 59 [.g (rD1 x),.g (rD1 y)] (.one (.g (rD1 (x*y)))):=fun x y=>refmul_m x y
  have ha: ∀ x y:F,Spec Tryz.prog G 102 [.g (rD1 x),.g (rD1 y)] (.one (.g (rD1 (x+y)))):=fun x y=>refadd_m x y
  have hs: ∀ x y:F,Spec Tryz.prog G 103 [.g (rD1 x),.g (rD1 y)] (.one (.g (rD1 (x-y)))):=fun x y=>refsub_m x y
  have hi: ∀ x:F,Spec Tryz.prog G 60 [.g (rD1 x)] (.one (.g (rD1 (finv x)))):=fun x=>refinv_m x
  have hr: ∀ x:F,Spec Tryz.prog G 104 [.g (rD1 x)] (.many [.g (rD1 (rootF x)),.c (.v (.bool (rootOk x)))]):=fun x=>refroot_m x
  have l1:=rD1_len
  have l2:=rC1_len
  have e1: ∀ x,(rD1 x).map C.d=rC1 x:=fun _=>rfl
  have t1:=fun (x:F) (B:List C)=>tk16 (B:=B) (rC1_len x)
  have t2:=fun (x:F) (B:List C)=>tk32 (B:=B) (rC1_len x)
  have t3:=fun (x:F) (B:List C)=>tk48 (B:=B) (rC1_len x)
  have d1:=fun (x:F) (B:List C)=>dp16 (B:=B) (rC1_len x)
  have d2:=fun (x:F) (B:List C)=>dp32 (B:=B) (rC1_len x)
  have d3:=fun (x:F) (B:List C)=>dp48 (B:=B) (rC1_len x)
  have s1:=fun (x:F)=>(cd_facts (rD1_len x)).1
  have s2:=fun (x:F)=>(cd_facts (rD1_len x)).2.1
  have s3:=fun (x:F)=>(cd_facts (rD1_len x)).2.2
  simp only [e1] at s2 s3
  have dn: ∀ x,dOnly (rC1 x)=some (rD1 x):=fun x=>by simp only [rC1,go_sem]
  have r16:List.replicate 16 (C.d (.v (.int .u64 0)))=rC1 0:=by rw [rC1,rD1,refC_zero];rfl
  refine spec_of Tryz.func61 rfl rfl rfl (by kernel_rfl) rfl fun K=>?_
  (repeat' (first|with_reducible (first|refine zA fun Kn hK=>?_|refine zB (by kernel_rfl) ?_|refine Nx.go ?_|go_step)|(refine ⟨_,h1,?_⟩)|(refine ⟨_,hd,?_⟩)|(refine ⟨_,hi _,?_⟩)|(refine ⟨_,hr _,?_⟩)|(refine ⟨_,hm _ _,?_⟩)|(refine ⟨_,ha _ _,?_⟩)|(refine ⟨_,hs _ _,?_⟩)|with_reducible (first|refine zI ?_|refine zJ ?_|refine zK ?_ ?_|refine zL ?_ ?_|refine zR (by kernel_rfl) ?_)|simp (maxSteps:=9999999) (disch:=omega) only [wq]|(with_reducible refine zM (fun hb=>?_) (fun hb=>?_) <;> (try simp only [hb]))|(with_reducible refine And.intro (by first|omega|(simp;done)|(simp;omega)) ?_)|simp (maxSteps:=9999999) (implicitDefEqProofs:=false) only [go_sem,r16,dn,Option.bind_some,Option.map_some,e1,l1,l2,t1,t2,t3,d1,d2,d3,s1,s2,s3,List.map_append,List.length_append,List.append_assoc,List.append_nil]|fail))
end
end Go.Proofs.YtdakeodebgggfaaGreatDoor
namespace Go.Proofs.YtdakeodebgggfaaGreatDoor
open Go.RowKit
section
variable {G:Nat→Option (List D)}
theorem rbase_w {f4 f5 i y x one:F} {ok:Bool} (h1:Spec Tryz.prog G 58 [.c (.v (.int .u64 4))] (.one (.g (rD1 f4))))
    (h2:Spec Tryz.prog G 58 [.c (.v (.int .u64 5))] (.one (.g (rD1 f5))))
    (h3:Spec Tryz.prog G 60 [.g (rD1 f5)] (.one (.g (rD1 i))))
    (h4:Spec Tryz.prog G 59 [.g (rD1 f4),.g (rD1 i)] (.one (.g (rD1 y))))
    (h5:Spec Tryz.prog G 61 [.g (rD1 y)] (.many [.g (rD1 x),.c (.v (.bool ok))]))
    (h6:Spec Tryz.prog G 58 [.c (.v (.int .u64 1))] (.one (.g (rD1 one)))) :
    Spec Tryz.prog G 28 [] (.one (.g (p3D x y one))):=by
  have l1:=rD1_len
  have l2:=rC1_len
  have e1: ∀ x,(rD1 x).map C.d=rC1 x:=fun _=>rfl
  have t1:=fun (x:F) (B:List C)=>tk16 (B:=B) (rC1_len x)
  have t2:=fun (x:F) (B:List C)=>tk32 (B:=B) (rC1_len x)
  have t3:=fun (x:F) (B:List C)=>tk48 (B:=B) (rC1_len x)
  have d1:=fun (x:F) (B:List C)=>dp16 (B:=B) (rC1_len x)
  have d2:=fun (x:F) (B:List C)=>dp32 (B:=B) (rC1_len x)
  have d3:=fun (x:F) (B:List C)=>dp48 (B:=B) (rC1_len x)
  have s1:=fun (x:F)=>(cd_facts (rD1_len x)).1
  have s2:=fun (x:F)=>(cd_facts (rD1_len x)).2.1
  have s3:=fun (x:F)=>(cd_facts (rD1_len x)).2.2
  simp only [e1] at s2 s3
  have dn: ∀ x,dOnly (rC1 x)=some (rD1 x):=fun x=>by simp only [rC1,go_sem]
  have r16:List.replicate 16 (C.d (.v (.int .u64 0)))=rC1 0:=by rw [rC1,rD1,refC_zero];rfl
  unfold p3D
  refine spec_of Tryz.func28 rfl rfl rfl (by kernel_rfl) rfl fun K=>?_
  (repeat' (first|with_reducible (first|refine zA fun Kn hK=>?_|refine zB (by kernel_rfl) ?_|refine Nx.go ?_|go_step)|(refine ⟨_,h1,?_⟩)|(refine ⟨_,h2,?_⟩)|(refine ⟨_,h3,?_⟩)|(refine ⟨_,h4,?_⟩)|(refine ⟨_,h5,?_⟩)|(refine ⟨_,h6,?_⟩)|with_reducible (first|refine zI ?_|refine zJ ?_|refine zK ?_ ?_|refine zL ?_ ?_|refine zR (by kernel_rfl) ?_)|simp (maxSteps:=9999999) (disch:=omega) only [wq]|(with_reducible refine zM (fun hb=>?_) (fun hb=>?_) <;> (try simp only [hb]))|(with_reducible refine And.intro (by first|omega|(simp;done)|(simp;omega)) ?_)|simp (maxSteps:=9999999) (implicitDefEqProofs:=false) only [go_sem,rep48,r16,dn,Option.bind_some,Option.map_some,e1,l1,l2,t1,t2,t3,d1,d2,d3,s1,s2,s3,List.map_append,List.length_append,List.append_assoc,List.append_nil]|fail))
theorem rbase_m:Spec Tryz.prog G 28 [] (.one (.g (p3D xBase yBase 1))):=by
  have hm:=refmul_m (G:=G) (toF 4) (finv (toF 5))
  rw [y45] at hm
  have hr:=rroot_m (G:=G) yBase
  change Spec Tryz.prog G _ _ (.many [.g (rD1 (rootF (uF yBase))),.c (.v (.bool (rootOk (uF yBase))))]) at hr
  rw [uF_base,rootF_base] at hr
  exact rbase_w (refof_m 4 (by omega)) (refof_m 5 (by omega)) (refinv_m _) hm hr (refof_m 1 (by omega))
end
end Go.Proofs.YtdakeodebgggfaaGreatDoor
namespace Go.Proofs.YtdakeodebgggfaaGreatDoor
open Go.RowKit
abbrev T3:=F × F × F
def t3D (t:T3):List D:=p3D t.1 t.2.1 t.2.2
theorem t3D_len (t:T3):(t3D t).length=48:=p3D_len _ _ _
def aT (s t:T3):T3:=(rX s.1 s.2.1 s.2.2 t.1 t.2.1 t.2.2 dF,rY s.1 s.2.1 s.2.2 t.1 t.2.1 t.2.2 dF,rZ s.1 s.2.1 s.2.2 t.1 t.2.1 t.2.2 dF)
def tmB (p:T3) (V:Nat):Nat→T3
  | 0=>(0,1,1)
  | k+1=>if V/2^(255-k)%2=1 then aT (aT (tmB p V k) (tmB p V k)) p else aT (tmB p V k) (tmB p V k)
section
variable {G:Nat→Option (List D)}
theorem rtimes_m (p:T3) (n:List UInt8) (ln:n.length=32):Spec Tryz.prog G 29 [.g (t3D p),.c (bytesD n)] (.one (.g (t3D (tmB p (leV n) 256)))):=by
  have hz:Spec Tryz.prog G 63 [] (.one (.g (t3D (0,1,1)))):=rzero_m
  have hd:Spec Tryz.prog G 62 [] (.one (.g (rD1 dF))):=refD_m
  have ha: ∀ s t:T3,Spec Tryz.prog G 64 [.g (t3D s),.g (t3D t),.g (rD1 dF)] (.one (.g (t3D (aT s t)))):=fun s t=>radd_m _ _ _ _ _ _ _
  have hlen:=t3D_len
  have c1:=fun t=>(cd_facts (t3D_len t)).1
  have c2:=fun t=>(cd_facts (t3D_len t)).2.1
  have c3:=fun t=>(cd_facts (t3D_len t)).2.2
  have s0:=rD1_len
  have s1:=fun (x:F)=>(cd_facts (rD1_len x)).1
  have s2:=fun (x:F)=>(cd_facts (rD1_len x)).2.1
  have s3:=fun (x:F)=>(cd_facts (rD1_len x)).2.2
  have hbitL:=fun i (y:UInt8) (h:n[i/8]?=some y)=>leV_bit h
  generalize leV n=V at *
  refine spec_of Tryz.func29 rfl rfl rfl (by kernel_rfl) rfl fun K=>?_
  (repeat' (first|with_reducible (first|refine zA fun Kn hK=>?_|refine zB (by kernel_rfl) ?_|refine Nx.go ?_|go_step)|(refine ⟨_,hd,?_⟩)|(refine ⟨_,hz,?_⟩)|with_reducible (first|refine zI ?_|refine zJ ?_|refine zK ?_ ?_|refine zL ?_ ?_|refine zR (by kernel_rfl) ?_)|simp (maxSteps:=9999999) (disch:=omega) only [wq]|(with_reducible refine zM (fun hb=>?_) (fun hb=>?_) <;> (try simp only [hb]))|(with_reducible refine And.intro (by first|omega|(simp;done)|(simp;omega)) ?_)|simp (maxSteps:=9999999) (implicitDefEqProofs:=false) only [go_sem,hlen,c1,c2,c3,s0,s1,s2,s3,List.length_map,List.length_replicate,List.drop_replicate,List.append_nil]|fail))
  refine sound_loopR (fun y:{k:Nat // k≤256}=>⟨[(1,vD (bytesD n)),(2,vP 2 0),(4,vP 4 0),(5,vP 5 0),(6,vP 6 0),(7,vI (255-(y.1:Int)))],[(2,some ⟨63,(t3D p).map C.d,true,false⟩),(4,some ⟨63,zeroOf Tryz.prog 63,true,false⟩),(5,some ⟨61,(rD1 dF).map C.d,true,false⟩),(6,some ⟨63,(t3D (tmB p V y.1)).map C.d,true,false⟩)]⟩) (fun y=>256-y.1) ⟨0,by omega⟩ [] (by (iterate 2 ((try simp (maxSteps:=9999999) (implicitDefEqProofs:=false) only [go_sem,tmB]);(try simp (maxSteps:=9999999) (disch:=omega) only [wq])));try simp) (fun ⟨k,hk⟩=>?_)
  by_cases hlt:k<256
  · obtain ⟨j,hj⟩: ∃ j,255-k=j:=⟨_,rfl⟩
    have e1:(255:Int)-(k:Int)=(j:Int):=by omega
    have hb1:decide ((j:Int)≥0)=true:=decide_eq_true (by omega)
    obtain ⟨y,hy⟩: ∃ y,n[j/8]?=some y:=⟨_,List.getElem?_eq_getElem (by omega)⟩
    have hgy:=flatB hy
    have hy8:y.toNat<256:=y.toNat_lt
    have hbit:=hbitL j y hy
    have hnx:tmB p V (k+1)=if V/2^j%2=1 then aT (aT (tmB p V k) (tmB p V k)) p else aT (tmB p V k) (tmB p V k):=by rw [tmB,hj]
    generalize tmB p V k=R at *
    rw [e1]
    (repeat' (first|with_reducible (first|refine zA fun Kn hK=>?_|refine zB (by kernel_rfl) ?_|refine Nx.go ?_|go_step)|(refine ⟨_,ha _ _,?_⟩)|with_reducible (first|refine zI ?_|refine zJ ?_|refine zK ?_ ?_|refine zL ?_ ?_|refine zR (by kernel_rfl) ?_)|simp (maxSteps:=9999999) (disch:=omega) only [wq]|(with_reducible refine zM (fun hb=>?_) (fun hb=>?_) <;> (try simp only [hb]))|(with_reducible refine And.intro (by first|omega|(simp;done)|(simp;omega)) ?_)|simp (maxSteps:=9999999) (implicitDefEqProofs:=false) only [go_sem,hb1,hgy,ln,hlen,c1,c2,c3,s0,s1,s2,s3,List.length_map,List.append_nil]|fail))
    refine sound_loopR (fun q:{i:Nat // i≤j%8}=>⟨[(1,vD (bytesD n)),(2,vP 2 0),(4,vP 4 0),(5,vP 5 0),(6,vP 6 0),(7,vI j),(8,.a (.c (.d (.v (.int .u8 ((y.toNat/2^q.1:Nat):Int)))))),(9,vI q.1)],[(2,some ⟨63,(t3D p).map C.d,true,false⟩),(4,some ⟨63,zeroOf Tryz.prog 63,true,false⟩),(5,some ⟨61,(rD1 dF).map C.d,true,false⟩),(6,some ⟨63,(t3D (aT R R)).map C.d,true,false⟩)]⟩) (fun q=>8-q.1) ⟨0,Nat.zero_le _⟩ [] (by (iterate 2 ((try simp (maxSteps:=9999999) (implicitDefEqProofs:=false) only [go_sem,true_and]);(try simp (maxSteps:=9999999) (disch:=omega) only [wq])));try simp [ln]) (fun ⟨i,hi⟩=>?_)
    have hle:y.toNat/2^i≤y.toNat:=Nat.div_le_self _ _
    by_cases hij:i<j%8
    · have hb2:decide ((i:Int)<((j%8:Nat):Int))=true:=decide_eq_true (by omega)
      have hs2:y.toNat/2^(i+1)=y.toNat/2^i/2:=by rw [Nat.pow_succ,Nat.div_div_eq_div_mul]
      have hq:y.toNat/2^i/2%256=y.toNat/2^i/2:=Nat.mod_eq_of_lt (by omega)
      (repeat' (first|with_reducible (first|refine zA fun Kn hK=>?_|refine zB (by kernel_rfl) ?_|refine Nx.go ?_|go_step)|fail|with_reducible (first|refine zI ?_|refine zJ ?_|refine zK ?_ ?_|refine zL ?_ ?_|refine zR (by kernel_rfl) ?_)|simp (maxSteps:=9999999) (disch:=omega) only [wq]|(with_reducible refine zM (fun hb=>?_) (fun hb=>?_) <;> (try simp only [hb]))|(with_reducible refine And.intro (by first|omega|(simp;done)|(simp;omega)) ?_)|simp (maxSteps:=9999999) (implicitDefEqProofs:=false) only [go_sem,hb2,hq,wrap8_nat]|fail))
      refine ⟨[],⟨i+1,hij⟩,?_⟩
      (iterate 2 ((try simp (maxSteps:=9999999) (implicitDefEqProofs:=false) only [go_sem,hs2]);(try simp (maxSteps:=9999999) (disch:=omega) only [wq])))
      try (simp only [ijq,true_and,and_true];first|done|omega|(split <;> omega)|(simp;done)|(simp;omega))
      try omega
    · have hb2:decide ((i:Int)<((j%8:Nat):Int))=false:=decide_eq_false (by omega)
      obtain rfl:i=j%8:=by omega
      generalize y.toNat/2^(j%8)=dd at *
      have hm:dd%2%256=dd%2:=Nat.mod_eq_of_lt (by omega)
      by_cases h1:V/2^j%2=1
      · rw [if_pos h1] at hnx
        have hbb:(dd%2==1)=true:=by rw [hbit,h1];rfl
        (repeat' (first|with_reducible (first|refine zA fun Kn hK=>?_|refine zB (by kernel_rfl) ?_|refine Nx.go ?_|go_step)|(refine ⟨_,ha _ _,?_⟩)|with_reducible (first|refine zI ?_|refine zJ ?_|refine zK ?_ ?_|refine zL ?_ ?_|refine zR (by kernel_rfl) ?_)|simp (maxSteps:=9999999) (disch:=omega) only [wq]|(with_reducible refine zM (fun hb=>?_) (fun hb=>?_) <;> (try simp only [hb]))|(with_reducible refine And.intro (by first|omega|(simp;done)|(simp;omega)) ?_)|simp (maxSteps:=9999999) (implicitDefEqProofs:=false) only [go_sem,hb2,hm,hbb,int_beqL,wrap8_nat,hlen,c1,c2,c3,s0,s1,s2,s3,List.length_map,List.append_nil]|fail))
        refine ⟨[],⟨k+1,by omega⟩,?_⟩
        (iterate 2 ((try simp (maxSteps:=9999999) (implicitDefEqProofs:=false) only [go_sem,hnx]);(try simp (maxSteps:=9999999) (disch:=omega) only [wq])))
        try (simp only [ijq,true_and,and_true];first|done|omega|(split <;> omega)|(simp;done)|(simp;omega))
        try omega
      · rw [if_neg h1] at hnx
        have hbb:(dd%2==1)=false:=by rw [hbit];simpa using h1
        (repeat' (first|with_reducible (first|refine zA fun Kn hK=>?_|refine zB (by kernel_rfl) ?_|refine Nx.go ?_|go_step)|(refine ⟨_,ha _ _,?_⟩)|with_reducible (first|refine zI ?_|refine zJ ?_|refine zK ?_ ?_|refine zL ?_ ?_|refine zR (by kernel_rfl) ?_)|simp (maxSteps:=9999999) (disch:=omega) only [wq]|(with_reducible refine zM (fun hb=>?_) (fun hb=>?_) <;> (try simp only [hb]))|(with_reducible refine And.intro (by first|omega|(simp;done)|(simp;omega)) ?_)|simp (maxSteps:=9999999) (implicitDefEqProofs:=false) only [go_sem,hb2,hm,hbb,int_beqL,wrap8_nat,hlen,c1,c2,c3,s0,s1,s2,s3,List.length_map,List.append_nil]|fail))
        refine ⟨[],⟨k+1,by omega⟩,?_⟩
        (iterate 2 ((try simp (maxSteps:=9999999) (implicitDefEqProofs:=false) only [go_sem,hnx]);(try simp (maxSteps:=9999999) (disch:=omega) only [wq])))
        try (simp only [ijq,true_and,and_true];first|done|omega|(split <;> omega)|(simp;done)|(simp;omega))
        try omega
  · obtain rfl:k=256:=by omega
    have e1:(255:Int)-((256:Nat):Int)= -1:=by omega
    have hb1:decide ((-1:Int)≥0)=false:=rfl
    rw [e1]
    generalize tmB p V 256=R at *
    (repeat' (first|with_reducible (first|refine zA fun Kn hK=>?_|refine zB (by kernel_rfl) ?_|refine Nx.go ?_|go_step)|fail|with_reducible (first|refine zI ?_|refine zJ ?_|refine zK ?_ ?_|refine zL ?_ ?_|refine zR (by kernel_rfl) ?_)|simp (maxSteps:=9999999) (disch:=omega) only [wq]|(with_reducible refine zM (fun hb=>?_) (fun hb=>?_) <;> (try simp only [hb]))|(with_reducible refine And.intro (by first|omega|(simp;done)|(simp;omega)) ?_)|simp (maxSteps:=9999999) (implicitDefEqProofs:=false) only [go_sem,hb1,hlen,c1,c2,c3,List.length_map,List.length_replicate,List.drop_replicate,List.append_nil]|fail))
end
end Go.Proofs.YtdakeodebgggfaaGreatDoor
namespace Go.Proofs.YtdakeodebgggfaaGreatDoor
open Go.RowKit
theorem rC1_key (x:F):KeyL Tryz.prog 61 (rC1 x) ((refC x).map litN):=refC_key x
section
variable {G:Nat→Option (List D)}
theorem rget_w {b:List UInt8} {x y:F} {ok1 ok2 od z0:Bool} (lb:b.length=32) (hod:od=decide (128≤topB b)) (hz:z0=decide (x=0))
    (h1:Spec Tryz.prog G 93 [.c (.sl 32 ((ownB b).map bD))] (.many [.g (rD1 y),.c (.v (.bool ok1))]))
    (h2:Spec Tryz.prog G 61 [.g (rD1 y)] (.many [.g (rD1 x),.c (.v (.bool ok2))]))
    (h3:Spec Tryz.prog G 94 [.g (rD1 x)] (.one (.g (rD1 (-x)))))
    (h4:Spec Tryz.prog G 58 [.c (.v (.int .u64 1))] (.one (.g (rD1 1)))) :
    Spec Tryz.prog G 51 [.c (.sl 32 (b.map bD))] (.many [.g (if ok1&&(ok2&& !(od&&z0)) then p3D (if od then -x else x) y 1 else p3D 0 0 0),.c (.v (.bool (ok1&&(ok2&& !(od&&z0)))))]):=by
  have l1:=rD1_len
  have l2:=rC1_len
  have e1: ∀ x,(rD1 x).map C.d=rC1 x:=fun _=>rfl
  have t1:=fun (x:F) (B:List C)=>tk16 (B:=B) (rC1_len x)
  have t2:=fun (x:F) (B:List C)=>tk32 (B:=B) (rC1_len x)
  have t3:=fun (x:F) (B:List C)=>tk48 (B:=B) (rC1_len x)
  have d1:=fun (x:F) (B:List C)=>dp16 (B:=B) (rC1_len x)
  have d2:=fun (x:F) (B:List C)=>dp32 (B:=B) (rC1_len x)
  have d3:=fun (x:F) (B:List C)=>dp48 (B:=B) (rC1_len x)
  have s1:=fun (x:F)=>(cd_facts (rD1_len x)).1
  have s2:=fun (x:F)=>(cd_facts (rD1_len x)).2.1
  have s3:=fun (x:F)=>(cd_facts (rD1_len x)).2.2
  simp only [e1] at s2 s3
  have dn: ∀ x,dOnly (rC1 x)=some (rD1 x):=fun x=>by simp only [rC1,go_sem]
  have r16:List.replicate 16 (C.d (.v (.int .u64 0)))=rC1 0:=by rw [rC1,rD1,refC_zero];rfl
  have hg:((b.map bD).map C.d)[31]?=some (C.d (D.v (.int .u8 ((topB b:Nat):Int)))):=by
    rw [List.getElem?_map,List.getElem?_map,topB_get lb]
    rfl
  have htb:topB b<256:=(b.getD 31 0).toNat_lt
  have hset:=bytesC_set (l:=b) (k:=31) (v:=topB b%128) (by omega)
  rw [← show ownB b=b.set 31 (UInt8.ofNat (topB b%128)) from rfl] at hset
  have lo:(ownB b).length=32:=by rw [ownB_len,lb]
  have hge:decide ((topB b:Int)≥128)=od:=by
    rw [hod,decide_eq_decide]
    omega
  have hm:topB b%128%256=topB b%128:=Nat.mod_eq_of_lt (by omega)
  obtain ⟨o1,o2,o3⟩:=cd_facts (l:=(ownB b).map bD) (n:=32) (by rw [List.length_map,lo])
  obtain ⟨b1,b2,b3⟩:=cd_facts (l:=b.map bD) (n:=32) (by rw [List.length_map,lb])
  have hk1:=rC1_key x
  have hk2:=rC1_key 0
  have hh:(z0=true)↔(refC x).map litN=(refC 0).map litN:=refC_key_eq hz
  clear hz hod
  generalize ownB b=o at *
  generalize topB b=tb at *
  unfold p3D
  cases ok1
  · simp only [Bool.false_and,Bool.false_eq_true,if_false]
    cases od
    all_goals
      refine spec_of Tryz.func51 rfl rfl rfl (by kernel_rfl) rfl fun K=>?_
      (repeat' (first|with_reducible (first|refine zA fun Kn hK=>?_|refine zB (by kernel_rfl) ?_|refine Nx.go ?_|go_step)|(refine ⟨none,?_⟩)|(refine ⟨_,h1,?_⟩)|with_reducible (first|refine zI ?_|refine zJ ?_|refine zK ?_ ?_|refine zL ?_ ?_|refine zR (by kernel_rfl) ?_)|simp (maxSteps:=9999999) (disch:=omega) only [wq]|(with_reducible refine zM (fun hb=>?_) (fun hb=>?_) <;> (try simp only [hb]))|(with_reducible refine And.intro (by first|omega|(simp;done)|(simp;omega)) ?_)|simp (maxSteps:=9999999) (implicitDefEqProofs:=false) only [go_sem,hg,hge,hset,hm,wrap8_nat,Bool.not_false,Bool.not_true,o1,o2,o3,b1,b2,b3,lb,lo,List.length_map,rep48,r16,dn,Option.bind_some,Option.map_some,e1,l1,l2,t1,t2,t3,d1,d2,d3,s1,s2,s3,List.map_append,List.length_append,List.append_assoc,List.append_nil,List.nil_append]|fail))
  cases ok2
  · simp only [Bool.false_and,Bool.true_and,Bool.false_eq_true,if_false]
    cases od
    all_goals
      refine spec_of Tryz.func51 rfl rfl rfl (by kernel_rfl) rfl fun K=>?_
      (repeat' (first|with_reducible (first|refine zA fun Kn hK=>?_|refine zB (by kernel_rfl) ?_|refine Nx.go ?_|go_step)|(refine ⟨none,?_⟩)|(refine ⟨_,h1,?_⟩)|(refine ⟨_,h2,?_⟩)|(refine run_agg_eql (by kernel_rfl) hk1 hk2 hh ?_)|with_reducible (first|refine zI ?_|refine zJ ?_|refine zK ?_ ?_|refine zL ?_ ?_|refine zR (by kernel_rfl) ?_)|simp (maxSteps:=9999999) (disch:=omega) only [wq]|(with_reducible refine zM (fun hb=>?_) (fun hb=>?_) <;> (try simp only [hb]))|(with_reducible refine And.intro (by first|omega|(simp;done)|(simp;omega)) ?_)|simp (maxSteps:=9999999) (implicitDefEqProofs:=false) only [go_sem,hg,hge,hset,hm,wrap8_nat,Bool.not_false,Bool.not_true,o1,o2,o3,b1,b2,b3,lb,lo,List.length_map,rep48,r16,dn,Option.bind_some,Option.map_some,e1,l1,l2,t1,t2,t3,d1,d2,d3,s1,s2,s3,List.map_append,List.length_append,List.append_assoc,List.append_nil,List.nil_append]|fail))
  cases od <;> cases z0 <;> simp only [Bool.false_and,Bool.true_and,Bool.and_true,Bool.and_false,Bool.not_false,Bool.not_true,Bool.false_eq_true,if_false,if_true]
  all_goals
    refine spec_of Tryz.func51 rfl rfl rfl (by kernel_rfl) rfl fun K=>?_
    (repeat' (first|with_reducible (first|refine zA fun Kn hK=>?_|refine zB (by kernel_rfl) ?_|refine Nx.go ?_|go_step)|(refine ⟨none,?_⟩)|(refine ⟨_,h1,?_⟩)|(refine ⟨_,h2,?_⟩)|(refine ⟨_,h3,?_⟩)|(refine ⟨_,h4,?_⟩)|(refine run_agg_eql (by kernel_rfl) hk1 hk2 hh ?_)|with_reducible (first|refine zI ?_|refine zJ ?_|refine zK ?_ ?_|refine zL ?_ ?_|refine zR (by kernel_rfl) ?_)|simp (maxSteps:=9999999) (disch:=omega) only [wq]|(with_reducible refine zM (fun hb=>?_) (fun hb=>?_) <;> (try simp only [hb]))|(with_reducible refine And.intro (by first|omega|(simp;done)|(simp;omega)) ?_)|simp (maxSteps:=9999999) (implicitDefEqProofs:=false) only [go_sem,hg,hge,hset,hm,wrap8_nat,Bool.not_false,Bool.not_true,o1,o2,o3,b1,b2,b3,lb,lo,List.length_map,rep48,r16,dn,Option.bind_some,Option.map_some,e1,l1,l2,t1,t2,t3,d1,d2,d3,s1,s2,s3,List.map_append,List.length_append,List.append_assoc,List.append_nil,List.nil_append]|fail))
end
end Go.Proofs.YtdakeodebgggfaaGreatDoor
namespace Go.Proofs.YtdakeodebgggfaaGreatDoor
section
variable {x1 y1 x2 y2 z1 z2 d X1 Y1 X2 Y2:F} (hX1:X1=x1*z1) (hY1:Y1=y1*z1) (hX2:X2=x2*z2) (hY2:Y2=y2*z2)
include hX1 hY1 hX2 hY2
theorem g_prG:z1*z2*(z1*z2)-d*(X1*X2)*(Y1*Y2)=z1*z2*(z1*z2)*(1-d*x1*x2*y1*y2):=by grobner
theorem g_prH:z1*z2*(z1*z2)+d*(X1*X2)*(Y1*Y2)=z1*z2*(z1*z2)*(1+d*x1*x2*y1*y2):=by grobner
theorem g_prK:(X1+Y1)*(X2+Y2)-X1*X2-Y1*Y2=z1*z2*(x1*y2+x2*y1):=by grobner
theorem g_prE:Y1*Y2+X1*X2=z1*z2*(y1*y2+x1*x2):=by grobner
end
theorem g_prX {w a m p u:F} (hu:p*u=1):w*(w*w*m)*(w*a)=a*u*((w*w*m)*(w*w*p)):=by grobner
theorem g_prY {w b m p v:F} (hv:m*v=1):w*(w*w*p)*(w*b)=b*v*((w*w*m)*(w*w*p)):=by grobner
structure Prj (X Y Z:F) (P:F × F):Prop where
  on:OnP P
  nz:Z≠0
  x:X=P.1*Z
  y:Y=P.2*Z
theorem prj_add {X1 Y1 Z1 X2 Y2 Z2:F} {P Q:F × F} (h:Prj X1 Y1 Z1 P) (k:Prj X2 Y2 Z2 Q) :
    Prj (Z1*Z2*(Z1*Z2*(Z1*Z2)-dF*(X1*X2)*(Y1*Y2))*((X1+Y1)*(X2+Y2)-X1*X2-Y1*Y2))
      (Z1*Z2*(Z1*Z2*(Z1*Z2)+dF*(X1*X2)*(Y1*Y2))*(Y1*Y2+X1*X2))
      ((Z1*Z2*(Z1*Z2)-dF*(X1*X2)*(Y1*Y2))*(Z1*Z2*(Z1*Z2)+dF*(X1*X2)*(Y1*Y2))) (pAdd P Q):=by
  have hp:=plus_ne h.on k.on
  have hm:=minus_ne h.on k.on
  have hw:Z1*Z2≠0:=F.mul_ne h.nz k.nz
  rw [g_prG h.x h.y k.x k.y,g_prH h.x h.y k.x k.y,g_prK h.x h.y k.x k.y,g_prE h.x h.y k.x k.y]
  exact ⟨pAdd_on h.on k.on,F.mul_ne (F.mul_ne (F.mul_ne hw hw) hm) (F.mul_ne (F.mul_ne hw hw) hp),g_prX (mul_inv hp),g_prY (mul_inv hm)⟩
theorem prj_O:Prj 0 1 1 pO:=⟨pO_on,one_ne,g_x0,g_x1⟩
theorem prj_x {X Y Z:F} {P:F × F} (h:Prj X Y Z P):X*finv Z=P.1:=by
  rw [h.x]
  exact g_sm3 (mul_inv h.nz)
theorem prj_y {X Y Z:F} {P:F × F} (h:Prj X Y Z P):Y*finv Z=P.2:=by
  rw [h.y]
  exact g_sm3 (mul_inv h.nz)
theorem prj_of {P:F × F} (h:OnP P):Prj P.1 P.2 1 P:=⟨h,one_ne,g_x3,g_x3⟩
def PrjT (t:T3) (P:F × F):Prop:=Prj t.1 t.2.1 t.2.2 P
theorem prjT_add {s t:T3} {P Q:F × F} (h:PrjT s P) (k:PrjT t Q):PrjT (aT s t) (pAdd P Q):=prj_add h k
theorem tmB_st {p:T3} {P:F × F} (h:PrjT p P) (V:Nat) (hV:V<2^256): ∀ k,k≤256→PrjT (tmB p V k) (nmul (V/2^(256-k)) P)
  | 0,_=>by
    rw [show V/2^(256-0)=0 from Nat.div_eq_of_lt hV]
    exact prj_O
  | k + 1,hk=>by
    have ih:=tmB_st h V hV k (by omega)
    have e1:256-k=(255-k)+1:=by omega
    have e2:256-(k+1)=255-k:=by omega
    rw [e1,Nat.pow_succ,← Nat.div_div_eq_div_mul] at ih
    rw [e2,tmB]
    generalize V/2^(255-k)=m at *
    have hd:=prjT_add ih ih
    rw [← nmul_two h.on] at hd
    by_cases hb:m%2=1
    · rw [if_pos hb]
      have:=prjT_add hd h
      rw [show m=2*(m/2)+1 by omega,nmul]
      exact this
    · rw [if_neg hb]
      rw [show m=2*(m/2) by omega]
      exact hd
theorem tmB_full {p:T3} {P:F × F} (h:PrjT p P) {n:List UInt8} (ln:n.length=32):PrjT (tmB p (leV n) 256) (nmul (leV n) P):=by
  have:=tmB_st h (leV n) (by have:=leV_lt n;rw [ln] at this;exact this) 256 (Nat.le_refl _)
  rwa [Nat.sub_self,Nat.pow_zero,Nat.div_one] at this
theorem g_neg00 {x z:F} (hz:z=0): -x=z-x:=by grobner
theorem rget_m {G:Nat→Option (List D)} {b:List UInt8} (lb:b.length=32):Spec Tryz.prog G 51 [.c (bytesD b)] (.many [.g (if decOk b then p3D (decP b).1 (decP b).2 1 else p3D 0 0 0),.c (.v (.bool (decOk b)))]):=by
  have h1:=refraw_m (G:=G) (ownB b) (by rw [ownB_len,lb])
  rw [ownB_val lb] at h1
  have h2:=rroot_m (G:=G) (yB b)
  have h3:=refneg_m (G:=G) (rootF (uF (yB b)))
  have h4:=refof_m (G:=G) 1 (by omega)
  have e4:toF 1=1:=by decide +kernel
  rw [e4] at h4
  have hod:oddB b=decide (128≤topB b):=(odd_top lb).symm
  unfold bytesD at h1 ⊢
  rw [ownB_len,lb] at h1
  rw [lb]
  have h:=rget_w (G:=G) (b:=b) (x:=rootF (uF (yB b))) (y:=yB b) (ok1:=decide (leV b%2^255<pP)) (ok2:=rootOk (uF (yB b))) (od:=oddB b) (z0:=decide (rootF (uF (yB b))=0)) lb hod rfl h1 h2 h3 h4
  have e1:decOk b=(decide (leV b%2^255<pP)&&(rootOk (uF (yB b))&& !(oddB b&&decide (rootF (uF (yB b))=0)))):=by
    unfold decOk canB
    rw [lb]
    rfl
  have e2:decP b=(if oddB b then -rootF (uF (yB b)) else rootF (uF (yB b)),yB b):=by
    unfold decP
    rw [g_neg00 (x:=rootF (uF (yB b))) rfl]
  rw [e1,e2]
  exact h
end Go.Proofs.YtdakeodebgggfaaGreatDoor
namespace Go.Proofs.YtdakeodebgggfaaGreatDoor
theorem g_one2 {s e:F} (h:s*s=e*e):(s-e)*(s+e)=0:=by grobner
theorem g_eq0 {s e:F} (h:s-e=0):s=e:=by grobner
theorem g_neg0 {s e:F} (h:s+e=0):s= -e:=by grobner
theorem g_neg1 {s z e:F} (hz:z=0) (h:s+e=z):s=z-e:=by grobner
theorem g_rtB {a i u s e:F} (h:a*a=s*u) (hs:s= -e) (hi:i*i= -e) (he:e=1):a*i*(a*i)=u:=by grobner
theorem g_sub0 {x z:F} (hz:z=0) (h:z-x=z):z=x:=by grobner
theorem g_nn {x z:F} (hz:z=0):z-(z-x)=x:=by grobner
theorem fpow_zero_base {n:Nat} (h:0<n):fpow 0 n=0:=F.ext (by rw [fpow_val,F.zero_val,Nat.zero_pow h];rfl)
theorem fpow_sq (x:F) (n:Nat):fpow (x*x) n=fpow x (n+n):=by rw [mul_fpow,fpow_add]
theorem rootOk_sq (x:F):rootOk (x*x)=true:=by
  unfold rootOk
  apply decide_eq_true
  unfold rootC
  split
  · assumption
  · rename_i hne
    by_cases hx:x=0
    · subst hx
      exfalso
      apply hne
      unfold rootA
      have h0:(0:F)*0=0:=g_zero
      rw [h0,fpow_zero_base (by decide +kernel),h0]
    · have ha:rootA (x*x)*rootA (x*x)=fpow (x*x) (2^253-5)*(x*x):=by
        unfold rootA
        rw [← fpow_add,← fpow_succ,show (2^252-2+(2^252-2):Nat)=2^253-5+1 by decide +kernel]
      have hs:fpow (x*x) (2^253-5)*fpow (x*x) (2^253-5)=1*1:=by
        rw [fpow_sq,← fpow_add,show (2^253-5+(2^253-5)+(2^253-5+(2^253-5)):Nat)=pP-1 by decide +kernel,fermat hx]
        exact g_x1
      generalize fpow (x*x) (2^253-5)=s at *
      unfold rootB
      rw [root2]
      rcases F.mul_eq_zero (g_one2 hs) with h1|h1
      · exfalso
        apply hne
        rw [ha,g_eq0 h1]
        exact (g_rot.trans g_x3.symm)
      · exact g_rtB ha (g_neg0 h1) iF_sq rfl
theorem pP_odd:pP%2=1:=by decide +kernel
theorem F.sub_val0 {x:F} (h:x≠0):(0-x).val=pP-x.val:=by
  have hx:x.val≠0:=fun e=>h (F.ext e)
  have hl:=x.isLt
  show (pP-x.val+0)%pP=_
  rw [Nat.add_zero,Nat.mod_eq_of_lt (by omega)]
theorem odd_subN {p v:Nat} (h2:p%2=1) (hl:v<p):decide ((p-v)%2=1)= !decide (v%2=1):=by
  rw [Bool.eq_iff_iff]
  simp only [decide_eq_true_eq,Bool.not_eq_true',decide_eq_false_iff_not]
  omega
theorem odd_neg {x:F} (h:x≠0):oddF (0-x)= !oddF x:=by
  unfold oddF
  rw [F.sub_val0 h]
  exact odd_subN pP_odd x.isLt
theorem odd_zero:oddF 0=false:=by decide +kernel
theorem rootF_even {u:F} (h:rootOk u=true):oddF (rootF u)=false:=by
  unfold rootF
  rw [if_pos h]
  split
  · rename_i ho
    rw [odd_neg,ho]
    · rfl
    · intro e
      rw [e,odd_zero] at ho
      cases ho
  · rename_i ho
    simpa using ho
theorem zero_sub0:(0:F)-0=0:=by decide +kernel
theorem root_pick {x r:F} (hsq:r*r=x*x) (hev:oddF r=false):r=if oddF x then 0-x else x:=by
  rcases F.mul_eq_zero (g_one2 hsq) with h1|h1
  · have h2:=g_eq0 h1
    rw [← h2,hev,if_neg Bool.false_ne_true]
  · have e:r=0-x:=g_neg1 rfl h1
    by_cases hx:x=0
    · rw [e,hx,odd_zero,if_neg Bool.false_ne_true]
      exact zero_sub0
    · rw [e,odd_neg hx] at hev
      rw [if_pos (by simpa using hev),e]
theorem rootF_of (x:F):rootF (x*x)=if oddF x then 0-x else x:=
  root_pick (rootF_sq (rootOk_sq x)) (rootF_even (rootOk_sq x))
theorem encB_val (P:F × F):leV (encB P)=P.2.val+(if oddF P.1 then 2^255 else 0):=by
  have hl:leV (leB P.2.val)=P.2.val:=leV_leB P.2.lt256
  unfold encB
  split
  · have ht:=leB_top P.2
    have hs:=leV_set (l:=leB P.2.val) (j:=31) (d:=UInt8.ofNat (((leB P.2.val).getD 31 0).toNat%128+128)) (topB_get (leB_len _))
    rw [← setTop,hl] at hs
    have hd:(UInt8.ofNat (((leB P.2.val).getD 31 0).toNat%128+128)).toNat=((leB P.2.val).getD 31 0).toNat+128:=by
      rw [UInt8.toNat_ofNat_of_lt' (by simp only [UInt8.size];omega)]
      omega
    rw [hd,Nat.mul_add] at hs
    have hp:(256:Nat)^31*128=2^255:=by decide +kernel
    rw [hp] at hs
    omega
  · rw [hl]
    rfl
theorem dec_enc {P:F × F} (h:OnP P):decOk (encB P)=true∧decP (encB P)=P:=by
  have hv:=encB_val P
  have hlt:=P.2.isLt
  have hp:pP<2^255:=by decide +kernel
  have hm:leV (encB P)%2^255=P.2.val:=by
    rw [hv]
    split
    · rw [Nat.add_mod_right,Nat.mod_eq_of_lt (Nat.lt_trans hlt hp)]
    · rw [Nat.add_zero,Nat.mod_eq_of_lt (Nat.lt_trans hlt hp)]
  have hy:yB (encB P)=P.2:=by rw [yB,hm,toF_self]
  have ho:oddB (encB P)=oddF P.1:=by
    unfold oddB
    rw [hv]
    cases hc:oddF P.1
    · exact decide_eq_false (by rw [if_neg (by decide)];omega)
    · exact decide_eq_true (by rw [if_pos rfl];omega)
  have hc:canB (encB P)=true:=by
    unfold canB
    rw [hm,encB_len,decide_eq_true hlt]
    rfl
  have hu:P.1*P.1=uF P.2:=uF_of h
  have hok:=rootOk_sq P.1
  have hf:=rootF_of P.1
  rw [hu] at hok hf
  constructor
  · unfold decOk
    rw [hc,hy,hok,ho,hf]
    cases hodd:oddF P.1
    · rfl
    · simp only [Bool.true_and,if_true,Bool.not_eq_true',decide_eq_false_iff_not]
      intro e
      have h0:P.1=0:=(g_sub0 rfl e).symm
      rw [h0,odd_zero] at hodd
      cases hodd
  · unfold decP
    rw [hy,ho,hf]
    refine Prod.ext ?_ rfl
    cases hodd:oddF P.1
    · rfl
    · exact g_nn rfl
theorem encB_inj {P Q:F × F} (hp:OnP P) (hq:OnP Q):encB P=encB Q↔P=Q:=by
  constructor
  · intro h
    rw [← (dec_enc hp).2,h,(dec_enc hq).2]
  · rintro rfl
    rfl
end Go.Proofs.YtdakeodebgggfaaGreatDoor
namespace Go.Proofs.YtdakeodebgggfaaGreatDoor
abbrev N3:=Nat × Nat × Nat
def mulN (a b:Nat):Nat:=a*b%pP
def addN (a b:Nat):Nat:=(a+b)%pP
def subN (a b:Nat):Nat:=(a+(pP-b%pP))%pP
def gN (w c e:Nat):Nat:=subN (mulN w w) (mulN (mulN dF.val c) e)
def hN (w c e:Nat):Nat:=addN (mulN w w) (mulN (mulN dF.val c) e)
def aXN (w c e k:Nat):Nat:=mulN (mulN w (gN w c e)) (subN (subN k c) e)
def aYN (w c e:Nat):Nat:=mulN (mulN w (hN w c e)) (addN e c)
def aZN (w c e:Nat):Nat:=mulN (gN w c e) (hN w c e)
def aTN (s t:N3):N3:=(aXN (mulN s.2.2 t.2.2) (mulN s.1 t.1) (mulN s.2.1 t.2.1) (mulN (addN s.1 s.2.1) (addN t.1 t.2.1)),aYN (mulN s.2.2 t.2.2) (mulN s.1 t.1) (mulN s.2.1 t.2.1),aZN (mulN s.2.2 t.2.2) (mulN s.1 t.1) (mulN s.2.1 t.2.1))
def toT (s:N3):T3:=(toF s.1,toF s.2.1,toF s.2.2)
theorem toF_mulN (a b:Nat):toF (mulN a b)=toF a*toF b:=by rw [← toF_mul];exact toF_eq (Nat.mod_mod _ _)
theorem toF_addN (a b:Nat):toF (addN a b)=toF a+toF b:=by rw [← toF_add];exact toF_eq (Nat.mod_mod _ _)
theorem g_subof {a b c:F} (h:c+b=a):c=a-b:=by grobner
theorem toF_subN (a b:Nat):toF (subN a b)=toF a-toF b:=by
  apply g_subof
  rw [← toF_add]
  apply toF_eq
  have h0:0<pP:=by decide
  have h:=Nat.mod_lt b h0
  have e:a+(pP-b%pP)+b=a+pP*(b/pP+1):=by
    have:=Nat.div_add_mod b pP
    rw [Nat.mul_add]
    omega
  unfold subN
  rw [Nat.mod_add_mod,e,Nat.add_mul_mod_self_left]
theorem toT_add (s t:N3):toT (aTN s t)=aT (toT s) (toT t):=by
  unfold toT aT aTN rX rY rZ aXN aYN aZN gN hN
  simp only [toF_mulN,toF_addN,toF_subN,toF_self]
def tmN (m:Nat) (q:N3):Nat→N3→N3
  | 0,r=>r
  | k+1,r=>tmN m q k (if m/2^k%2=1 then aTN (aTN r r) q else aTN r r)
theorem tmN_st {q:N3} {P:F × F} (h:PrjT (toT q) P) (m:Nat): ∀ k a r,PrjT (toT r) (nmul a P)→PrjT (toT (tmN m q k r)) (nmul (a*2^k+m%2^k) P)
  | 0,a,r,hr=>by
    rw [Nat.pow_zero,Nat.mod_one,Nat.mul_one,Nat.add_zero]
    exact hr
  | k + 1,a,r,hr=>by
    rw [tmN]
    have hd:PrjT (toT (aTN r r)) (nmul (2*a) P):=by
      rw [toT_add,nmul_two h.on]
      exact prjT_add hr hr
    have hm:m%2^(k+1)=m/2^k%2*2^k+m%2^k:=by
      rw [Nat.pow_succ,Nat.mod_mul]
      have:=Nat.mul_comm (2^k) (m/2^k%2)
      omega
    rw [hm]
    by_cases hb:m/2^k%2=1
    · rw [if_pos hb,hb]
      have h1:PrjT (toT (aTN (aTN r r) q)) (nmul (2*a+1) P):=by
        rw [toT_add,nmul]
        exact prjT_add hd h
      have h2:=tmN_st h m k _ _ h1
      have e:(2*a+1)*2^k+m%2^k=a*2^(k+1)+(1*2^k+m%2^k):=by
        rw [Nat.pow_succ,Nat.add_mul,Nat.mul_comm 2 a,Nat.mul_assoc,Nat.mul_comm 2 (2^k)]
        omega
      rwa [e] at h2
    · rw [if_neg hb,show m/2^k%2=0 by omega]
      have h2:=tmN_st h m k _ _ hd
      have e:2*a*2^k+m%2^k=a*2^(k+1)+(0*2^k+m%2^k):=by
        rw [Nat.pow_succ,Nat.mul_comm 2 a,Nat.mul_assoc,Nat.mul_comm 2 (2^k)]
        omega
      rwa [e] at h2
def bN:N3:=(15112221349535400772501151409588531511454012693041857206046113283949847762202,46316835694926478169428394003475163141307993866256225615783033603165251855960,1)
theorem lb_0:tmN 268435456 bN 32 (0,1,1)=(23841362315162157963240065961996342192667868126572660254011512261892066362163,10589260136220699371337485741244709369737494800476146485297140171895329239237,57342154075044104467104560113282909513538998314027273285817548568158301075036):=by decide +kernel
theorem lb_1:tmN 0 bN 32 (23841362315162157963240065961996342192667868126572660254011512261892066362163,10589260136220699371337485741244709369737494800476146485297140171895329239237,57342154075044104467104560113282909513538998314027273285817548568158301075036)=(2366596015224409419228293907778329947162201905308173925810546072603219308862,51429684617147213753630951324736354870807210291835695053666508888484204888685,50582619301464365103006457350767437022237261362657536186419869880526353209248):=by decide +kernel
theorem lb_2:tmN 0 bN 32 (2366596015224409419228293907778329947162201905308173925810546072603219308862,51429684617147213753630951324736354870807210291835695053666508888484204888685,50582619301464365103006457350767437022237261362657536186419869880526353209248)=(20777532424812759436869159005616729845936496228373116855199367059090174451217,46833033077795783228137287513215451469051495357528391766149985600663892270996,12535928820462523175293343484786209346012078944725312447705213920059612575304):=by decide +kernel
theorem lb_3:tmN 0 bN 32 (20777532424812759436869159005616729845936496228373116855199367059090174451217,46833033077795783228137287513215451469051495357528391766149985600663892270996,12535928820462523175293343484786209346012078944725312447705213920059612575304)=(9672141512196070665548943507273144682501328322583340732490216110849062207078,12671568344771432064078574730602141615025613805821629041641880695856694176414,57176685240966083224485482510411988601176753720977180540233122387484050933681):=by decide +kernel
theorem lb_4:tmN 350157278 bN 32 (9672141512196070665548943507273144682501328322583340732490216110849062207078,12671568344771432064078574730602141615025613805821629041641880695856694176414,57176685240966083224485482510411988601176753720977180540233122387484050933681)=(35294003475198754010352147657516637167041610721936743570022751750365073639544,11215016236157537800705681124636300308404279959435612888254884863847297638553,11568050246872273510495511478864223873217087176496303572104092641209113196498):=by decide +kernel
theorem lb_5:tmN 2734136534 bN 32 (35294003475198754010352147657516637167041610721936743570022751750365073639544,11215016236157537800705681124636300308404279959435612888254884863847297638553,11568050246872273510495511478864223873217087176496303572104092641209113196498)=(17446806849750267835582977763343052918304149517851760440662027908146206577047,36745153976794028695463204682183659204858593650742192865695796716472098948395,36142305371055007368197543641233705114640808763344021231510026540861242988895):=by decide +kernel
theorem lb_6:tmN 1477600026 bN 32 (17446806849750267835582977763343052918304149517851760440662027908146206577047,36745153976794028695463204682183659204858593650742192865695796716472098948395,36142305371055007368197543641233705114640808763344021231510026540861242988895)=(27292974622146888672833176033024735244794157813523178729207385139090511113751,37814981721543966875794158950171100273490669632616571459594333372447342683173,46971513081324735436660616506554414664936576835784224791853224990108164721309):=by decide +kernel
theorem lb_7:tmN 1559614445 bN 32 (27292974622146888672833176033024735244794157813523178729207385139090511113751,37814981721543966875794158950171100273490669632616571459594333372447342683173,46971513081324735436660616506554414664936576835784224791853224990108164721309)=(0,50090321191994409085177498925701397461314843845488160625525535041103657197703,50090321191994409085177498925701397461314843845488160625525535041103657197703):=by decide +kernel
theorem bN_st:PrjT (toT bN) pB:=by
  have h:=prj_of pB_on
  exact h
theorem lb_st0:PrjT (toT (0,1,1)) (nmul 0 pB):=prj_O
theorem lb_st1:PrjT (toT (23841362315162157963240065961996342192667868126572660254011512261892066362163,10589260136220699371337485741244709369737494800476146485297140171895329239237,57342154075044104467104560113282909513538998314027273285817548568158301075036)) (nmul 268435456 pB):=by
  have h:=tmN_st bN_st 268435456 32 0 _ lb_st0
  rw [lb_0] at h
  exact h
theorem lb_st2:PrjT (toT (2366596015224409419228293907778329947162201905308173925810546072603219308862,51429684617147213753630951324736354870807210291835695053666508888484204888685,50582619301464365103006457350767437022237261362657536186419869880526353209248)) (nmul 1152921504606846976 pB):=by
  have h:=tmN_st bN_st 0 32 268435456 _ lb_st1
  rw [lb_1] at h
  exact h
theorem lb_st3:PrjT (toT (20777532424812759436869159005616729845936496228373116855199367059090174451217,46833033077795783228137287513215451469051495357528391766149985600663892270996,12535928820462523175293343484786209346012078944725312447705213920059612575304)) (nmul 4951760157141521099596496896 pB):=by
  have h:=tmN_st bN_st 0 32 1152921504606846976 _ lb_st2
  rw [lb_2] at h
  exact h
theorem lb_st4:PrjT (toT (9672141512196070665548943507273144682501328322583340732490216110849062207078,12671568344771432064078574730602141615025613805821629041641880695856694176414,57176685240966083224485482510411988601176753720977180540233122387484050933681)) (nmul 21267647932558653966460912964485513216 pB):=by
  have h:=tmN_st bN_st 0 32 4951760157141521099596496896 _ lb_st3
  rw [lb_3] at h
  exact h
theorem lb_st5:PrjT (toT (35294003475198754010352147657516637167041610721936743570022751750365073639544,11215016236157537800705681124636300308404279959435612888254884863847297638553,11568050246872273510495511478864223873217087176496303572104092641209113196498)) (nmul 91343852333181432387730302044767688728845941214 pB):=by
  have h:=tmN_st bN_st 350157278 32 21267647932558653966460912964485513216 _ lb_st4
  rw [lb_4] at h
  exact h
theorem lb_st6:PrjT (toT (17446806849750267835582977763343052918304149517851760440662027908146206577047,36745153976794028695463204682183659204858593650742192865695796716472098948395,36142305371055007368197543641233705114640808763344021231510026540861242988895)) (nmul 392318858461667547739736838950479151007901129339202673878 pB):=by
  have h:=tmN_st bN_st 2734136534 32 91343852333181432387730302044767688728845941214 _ lb_st5
  rw [lb_5] at h
  exact h
theorem lb_st7:PrjT (toT (27292974622146888672833176033024735244794157813523178729207385139090511113751,37814981721543966875794158950171100273490669632616571459594333372447342683173,46971513081324735436660616506554414664936576835784224791853224990108164721309)) (nmul 1684996666696914987166688442938726917108780788113341575023241093914 pB):=by
  have h:=tmN_st bN_st 1477600026 32 392318858461667547739736838950479151007901129339202673878 _ lb_st6
  rw [lb_6] at h
  exact h
theorem lb_st8:PrjT (toT (0,50090321191994409085177498925701397461314843845488160625525535041103657197703,50090321191994409085177498925701397461314843845488160625525535041103657197703)) (nmul 7237005577332262213973186563042994240857116359379907606001950938285454250989 pB):=by
  have h:=tmN_st bN_st 1559614445 32 1684996666696914987166688442938726917108780788113341575023241093914 _ lb_st7
  rw [lb_7] at h
  exact h
theorem lQ_val:lQ=7237005577332262213973186563042994240857116359379907606001950938285454250989:=by decide +kernel
theorem nmul_lQ:nmul lQ pB=pO:=by
  have h:=lb_st8
  rw [← lQ_val] at h
  have hz:=h.nz
  have hx:=h.x
  have hy:=h.y
  generalize nmul lQ pB=P at *
  have h0:(toT (0,50090321191994409085177498925701397461314843845488160625525535041103657197703,50090321191994409085177498925701397461314843845488160625525535041103657197703)).1=0:=by decide +kernel
  have h1:(toT (0,50090321191994409085177498925701397461314843845488160625525535041103657197703,50090321191994409085177498925701397461314843845488160625525535041103657197703)).2.1=(toT (0,50090321191994409085177498925701397461314843845488160625525535041103657197703,50090321191994409085177498925701397461314843845488160625525535041103657197703)).2.2:=rfl
  rw [h0] at hx
  rw [h1] at hy
  generalize (toT (0,50090321191994409085177498925701397461314843845488160625525535041103657197703,50090321191994409085177498925701397461314843845488160625525535041103657197703)).2.2=z at *
  have e1:P.1=0:=by
    rcases F.mul_eq_zero hx.symm with e|e
    · exact e
    · exact absurd e hz
  have e2:P.2=1:=mul_left_cancel hz (g_rot.trans (hy.symm.trans g_x3))
  exact Prod.ext e1 e2
theorem nmul_mod (n:Nat):nmul (n%lQ) pB=nmul n pB:=by
  have h:=nmul_add pB_on (lQ*(n/lQ)) (n%lQ)
  rw [Nat.div_add_mod,nmul_mul pB_on,nmul_lQ,nmul_O,pO_add] at h
  exact h.symm
end Go.Proofs.YtdakeodebgggfaaGreatDoor
namespace Go.Proofs.YtdakeodebgggfaaGreatDoor
open Go.RowKit
def secN (h:List UInt8):List UInt8:=((h.take 32).set 0 (UInt8.ofNat ((h.getD 0 0).toNat-(h.getD 0 0).toNat%8))).set 31 (UInt8.ofNat ((h.getD 31 0).toNat%64+64))
theorem secN_len {h:List UInt8} (lh:h.length=64):(secN h).length=32:=by rw [secN,List.length_set,List.length_set,List.length_take,lh];rfl
@[go_sem] theorem andNot_7 {y:UInt8}:andNotI .u8 (y.toNat:Int) 7=((y.toNat-y.toNat%8:Nat):Int):=by
  have:=byte_cases (P:=fun n=>andNotI .u8 (n:Int) 7==((n-n%8:Nat):Int)) (by decide +kernel) y.toNat_lt
  simpa using this
theorem or_64n {n:Nat} (h:n<256):orI .u8 ((n%128:Nat):Int) 64=((n%64+64:Nat):Int):=by
  have:=byte_cases (P:=fun n=>orI .u8 ((n%128:Nat):Int) 64==((n%64+64:Nat):Int)) (by decide +kernel) h
  simpa using this
@[go_sem] theorem or8_64 {y:UInt8}:orI .u8 ((y.toNat%128:Nat):Int) 64=((y.toNat%64+64:Nat):Int):=or_64n y.toNat_lt
section
variable {G:Nat→Option (List D)}
theorem secret_w {seed h:List UInt8} (lh:h.length=64) (hs:Spec Tryz.prog G 88 [.c (.sl 1 [bytesD seed])] (.one (.g (h.map bD)))) :
    Spec Tryz.prog G 53 [.c (bytesD seed)] (.many [.g ((secN h).map bD),.c (bytesD (h.drop 32))]):=by
  obtain ⟨z1,z2,z3⟩:=cd_facts (l:=h.map bD) (n:=64) (by rw [List.length_map,lh])
  have lt:(h.take 32).length=32:=by rw [List.length_take,lh];rfl
  have ld:(h.drop 32).length=32:=by rw [List.length_drop,lh]
  have ht:((h.map bD).map C.d).take 32=((h.take 32).map bD).map C.d:=by rw [List.map_take,List.map_take]
  have hd:((h.map bD).map C.d).drop 32=((h.drop 32).map bD).map C.d:=by rw [List.map_drop,List.map_drop]
  have e0:(h.take 32)[0]?=some (h.getD 0 0):=by
    rw [List.getElem?_take,if_pos (by omega),List.getD_eq_getElem?_getD]
    rw [List.getElem?_eq_getElem (by omega),Option.getD_some]
  have e1:((h.take 32).set 0 (UInt8.ofNat ((h.getD 0 0).toNat-(h.getD 0 0).toNat%8)))[31]?=some (h.getD 31 0):=by
    rw [List.getElem?_set_ne (by omega),List.getElem?_take,if_pos (by omega),List.getD_eq_getElem?_getD]
    rw [List.getElem?_eq_getElem (by omega),Option.getD_some]
  have g0:=bytesC_get e0
  have g1:=bytesC_get e1
  have s0:=bytesC_set (l:=h.take 32) (k:=0) (v:=(h.getD 0 0).toNat-(h.getD 0 0).toNat%8) (by have:=(h.getD 0 0).toNat_lt;omega)
  have s1:=bytesC_set (l:=(h.take 32).set 0 (UInt8.ofNat ((h.getD 0 0).toNat-(h.getD 0 0).toNat%8))) (k:=31) (v:=(h.getD 31 0).toNat%64+64) (by omega)
  have hsn:((h.take 32).set 0 (UInt8.ofNat ((h.getD 0 0).toNat-(h.getD 0 0).toNat%8))).set 31 (UInt8.ofNat ((h.getD 31 0).toNat%64+64))=secN h:=rfl
  rw [hsn] at s1
  have ln:=secN_len lh
  have lm:((h.take 32).set 0 (UInt8.ofNat ((h.getD 0 0).toNat-(h.getD 0 0).toNat%8))).length=32:=by rw [List.length_set,lt]
  obtain ⟨n1,n2,n3⟩:=cd_facts (l:=(secN h).map bD) (n:=32) (by rw [List.length_map,ln])
  have hd2:(h.map bD).drop 32=(h.drop 32).map bD:=by rw [List.map_drop]
  have hd3:((h.drop 32).map bD).take 32=(h.drop 32).map bD:=List.take_of_length_le (by rw [List.length_map,ld];omega)
  generalize secN h=N at *
  generalize (h.take 32).set 0 (UInt8.ofNat ((h.getD 0 0).toNat-(h.getD 0 0).toNat%8))=M at *
  generalize h.getD 0 0=b0 at *
  generalize h.getD 31 0=b31 at *
  generalize h.take 32=T at *
  generalize h.drop 32=P at *
  refine spec_of Tryz.func53 rfl rfl rfl (by kernel_rfl) rfl fun K=>?_
  (repeat' (first|with_reducible (first|refine zA fun Kn hK=>?_|refine zB (by kernel_rfl) ?_|refine Nx.go ?_|go_step)|(refine ⟨none,?_⟩)|(refine ⟨_,hs,?_⟩)|with_reducible (first|refine zI ?_|refine zJ ?_|refine zK ?_ ?_|refine zL ?_ ?_|refine zR (by kernel_rfl) ?_)|simp (maxSteps:=9999999) (disch:=omega) only [wq]|(with_reducible refine zM (fun hb=>?_) (fun hb=>?_) <;> (try simp only [hb]))|(with_reducible refine And.intro (by first|omega|(simp;done)|(simp;omega)) ?_)|simp (maxSteps:=9999999) (implicitDefEqProofs:=false) only [go_sem,ht,hd,hd2,hd3,n1,n2,n3,g0,g1,s0,s1,z1,z2,z3,lt,ld,ln,lm,lh,List.length_map,List.length_replicate,List.drop_replicate,List.append_nil]|fail))
end
end Go.Proofs.YtdakeodebgggfaaGreatDoor
