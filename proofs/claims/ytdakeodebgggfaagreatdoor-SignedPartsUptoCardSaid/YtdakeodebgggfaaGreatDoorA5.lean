/- Parts of the proof, laid together. -/
import Derived.Test.YtdakeodebgggfaaGreatDoorA4
import Derived.Shelf.Spec.BitsCarry
set_option linter.unusedVariables false
set_option linter.unusedSimpArgs false
set_option maxRecDepth 100000
set_option maxHeartbeats 8000000
namespace Go.Proofs.YtdakeodebgggfaaGreatDoor
def elV:List Nat→Nat
  | []=>0
  | a::l=>a+2251799813685248*elV l
def El (l:List Nat):Prop:=l.length=5∧ ∀ x∈l,x<4503599627370496
def elF (l:List Nat):F:=toF (elV l)
theorem five {l:List Nat} (h:l.length=5): ∃ a b c d e,l=[a,b,c,d,e]:=by
  match l,h with
  | [a,b,c,d,e],_=>exact ⟨a,b,c,d,e,rfl⟩
theorem toF_p (n k:Nat):toF (n+pP*k)=toF n:=toF_eq (Nat.add_mul_mod_self_left ..)
theorem toF_19 (n c:Nat):toF (n+57896044618658097711785492504343953926634992332820282019728792003956564819968*c)=toF (n+19*c):=by
  have:n+57896044618658097711785492504343953926634992332820282019728792003956564819968*c=(n+19*c)+pP*c:=by
    unfold pP
    omega
  rw [this,toF_p]
theorem div51 (q:Nat) {r:Nat} (h:r<2251799813685248):(q*2251799813685248+r)/2251799813685248=q∧(q*2251799813685248+r)%2251799813685248=r:=by omega
theorem carry_ok {l:List Nat} (hl:l.length=5) (hb: ∀ x∈l,x<9223372036854775808):El (carryL l)∧elF (carryL l)=elF l∧(∀ i,0<i→(carryL l).getD i 0<2251799813685248)∧(carryL l).getD 0 0<2251799813685248+77825:=by
  obtain ⟨a,b,c,d,e,rfl⟩:=five hl
  simp only [List.forall_mem_cons,List.not_mem_nil,false_implies,implies_true,and_true] at hb
  obtain ⟨h1,h2,h3,h4,h5⟩:=hb
  obtain ⟨q1,r1,e1,l1⟩: ∃ q r,a=q*2251799813685248+r∧r<2251799813685248:=⟨a/2251799813685248,a%2251799813685248,by omega,by omega⟩
  obtain ⟨q2,r2,e2,l2⟩: ∃ q r,b+q1=q*2251799813685248+r∧r<2251799813685248:=⟨(b+q1)/2251799813685248,(b+q1)%2251799813685248,by omega,by omega⟩
  obtain ⟨q3,r3,e3,l3⟩: ∃ q r,c+q2=q*2251799813685248+r∧r<2251799813685248:=⟨(c+q2)/2251799813685248,(c+q2)%2251799813685248,by omega,by omega⟩
  obtain ⟨q4,r4,e4,l4⟩: ∃ q r,d+q3=q*2251799813685248+r∧r<2251799813685248:=⟨(d+q3)/2251799813685248,(d+q3)%2251799813685248,by omega,by omega⟩
  obtain ⟨q5,r5,e5,l5⟩: ∃ q r,e+q4=q*2251799813685248+r∧r<2251799813685248:=⟨(e+q4)/2251799813685248,(e+q4)%2251799813685248,by omega,by omega⟩
  have m1:(a+0)%18446744073709551616=q1*2251799813685248+r1:=by omega
  have m2:(b+q1)%18446744073709551616=q2*2251799813685248+r2:=by omega
  have m3:(c+q2)%18446744073709551616=q3*2251799813685248+r3:=by omega
  have m4:(d+q3)%18446744073709551616=q4*2251799813685248+r4:=by omega
  have m5:(e+q4)%18446744073709551616=q5*2251799813685248+r5:=by omega
  have d1:=(div51 q1 l1).1
  have d2:=(div51 q2 l2).1
  have d3:=(div51 q3 l3).1
  have d4:=(div51 q4 l4).1
  have d5:=(div51 q5 l5).1
  have t1:=(div51 q1 l1).2
  have t2:=(div51 q2 l2).2
  have t3:=(div51 q3 l3).2
  have t4:=(div51 q4 l4).2
  have t5:=(div51 q5 l5).2
  have s1:carS [a,b,c,d,e] 1=([r1,b,c,d,e],q1):=by
    show ([(a+0)%18446744073709551616%2251799813685248,b,c,d,e],(a+0)%18446744073709551616/2251799813685248)=_
    rw [m1,d1,t1]
  have s2:carS [a,b,c,d,e] 2=([r1,r2,c,d,e],q2):=by
    rw [carS,s1]
    show ([r1,(b+q1)%18446744073709551616%2251799813685248,c,d,e],(b+q1)%18446744073709551616/2251799813685248)=_
    rw [m2,d2,t2]
  have s3:carS [a,b,c,d,e] 3=([r1,r2,r3,d,e],q3):=by
    rw [carS,s2]
    show ([r1,r2,(c+q2)%18446744073709551616%2251799813685248,d,e],(c+q2)%18446744073709551616/2251799813685248)=_
    rw [m3,d3,t3]
  have s4:carS [a,b,c,d,e] 4=([r1,r2,r3,r4,e],q4):=by
    rw [carS,s3]
    show ([r1,r2,r3,(d+q3)%18446744073709551616%2251799813685248,e],(d+q3)%18446744073709551616/2251799813685248)=_
    rw [m4,d4,t4]
  have s5:carS [a,b,c,d,e] 5=([r1,r2,r3,r4,r5],q5):=by
    rw [carS,s4]
    show ([r1,r2,r3,r4,(e+q4)%18446744073709551616%2251799813685248],(e+q4)%18446744073709551616/2251799813685248)=_
    rw [m5,d5,t5]
  have m6:(r1+19*q5%18446744073709551616)%18446744073709551616=r1+19*q5:=by omega
  have hc:carryL [a,b,c,d,e]=[r1+19*q5,r2,r3,r4,r5]:=by
    rw [carryL,s5]
    show [(r1+19*q5%18446744073709551616)%18446744073709551616,r2,r3,r4,r5]=_
    rw [m6]
  rw [hc]
  refine ⟨⟨rfl,?_⟩,?_,?_,?_⟩
  · simp only [List.forall_mem_cons,List.not_mem_nil,false_implies,implies_true,and_true]
    omega
  · have hv:elV [a,b,c,d,e]=elV [r1,r2,r3,r4,r5]+57896044618658097711785492504343953926634992332820282019728792003956564819968*q5:=by
      simp only [elV]
      omega
    rw [elF,elF,hv,toF_19]
    congr 1
    simp only [elV]
    omega
  · intro i hi
    match i,hi with
    | 1,_=>exact l2
    | 2,_=>exact l3
    | 3,_=>exact l4
    | 4,_=>exact l5
    | i+5,_=>exact (by decide:0<2251799813685248)
  · show r1+19*q5<_
    omega
def Prop51 (l:List Nat):Prop:=l.length=5∧ ∀ x∈l,x<2251799813685248
def lim51 (n:Nat):List Nat:=[n%2251799813685248,n/2251799813685248%2251799813685248,n/2251799813685248/2251799813685248%2251799813685248,n/2251799813685248/2251799813685248/2251799813685248%2251799813685248,n/2251799813685248/2251799813685248/2251799813685248/2251799813685248%2251799813685248]
theorem lim51_prop (n:Nat):Prop51 (lim51 n):=by
  refine ⟨rfl,fun x hx=>?_⟩
  simp only [lim51,List.mem_cons,List.not_mem_nil,or_false] at hx
  rcases hx with rfl|rfl|rfl|rfl|rfl <;> exact Nat.mod_lt _ (by decide)
theorem prop_lim {l:List Nat} (h:Prop51 l):lim51 (elV l)=l:=by
  obtain ⟨h1,h2⟩:=h
  obtain ⟨a,b,c,d,e,rfl⟩:=five h1
  simp only [List.forall_mem_cons,List.not_mem_nil,false_implies,implies_true,and_true] at h2
  obtain ⟨p1,p2,p3,p4,p5⟩:=h2
  have key: ∀ a n:Nat,a<2251799813685248→(a+2251799813685248*n)%2251799813685248=a∧(a+2251799813685248*n)/2251799813685248=n:=fun a n h=>by omega
  simp only [lim51,elV,(key a _ p1).1,(key a _ p1).2,(key b _ p2).1,(key b _ p2).2,(key c _ p3).1,(key c _ p3).2,(key d _ p4).1,(key d _ p4).2,(key e _ p5).1]
theorem elV_lt {l:List Nat} (h:Prop51 l):elV l<57896044618658097711785492504343953926634992332820282019728792003956564819968:=by
  obtain ⟨h1,h2⟩:=h
  obtain ⟨a,b,c,d,e,rfl⟩:=five h1
  simp only [List.forall_mem_cons,List.not_mem_nil,false_implies,implies_true,and_true] at h2
  simp only [elV]
  omega
theorem elV_lim {n:Nat} (h:n<57896044618658097711785492504343953926634992332820282019728792003956564819968):elV (lim51 n)=n:=by
  simp only [elV,lim51]
  have key: ∀ n:Nat,n%2251799813685248+2251799813685248*(n/2251799813685248)=n:=fun n=>by omega
  have h5:n/2251799813685248/2251799813685248/2251799813685248/2251799813685248<2251799813685248:=by omega
  rw [Nat.mod_eq_of_lt h5,Nat.mul_zero,Nat.add_zero,key,key,key,key]
theorem carS_ok {l:List Nat} (hl:l.length=5) (hb: ∀ x∈l,x<9223372036854775808):Prop51 (carS l 5).1∧elV l=elV (carS l 5).1+57896044618658097711785492504343953926634992332820282019728792003956564819968*(carS l 5).2∧(carS l 5).2<4097:=by
  obtain ⟨a,b,c,d,e,rfl⟩:=five hl
  simp only [List.forall_mem_cons,List.not_mem_nil,false_implies,implies_true,and_true] at hb
  obtain ⟨h1,h2,h3,h4,h5⟩:=hb
  obtain ⟨q1,r1,e1,l1⟩: ∃ q r,a=q*2251799813685248+r∧r<2251799813685248:=⟨a/2251799813685248,a%2251799813685248,by omega,by omega⟩
  obtain ⟨q2,r2,e2,l2⟩: ∃ q r,b+q1=q*2251799813685248+r∧r<2251799813685248:=⟨(b+q1)/2251799813685248,(b+q1)%2251799813685248,by omega,by omega⟩
  obtain ⟨q3,r3,e3,l3⟩: ∃ q r,c+q2=q*2251799813685248+r∧r<2251799813685248:=⟨(c+q2)/2251799813685248,(c+q2)%2251799813685248,by omega,by omega⟩
  obtain ⟨q4,r4,e4,l4⟩: ∃ q r,d+q3=q*2251799813685248+r∧r<2251799813685248:=⟨(d+q3)/2251799813685248,(d+q3)%2251799813685248,by omega,by omega⟩
  obtain ⟨q5,r5,e5,l5⟩: ∃ q r,e+q4=q*2251799813685248+r∧r<2251799813685248:=⟨(e+q4)/2251799813685248,(e+q4)%2251799813685248,by omega,by omega⟩
  have m1:(a+0)%18446744073709551616=q1*2251799813685248+r1:=by omega
  have m2:(b+q1)%18446744073709551616=q2*2251799813685248+r2:=by omega
  have m3:(c+q2)%18446744073709551616=q3*2251799813685248+r3:=by omega
  have m4:(d+q3)%18446744073709551616=q4*2251799813685248+r4:=by omega
  have m5:(e+q4)%18446744073709551616=q5*2251799813685248+r5:=by omega
  have s1:carS [a,b,c,d,e] 1=([r1,b,c,d,e],q1):=by
    show ([(a+0)%18446744073709551616%2251799813685248,b,c,d,e],(a+0)%18446744073709551616/2251799813685248)=_
    rw [m1,(div51 q1 l1).1,(div51 q1 l1).2]
  have s2:carS [a,b,c,d,e] 2=([r1,r2,c,d,e],q2):=by
    rw [carS,s1]
    show ([r1,(b+q1)%18446744073709551616%2251799813685248,c,d,e],(b+q1)%18446744073709551616/2251799813685248)=_
    rw [m2,(div51 q2 l2).1,(div51 q2 l2).2]
  have s3:carS [a,b,c,d,e] 3=([r1,r2,r3,d,e],q3):=by
    rw [carS,s2]
    show ([r1,r2,(c+q2)%18446744073709551616%2251799813685248,d,e],(c+q2)%18446744073709551616/2251799813685248)=_
    rw [m3,(div51 q3 l3).1,(div51 q3 l3).2]
  have s4:carS [a,b,c,d,e] 4=([r1,r2,r3,r4,e],q4):=by
    rw [carS,s3]
    show ([r1,r2,r3,(d+q3)%18446744073709551616%2251799813685248,e],(d+q3)%18446744073709551616/2251799813685248)=_
    rw [m4,(div51 q4 l4).1,(div51 q4 l4).2]
  have s5:carS [a,b,c,d,e] 5=([r1,r2,r3,r4,r5],q5):=by
    rw [carS,s4]
    show ([r1,r2,r3,r4,(e+q4)%18446744073709551616%2251799813685248],(e+q4)%18446744073709551616/2251799813685248)=_
    rw [m5,(div51 q5 l5).1,(div51 q5 l5).2]
  rw [s5]
  refine ⟨⟨rfl,?_⟩,?_,?_⟩
  · simp only [List.forall_mem_cons,List.not_mem_nil,false_implies,implies_true,and_true]
    exact ⟨l1,l2,l3,l4,l5⟩
  · simp only [elV]
    omega
  · clear m1 m2 m3 m4 m5 s1 s2 s3 s4 s5
    dsimp only
    omega
theorem set0 {l:List Nat} (h:l.length=5) (x:Nat):elV (l.set 0 x)+l.getD 0 0=elV l+x:=by
  obtain ⟨a,b,c,d,e,rfl⟩:=five h
  show elV (x::[b,c,d,e])+a=elV (a::[b,c,d,e])+x
  simp only [elV]
  omega
theorem carryL_eq {l:List Nat} (hl:l.length=5) (hb: ∀ x∈l,x<9223372036854775808):carryL l=(carS l 5).1.set 0 ((carS l 5).1.getD 0 0+19*(carS l 5).2):=by
  obtain ⟨h1,h2,h3⟩:=carS_ok hl hb
  have h4:(carS l 5).1.getD 0 0<2251799813685248:=by
    obtain ⟨a,b,c,d,e,he⟩:=five h1.1
    rw [he] at h1 ⊢
    exact h1.2 a (by simp)
  rw [carryL,Nat.mod_eq_of_lt (a:=19*_) (by omega),Nat.mod_eq_of_lt (by omega)]
theorem carry_prop {l:List Nat} (hl:l.length=5) (hb: ∀ x∈l,x<9223372036854775808) (hv:elV l<57896044618658097711785492504343953926634992332820282019728792003956564819968+100000):Prop51 (carryL l)∧elF (carryL l)=elF l:=by
  obtain ⟨h1,h2,h3⟩:=carS_ok hl hb
  have h5:=(carry_ok hl hb).2.1
  refine ⟨?_,h5⟩
  rw [carryL_eq hl hb]
  clear h5
  obtain ⟨a,b,c,d,e,he⟩:=five h1.1
  rw [he] at h1 h2 ⊢
  have h6:=h1.2
  simp only [List.forall_mem_cons,List.not_mem_nil,false_implies,implies_true,and_true] at h6
  refine ⟨by simp,?_⟩
  show ∀ x∈[a+19*(carS l 5).2,b,c,d,e],x<2251799813685248
  simp only [List.forall_mem_cons,List.not_mem_nil,false_implies,implies_true,and_true]
  refine ⟨?_,h6.2⟩
  simp only [elV] at h2 hv
  generalize (carS l 5).2=q at *
  by_cases hq:q=0
  · omega
  · have:a<100000:=by omega
    have:q≤1:=by omega
    omega
def redX (l:List Nat):List Nat:=carryL (carryL (carryL l))
def redY (l:List Nat):List Nat × Nat:=carS ((redX l).set 0 (((redX l).getD 0 0+19)%18446744073709551616)) 5
def redL (l:List Nat):List Nat:=if 0<(redY l).2 then (redY l).1 else redX l
theorem El.big {l:List Nat} (h:El l): ∀ x∈l,x<9223372036854775808:=fun x hx=>Nat.lt_trans (h.2 x hx) (by decide)
theorem Prop51.el {l:List Nat} (h:Prop51 l):El l:=⟨h.1,fun x hx=>Nat.lt_trans (h.2 x hx) (by decide)⟩
theorem red_ok {l:List Nat} (hl:l.length=5) (hb: ∀ x∈l,x<9223372036854775808):redL l=lim51 (elF l).val:=by
  obtain ⟨a1,a2,a3,a4⟩:=carry_ok hl hb
  have hv:elV (carryL l)<57896044618658097711785492504343953926634992332820282019728792003956564819968+100000:=by
    obtain ⟨a,b,c,d,e,he⟩:=five a1.1
    rw [he] at a3 a4 ⊢
    have q1:=a3 1 (by omega)
    have q2:=a3 2 (by omega)
    have q3:=a3 3 (by omega)
    have q4:=a3 4 (by omega)
    simp at q1 q2 q3 q4 a4
    simp only [elV]
    omega
  obtain ⟨b1,b2⟩:=carry_prop a1.1 a1.big hv
  obtain ⟨c1,c2⟩:=carry_prop b1.1 b1.el.big (Nat.lt_trans (elV_lt b1) (by omega))
  have hX:redX l=carryL (carryL (carryL l)):=rfl
  rw [← hX] at c1 c2
  have hF:elF (redX l)=elF l:=by rw [c2,b2,a2]
  have hlt:=elV_lt c1
  have hY:redY l=carS ((redX l).set 0 (((redX l).getD 0 0+19)%18446744073709551616)) 5:=rfl
  have hR:redL l=if 0<(redY l).2 then (redY l).1 else redX l:=rfl
  have h0:(redX l).getD 0 0<2251799813685248:=by
    obtain ⟨a,b,c,d,e,he⟩:=five c1.1
    rw [he] at c1 ⊢
    exact c1.2 a (by simp)
  rw [Nat.mod_eq_of_lt (show (redX l).getD 0 0+19<18446744073709551616 by omega)] at hY
  have hs:=set0 c1.1 ((redX l).getD 0 0+19)
  have hsl:((redX l).set 0 ((redX l).getD 0 0+19)).length=5:=by rw [List.length_set,c1.1]
  have hsb: ∀ x∈(redX l).set 0 ((redX l).getD 0 0+19),x<9223372036854775808:=by
    intro x hx
    rcases List.mem_or_eq_of_mem_set hx with h|h
    · exact c1.el.big x h
    · omega
  obtain ⟨d1,d2,d3⟩:=carS_ok hsl hsb
  rw [← hY] at d1 d2 d3
  have hval:(elF l).val=elV (redX l)%pP:=by rw [← hF];rfl
  rw [hR,hval]
  generalize redX l=X at *
  generalize redY l=Y at *
  have e1:elV X+19=elV Y.1+57896044618658097711785492504343953926634992332820282019728792003956564819968*Y.2:=by omega
  have e2:=elV_lt d1
  have hpv:pP=57896044618658097711785492504343953926634992332820282019728792003956564819949:=rfl
  clear a1 a2 a3 a4 hv b1 b2 c2 hX hF hR hval hs hsl hsb h0 d3
  split
  · have h1:Y.2=1:=by omega
    have h2:elV X=elV Y.1+pP:=by omega
    have h3:elV X%pP=elV Y.1:=by
      rw [h2,Nat.add_mod_right,Nat.mod_eq_of_lt]
      omega
    rw [h3,prop_lim d1]
  · have h3:elV X%pP=elV X:=Nat.mod_eq_of_lt (by omega)
    rw [h3,prop_lim c1]
def addS (a b:List Nat):Nat→List Nat
  | 0=>a
  | k+1=>(addS a b k).set k (((addS a b k).getD k 0+b.getD k 0)%18446744073709551616)
theorem addS_len (a b:List Nat): ∀ k,(addS a b k).length=a.length
  | 0=>rfl
  | k+1=>by rw [addS,List.length_set,addS_len]
theorem addS_ok {a b:List Nat} (ha:El a) (hb:El b):(addS a b 5).length=5∧(∀ x∈addS a b 5,x<9223372036854775808)∧elF (addS a b 5)=elF a+elF b:=by
  obtain ⟨a0,a1,a2,a3,a4,rfl⟩:=five ha.1
  obtain ⟨b0,b1,b2,b3,b4,rfl⟩:=five hb.1
  have h1:=ha.2
  have h2:=hb.2
  simp only [List.forall_mem_cons,List.not_mem_nil,false_implies,implies_true,and_true] at h1 h2
  have e:addS [a0,a1,a2,a3,a4] [b0,b1,b2,b3,b4] 5=[a0+b0,a1+b1,a2+b2,a3+b3,a4+b4]:=by
    show [(a0+b0)%18446744073709551616,(a1+b1)%18446744073709551616,(a2+b2)%18446744073709551616,(a3+b3)%18446744073709551616,(a4+b4)%18446744073709551616]=_
    rw [Nat.mod_eq_of_lt (by omega),Nat.mod_eq_of_lt (by omega),Nat.mod_eq_of_lt (by omega),Nat.mod_eq_of_lt (by omega),Nat.mod_eq_of_lt (by omega)]
  rw [e]
  refine ⟨rfl,?_,?_⟩
  · simp only [List.forall_mem_cons,List.not_mem_nil,false_implies,implies_true,and_true]
    omega
  · rw [elF,elF,elF,← toF_add]
    congr 1
    simp only [elV]
    omega
def p4 (k:Nat):Nat:=if k=0 then 9007199254740916 else 9007199254740988
def subS (a b:List Nat):Nat→List Nat
  | 0=>a
  | k+1=>(subS a b k).set k (((subS a b k).getD k 0+(p4 k+(18446744073709551616-b.getD k 0%18446744073709551616))%18446744073709551616)%18446744073709551616)
theorem subS_len (a b:List Nat): ∀ k,(subS a b k).length=a.length
  | 0=>rfl
  | k+1=>by rw [subS,List.length_set,subS_len]
theorem sub_mod {a b q:Nat} (ha:a<4503599627370496) (hb:b≤q) (hq:q<9007199254740992):(a+(q+(18446744073709551616-b%18446744073709551616))%18446744073709551616)%18446744073709551616=a+(q-b):=by omega
theorem F_sub {a b c:F} (h:a+c=b):a=b-c:=g_sub h
theorem subS_ok {a b:List Nat} (ha:El a) (hb:b.length=5) (hb2: ∀ x∈b,x<4503599627370496):(subS a b 5).length=5∧(∀ x∈subS a b 5,x<9223372036854775808)∧elF (subS a b 5)=elF a-elF b:=by
  obtain ⟨a0,a1,a2,a3,a4,rfl⟩:=five ha.1
  obtain ⟨b0,b1,b2,b3,b4,rfl⟩:=five hb
  have h1:=ha.2
  simp only [List.forall_mem_cons,List.not_mem_nil,false_implies,implies_true,and_true] at h1 hb2
  obtain ⟨x0,x1,x2,x3,x4⟩:=h1
  obtain ⟨y0,y1,y2,y3,y4⟩:=hb2
  have e:subS [a0,a1,a2,a3,a4] [b0,b1,b2,b3,b4] 5=[a0+(9007199254740916-b0),a1+(9007199254740988-b1),a2+(9007199254740988-b2),a3+(9007199254740988-b3),a4+(9007199254740988-b4)]:=by
    show [(a0+(9007199254740916+(18446744073709551616-b0%18446744073709551616))%18446744073709551616)%18446744073709551616,(a1+(9007199254740988+(18446744073709551616-b1%18446744073709551616))%18446744073709551616)%18446744073709551616,(a2+(9007199254740988+(18446744073709551616-b2%18446744073709551616))%18446744073709551616)%18446744073709551616,(a3+(9007199254740988+(18446744073709551616-b3%18446744073709551616))%18446744073709551616)%18446744073709551616,(a4+(9007199254740988+(18446744073709551616-b4%18446744073709551616))%18446744073709551616)%18446744073709551616]=_
    rw [sub_mod x0 (by omega) (by omega),sub_mod x1 (by omega) (by omega),sub_mod x2 (by omega) (by omega),sub_mod x3 (by omega) (by omega),sub_mod x4 (by omega) (by omega)]
  rw [e]
  refine ⟨rfl,?_,?_⟩
  · simp only [List.forall_mem_cons,List.not_mem_nil,false_implies,implies_true,and_true]
    omega
  · apply F_sub
    rw [elF,elF,elF,← toF_add]
    have:elV [a0+(9007199254740916-b0),a1+(9007199254740988-b1),a2+(9007199254740988-b2),a3+(9007199254740988-b3),a4+(9007199254740988-b4)]+elV [b0,b1,b2,b3,b4]=elV [a0,a1,a2,a3,a4]+pP*4:=by
      unfold pP
      simp only [elV]
      omega
    rw [this,toF_p]
end Go.Proofs.YtdakeodebgggfaaGreatDoor
namespace Go.Proofs.YtdakeodebgggfaaGreatDoor
open Go.RowKit
theorem reduced_m {G:Nat→Option (List D)} (l:List Nat) (hl:l.length=5) (hb: ∀ x∈l,x<9223372036854775808):Spec Tryz.prog G 121 [.g (l.map nD)] (.one (.g ((lim51 (elF l).val).map nD))):=by
  rw [← red_ok hl hb]
  have c1:(carryL l).length=5:=by rw [carryL,List.length_set,carS_len,hl]
  have c2:(carryL (carryL l)).length=5:=by rw [carryL,List.length_set,carS_len,c1]
  have c3:(redX l).length=5:=by rw [redX,carryL,List.length_set,carS_len,c2]
  have m1:=carry_m (G:=G) l hl
  have m2:=carry_m (G:=G) (carryL l) c1
  have m3:=carry_m (G:=G) (carryL (carryL l)) c2
  rw [← show redX l=carryL (carryL (carryL l)) from rfl] at m3
  have hY:redY l=carS ((redX l).set 0 (((redX l).getD 0 0+19)%18446744073709551616)) 5:=rfl
  have hR:redL l=if 0<(redY l).2 then (redY l).1 else redX l:=rfl
  generalize redX l=X at *
  generalize redY l=Y at *
  have t0:=numsC_take hl;have u0:=nums_take hl;have d0:=numsC_drop hl
  have t1:=numsC_take c1;have u1:=nums_take c1;have d1:=numsC_drop c1
  have t2:=numsC_take c2;have u2:=nums_take c2;have d2:=numsC_drop c2
  have t3:=numsC_take c3;have u3:=nums_take c3;have d3:=numsC_drop c3
  have g0:=numsC_get (l:=X) (k:=0) (by omega)
  have zl:(List.replicate 5 0).length=5:=by simp
  refine spec_of Tryz.func121 rfl rfl rfl (by kernel_rfl) rfl fun K=>?_
  (repeat' (first|with_reducible (first|refine zA fun Kn hK=>?_|refine zB (by kernel_rfl) ?_|refine Nx.go ?_|go_step)|(refine ⟨_,m1,?_⟩)|(refine ⟨_,m2,?_⟩)|(refine ⟨_,m3,?_⟩)|with_reducible (first|refine zI ?_|refine zJ ?_|refine zK ?_ ?_|refine zL ?_ ?_|refine zR (by kernel_rfl) ?_)|simp (maxSteps:=9999999) (disch:=omega) only [wq]|(with_reducible refine zM (fun hb=>?_) (fun hb=>?_) <;> (try simp only [hb]))|(with_reducible refine And.intro (by first|omega|(simp;done)|(simp;omega)) ?_)|simp (maxSteps:=9999999) (implicitDefEqProofs:=false) only [go_sem,List.length_map,List.append_nil,hl,c1,c2,c3,t0,t1,t2,t3,d0,d1,d2,d3,u1,u2,u3,g0]|fail))
  generalize hZ:X.set 0 ((X.getD 0 0+19)%18446744073709551616)=Z at *
  have hZl:Z.length=5:=by rw [← hZ,List.length_set,c3]
  refine sound_loopR (fun x:{k:Nat // k≤5}=>⟨[(1,vP 1 0),(2,vP 2 0),(3,vP 3 0),(4,.a (.c (.d (nD (carS Z x.1).2)))),(17,vI x.1)],[(1,some ⟨81,(X.map nD).map C.d,true,false⟩),(2,some ⟨81,zeroOf Tryz.prog 81,true,false⟩),(3,some ⟨81,((carS Z x.1).1.map nD).map C.d,true,false⟩)]⟩) (fun x=>5-x.1) ⟨0,by omega⟩ [] (by (iterate 2 ((try simp (maxSteps:=9999999) (implicitDefEqProofs:=false) only [go_sem,true_and]);(try simp (maxSteps:=9999999) (disch:=omega) only [wq])));simp [carS]) (fun ⟨k,hk⟩=>?_)
  have hlk:=carS_len Z k
  rw [hZl] at hlk
  by_cases hlt:k<5
  · have hb:decide ((k:Int)<5)=true:=decide_eq_true (by omega)
    have hg1:=numsC_get (l:=(carS Z k).1) (k:=k) (by omega)
    have hg2:=numsC_new (l:=(carS Z k).1) (k:=k) (v:=((carS Z k).1.getD k 0+(carS Z k).2)%18446744073709551616) (by omega)
    (repeat' (first|with_reducible (first|refine zA fun Kn hK=>?_|refine zB (by kernel_rfl) ?_|refine Nx.go ?_|go_step)|fail|with_reducible (first|refine zI ?_|refine zJ ?_|refine zK ?_ ?_|refine zL ?_ ?_|refine zR (by kernel_rfl) ?_)|simp (maxSteps:=9999999) (disch:=omega) only [wq]|(with_reducible refine zM (fun hb=>?_) (fun hb=>?_) <;> (try simp only [hb]))|(with_reducible refine And.intro (by first|omega|(simp;done)|(simp;omega)) ?_)|simp (maxSteps:=9999999) (implicitDefEqProofs:=false) only [go_sem,hb,List.length_map,List.length_set,List.set_set,hlk,hg1,hg2]|fail))
    refine ⟨[],⟨k+1,hlt⟩,?_⟩
    (iterate 2 ((try simp (maxSteps:=9999999) (implicitDefEqProofs:=false) only [go_sem,carS,List.set_set]);(try simp (maxSteps:=9999999) (disch:=omega) only [wq])))
    try (simp only [ijq,true_and,and_true];first|done|omega|(split <;> omega)|(simp;done)|(simp;omega))
  · have hb:decide ((k:Int)<5)=false:=decide_eq_false (by omega)
    obtain rfl:k=5:=by omega
    rw [← hY] at hlk
    have t4:=numsC_take hlk;have u4:=nums_take hlk;have d4:=numsC_drop hlk
    by_cases hc:0<Y.2
    · have hb2:decide ((0:Int)<(Y.2:Int))=true:=decide_eq_true (by omega)
      rw [if_pos hc] at hR
      (repeat' (first|with_reducible (first|refine zA fun Kn hK=>?_|refine zB (by kernel_rfl) ?_|refine Nx.go ?_|go_step)|fail|with_reducible (first|refine zI ?_|refine zJ ?_|refine zK ?_ ?_|refine zL ?_ ?_|refine zR (by kernel_rfl) ?_)|simp (maxSteps:=9999999) (disch:=omega) only [wq]|(with_reducible refine zM (fun hb=>?_) (fun hb=>?_) <;> (try simp only [hb]))|(with_reducible refine And.intro (by first|omega|(simp;done)|(simp;omega)) ?_)|simp (maxSteps:=9999999) (implicitDefEqProofs:=false) only [go_sem,hb,hb2,← hY,gt_iff_lt,List.length_map,List.length_set,List.append_nil,hlk,c3,t3,d3,t4,d4]|fail))
      all_goals (rw [hR])
    · have hb2:decide ((0:Int)<(Y.2:Int))=false:=decide_eq_false (by omega)
      rw [if_neg hc] at hR
      (repeat' (first|with_reducible (first|refine zA fun Kn hK=>?_|refine zB (by kernel_rfl) ?_|refine Nx.go ?_|go_step)|fail|with_reducible (first|refine zI ?_|refine zJ ?_|refine zK ?_ ?_|refine zL ?_ ?_|refine zR (by kernel_rfl) ?_)|simp (maxSteps:=9999999) (disch:=omega) only [wq]|(with_reducible refine zM (fun hb=>?_) (fun hb=>?_) <;> (try simp only [hb]))|(with_reducible refine And.intro (by first|omega|(simp;done)|(simp;omega)) ?_)|simp (maxSteps:=9999999) (implicitDefEqProofs:=false) only [go_sem,hb,hb2,← hY,gt_iff_lt,List.length_map,List.length_set,List.append_nil,hlk,c3,t3,d3,t4,d4]|fail))
      all_goals (rw [hR])
end Go.Proofs.YtdakeodebgggfaaGreatDoor
namespace Go.Proofs.YtdakeodebgggfaaGreatDoor
open Go.RowKit
theorem of5_m {G:Nat→Option (List D)} (n:Nat) (hn:n<2251799813685248):El [n,0,0,0,0]∧elF [n,0,0,0,0]=toF n∧Spec Tryz.prog G 80 [.c (nD n)] (.one (.g ([n,0,0,0,0].map nD))):=by
  refine ⟨⟨rfl,?_⟩,?_,?_⟩
  · simp only [List.forall_mem_cons,List.not_mem_nil,false_implies,implies_true,and_true]
    omega
  · rw [elF]
    congr 1
  · have h1:n%18446744073709551616%2251799813685248=n:=by omega
    have h2:n/2251799813685248=0:=by omega
    refine spec_of Tryz.func80 rfl rfl rfl (by kernel_rfl) rfl fun K=>?_
    (repeat' (first|with_reducible (first|refine zA fun Kn hK=>?_|refine zB (by kernel_rfl) ?_|refine Nx.go ?_|go_step)|fail|with_reducible (first|refine zI ?_|refine zJ ?_|refine zK ?_ ?_|refine zL ?_ ?_|refine zR (by kernel_rfl) ?_)|simp (maxSteps:=9999999) (disch:=omega) only [wq]|(with_reducible refine zM (fun hb=>?_) (fun hb=>?_) <;> (try simp only [hb]))|(with_reducible refine And.intro (by first|omega|(simp;done)|(simp;omega)) ?_)|simp (maxSteps:=9999999) (implicitDefEqProofs:=false) only [go_sem,h1,h2]|fail))
    all_goals rfl
def addX (a b:List Nat):List Nat:=carryL (addS a b 5)
def subX (a b:List Nat):List Nat:=carryL (subS a (carryL b) 5)
theorem addE_m {G:Nat→Option (List D)} (a b:List Nat) (ha:El a) (hb:El b):El (addX a b)∧elF (addX a b)=elF a+elF b∧Spec Tryz.prog G 84 [.g (a.map nD),.g (b.map nD)] (.one (.g ((addX a b).map nD))):=by
  obtain ⟨s1,s2,s3⟩:=addS_ok ha hb
  obtain ⟨c1,c2,_⟩:=carry_ok s1 s2
  unfold addX
  refine ⟨c1,by rw [c2,s3],?_⟩
  have hm:=carry_m (G:=G) (addS a b 5) s1
  have hl:=ha.1
  have hl2:=hb.1
  have hcl:=c1.1
  generalize carryL (addS a b 5)=R at *
  have t0:=numsC_take hl;have u0:=nums_take hl;have d0:=numsC_drop hl
  have t1:=numsC_take hl2;have u1:=nums_take hl2;have d1:=numsC_drop hl2
  have t2:=numsC_take s1;have u2:=nums_take s1;have d2:=numsC_drop s1
  have t3:=numsC_take hcl;have u3:=nums_take hcl;have d3:=numsC_drop hcl
  refine spec_of Tryz.func84 rfl rfl rfl (by kernel_rfl) rfl fun K=>?_
  (repeat' (first|with_reducible (first|refine zA fun Kn hK=>?_|refine zB (by kernel_rfl) ?_|refine Nx.go ?_|go_step)|fail|with_reducible (first|refine zI ?_|refine zJ ?_|refine zK ?_ ?_|refine zL ?_ ?_|refine zR (by kernel_rfl) ?_)|simp (maxSteps:=9999999) (disch:=omega) only [wq]|(with_reducible refine zM (fun hb=>?_) (fun hb=>?_) <;> (try simp only [hb]))|(with_reducible refine And.intro (by first|omega|(simp;done)|(simp;omega)) ?_)|simp (maxSteps:=9999999) (implicitDefEqProofs:=false) only [go_sem,List.length_map,hl,hl2]|fail))
  refine sound_loopR (fun x:{k:Nat // k≤5}=>⟨[(2,vP 2 0),(3,vP 3 0),(4,vP 4 0),(6,vI x.1)],[(2,some ⟨81,((addS a b x.1).map nD).map C.d,true,false⟩),(3,some ⟨81,(b.map nD).map C.d,true,false⟩),(4,some ⟨81,zeroOf Tryz.prog 81,true,false⟩)]⟩) (fun x=>5-x.1) ⟨0,by omega⟩ [] (by (iterate 2 ((try simp (maxSteps:=9999999) (implicitDefEqProofs:=false) only [go_sem,true_and]);(try simp (maxSteps:=9999999) (disch:=omega) only [wq])));simp [addS]) (fun ⟨k,hk⟩=>?_)
  have hlk:=addS_len a b k
  rw [hl] at hlk
  by_cases hlt:k<5
  · have hb:decide ((k:Int)<5)=true:=decide_eq_true (by omega)
    have hg1:=numsC_get (l:=addS a b k) (k:=k) (by omega)
    have hg2:=numsC_get (l:=b) (k:=k) (by omega)
    (repeat' (first|with_reducible (first|refine zA fun Kn hK=>?_|refine zB (by kernel_rfl) ?_|refine Nx.go ?_|go_step)|fail|with_reducible (first|refine zI ?_|refine zJ ?_|refine zK ?_ ?_|refine zL ?_ ?_|refine zR (by kernel_rfl) ?_)|simp (maxSteps:=9999999) (disch:=omega) only [wq]|(with_reducible refine zM (fun hb=>?_) (fun hb=>?_) <;> (try simp only [hb]))|(with_reducible refine And.intro (by first|omega|(simp;done)|(simp;omega)) ?_)|simp (maxSteps:=9999999) (implicitDefEqProofs:=false) only [go_sem,hb,List.length_map,List.length_set,hlk,hl2,hg1,hg2]|fail))
    refine ⟨[],⟨k+1,hlt⟩,?_⟩
    (iterate 2 ((try simp (maxSteps:=9999999) (implicitDefEqProofs:=false) only [go_sem,addS]);(try simp (maxSteps:=9999999) (disch:=omega) only [wq])))
    try (simp only [ijq,true_and,and_true];first|done|omega|(split <;> omega)|(simp;done)|(simp;omega))
  · have hb:decide ((k:Int)<5)=false:=decide_eq_false (by omega)
    obtain rfl:k=5:=by omega
    (repeat' (first|with_reducible (first|refine zA fun Kn hK=>?_|refine zB (by kernel_rfl) ?_|refine Nx.go ?_|go_step)|(refine ⟨_,hm,?_⟩)|with_reducible (first|refine zI ?_|refine zJ ?_|refine zK ?_ ?_|refine zL ?_ ?_|refine zR (by kernel_rfl) ?_)|simp (maxSteps:=9999999) (disch:=omega) only [wq]|(with_reducible refine zM (fun hb=>?_) (fun hb=>?_) <;> (try simp only [hb]))|(with_reducible refine And.intro (by first|omega|(simp;done)|(simp;omega)) ?_)|simp (maxSteps:=9999999) (implicitDefEqProofs:=false) only [go_sem,hb,List.length_map,List.length_set,List.append_nil,hlk,hcl,t2,d2,u2,t3,d3,u3]|fail))
theorem w1:IntKind.u64.wrap (2251799813685247-18)=2251799813685229:=by decide
theorem w2:IntKind.u64.wrap (4*2251799813685229)=9007199254740916:=by decide
theorem w3:IntKind.u64.wrap (4*2251799813685247)=9007199254740988:=by decide
theorem subE_m {G:Nat→Option (List D)} (a b:List Nat) (ha:El a) (hb:El b):El (subX a b)∧elF (subX a b)=elF a-elF b∧Spec Tryz.prog G 82 [.g (a.map nD),.g (b.map nD)] (.one (.g ((subX a b).map nD))):=by
  obtain ⟨b1,b2,_⟩:=carry_ok hb.1 hb.big
  have hm0:=carry_m (G:=G) b hb.1
  obtain ⟨s1,s2,s3⟩:=subS_ok ha b1.1 b1.2
  obtain ⟨c1,c2,_⟩:=carry_ok s1 s2
  unfold subX
  refine ⟨c1,by rw [c2,s3,b2],?_⟩
  have hm:=carry_m (G:=G) (subS a (carryL b) 5) s1
  have hl:=ha.1
  have hl2:=b1.1
  have hl3:=hb.1
  have hcl:=c1.1
  generalize carryL b=B at *
  generalize carryL (subS a B 5)=R at *
  have t0:=numsC_take hl;have u0:=nums_take hl;have d0:=numsC_drop hl
  have t1:=numsC_take hl2;have u1:=nums_take hl2;have d1:=numsC_drop hl2
  have t2:=numsC_take s1;have u2:=nums_take s1;have d2:=numsC_drop s1
  have t3:=numsC_take hcl;have u3:=nums_take hcl;have d3:=numsC_drop hcl
  have t4:=numsC_take hl3;have u4:=nums_take hl3;have d4:=numsC_drop hl3
  refine spec_of Tryz.func82 rfl rfl rfl (by kernel_rfl) rfl fun K=>?_
  (repeat' (first|with_reducible (first|refine zA fun Kn hK=>?_|refine zB (by kernel_rfl) ?_|refine Nx.go ?_|go_step)|(refine ⟨_,hm0,?_⟩)|with_reducible (first|refine zI ?_|refine zJ ?_|refine zK ?_ ?_|refine zL ?_ ?_|refine zR (by kernel_rfl) ?_)|simp (maxSteps:=9999999) (disch:=omega) only [wq]|(with_reducible refine zM (fun hb=>?_) (fun hb=>?_) <;> (try simp only [hb]))|(with_reducible refine And.intro (by first|omega|(simp;done)|(simp;omega)) ?_)|simp (maxSteps:=9999999) (implicitDefEqProofs:=false) only [go_sem,List.length_map,List.append_nil,hl,hl2,hl3,t1,d1,u1,t4,d4,u4]|fail))
  refine sound_loopR (fun x:{k:Nat // k≤5}=>⟨[(2,vP 2 0),(3,vP 3 0),(4,vP 4 0),(9,vI x.1)],[(2,some ⟨81,((subS a B x.1).map nD).map C.d,true,false⟩),(3,some ⟨81,(B.map nD).map C.d,true,false⟩),(4,some ⟨81,zeroOf Tryz.prog 81,true,false⟩)]⟩) (fun x=>5-x.1) ⟨0,by omega⟩ [] (by (iterate 2 ((try simp (maxSteps:=9999999) (implicitDefEqProofs:=false) only [go_sem,true_and]);(try simp (maxSteps:=9999999) (disch:=omega) only [wq])));simp [subS]) (fun ⟨k,hk⟩=>?_)
  have hlk:=subS_len a B k
  rw [hl] at hlk
  by_cases hlt:k<5
  · have hb:decide ((k:Int)<5)=true:=decide_eq_true (by omega)
    have hg1:=numsC_get (l:=subS a B k) (k:=k) (by omega)
    have hg2:=numsC_get (l:=B) (k:=k) (by omega)
    by_cases h0:k=0
    · have hz:((k:Int)==0)=true:=by simpa using h0
      (repeat' (first|with_reducible (first|refine zA fun Kn hK=>?_|refine zB (by kernel_rfl) ?_|refine Nx.go ?_|go_step)|fail|with_reducible (first|refine zI ?_|refine zJ ?_|refine zK ?_ ?_|refine zL ?_ ?_|refine zR (by kernel_rfl) ?_)|simp (maxSteps:=9999999) (disch:=omega) only [wq]|(with_reducible refine zM (fun hb=>?_) (fun hb=>?_) <;> (try simp only [hb]))|(with_reducible refine And.intro (by first|omega|(simp;done)|(simp;omega)) ?_)|simp (maxSteps:=9999999) (implicitDefEqProofs:=false) only [go_sem,hb,List.length_map,List.length_set,hlk,hl2,hg1,hg2,hz,w1,w2,w3]|fail))
      refine ⟨[],⟨k+1,hlt⟩,?_⟩
      have hp:p4 k=9007199254740916:=if_pos h0
      (iterate 2 ((try simp (maxSteps:=9999999) (implicitDefEqProofs:=false) only [go_sem,subS,hp]);(try simp (maxSteps:=9999999) (disch:=omega) only [wq])))
      try (simp only [ijq,true_and,and_true];first|done|omega|(split <;> omega)|(simp;done)|(simp;omega))
    · have hz:((k:Int)==0)=false:=by simpa using h0
      (repeat' (first|with_reducible (first|refine zA fun Kn hK=>?_|refine zB (by kernel_rfl) ?_|refine Nx.go ?_|go_step)|fail|with_reducible (first|refine zI ?_|refine zJ ?_|refine zK ?_ ?_|refine zL ?_ ?_|refine zR (by kernel_rfl) ?_)|simp (maxSteps:=9999999) (disch:=omega) only [wq]|(with_reducible refine zM (fun hb=>?_) (fun hb=>?_) <;> (try simp only [hb]))|(with_reducible refine And.intro (by first|omega|(simp;done)|(simp;omega)) ?_)|simp (maxSteps:=9999999) (implicitDefEqProofs:=false) only [go_sem,hb,List.length_map,List.length_set,hlk,hl2,hg1,hg2,hz,w1,w2,w3]|fail))
      refine ⟨[],⟨k+1,hlt⟩,?_⟩
      have hp:p4 k=9007199254740988:=if_neg h0
      (iterate 2 ((try simp (maxSteps:=9999999) (implicitDefEqProofs:=false) only [go_sem,subS,hp]);(try simp (maxSteps:=9999999) (disch:=omega) only [wq])))
      try (simp only [ijq,true_and,and_true];first|done|omega|(split <;> omega)|(simp;done)|(simp;omega))
  · have hb:decide ((k:Int)<5)=false:=decide_eq_false (by omega)
    obtain rfl:k=5:=by omega
    (repeat' (first|with_reducible (first|refine zA fun Kn hK=>?_|refine zB (by kernel_rfl) ?_|refine Nx.go ?_|go_step)|(refine ⟨_,hm,?_⟩)|with_reducible (first|refine zI ?_|refine zJ ?_|refine zK ?_ ?_|refine zL ?_ ?_|refine zR (by kernel_rfl) ?_)|simp (maxSteps:=9999999) (disch:=omega) only [wq]|(with_reducible refine zM (fun hb=>?_) (fun hb=>?_) <;> (try simp only [hb]))|(with_reducible refine And.intro (by first|omega|(simp;done)|(simp;omega)) ?_)|simp (maxSteps:=9999999) (implicitDefEqProofs:=false) only [go_sem,hb,List.length_map,List.length_set,List.append_nil,hlk,hcl,t2,d2,u2,t3,d3,u3]|fail))
end Go.Proofs.YtdakeodebgggfaaGreatDoor
namespace Go.Proofs.YtdakeodebgggfaaGreatDoor
open Go.RowKit
@[go_sem] theorem shl_13 {a:Nat}:IntKind.u64.wrap ((a:Int)*2^min 13 64)=((a*8192%18446744073709551616:Nat):Int):=by
  show IntKind.u64.wrap ((a:Int)*((8192:Nat):Int))=_
  exact w_mul
theorem or_add {a b:Nat} (hb:b<8192) (ha:a<2251799813685248):(a*8192%18446744073709551616%18446744073709551616) ||| (b%18446744073709551616)=a*8192+b:=by
  rw [Nat.mod_mod,Nat.mod_eq_of_lt (show a*8192<18446744073709551616 by omega),Nat.mod_eq_of_lt (show b<18446744073709551616 by omega)]
  have:=Nat.shiftLeft_add_eq_or_of_lt (b:=b) (i:=13) (by simpa using hb) a
  rw [Nat.shiftLeft_eq] at this
  exact this.symm
theorem ext_add (a b:Nat):ExtV Tryz.prog 114 [.int .u64 (a:Int),.int .u64 (b:Int),.int .u64 0] [.int .u64 (((a+b)%18446744073709551616:Nat):Int),.int .u64 (((a+b)/18446744073709551616:Nat):Int)]:=by
  refine ⟨rfl,fun w=>?_⟩
  show (callFunc _ #[_,_,_]).run _ w=_
  rw [run_callFunc_extern Tryz.func114 (by kernel_rfl) (by kernel_rfl) (by kernel_rfl) (e:=add64Entry) (by kernel_rfl),run_add64 (a:Int) (b:Int) 0 (by omega) (by omega) (by omega) (by omega)]
  simp only [Result.andThen,Int.add_zero]
  congr 5 <;> omega
theorem mul64_m {G:Nat→Option (List D)} (x y:Nat) (hx:x<18446744073709551616) (hy:y<18446744073709551616):Spec Tryz.prog G 115 [.c (nD x),.c (nD y)] (.many [.c (nD (x*y/18446744073709551616)),.c (nD (x*y%18446744073709551616))]):=by
  intro w S vs hS hT hA
  obtain ⟨hl,hc⟩:=hA
  match vs,hl with
  | [u,v],_ =>
    obtain rfl:u= .int .u64 x:=by
      have h:RD w S (nD x) u:=hc 0 _ _ rfl rfl
      cases h
      rfl
    obtain rfl:v= .int .u64 y:=by
      have h:RD w S (nD y) v:=hc 1 _ _ rfl rfl
      cases h
      rfl
    refine Calls.mono (mul64_c x y hx hy w) ?_
    rintro e w1 ⟨rfl,rfl⟩
    refine ⟨⟨rfl,rfl,rfl,Nat.le_refl _,fun _ _ _=>rfl⟩,_,rfl,rfl,fun i z u hz hu=>?_⟩
    match i with
    | 0 =>
      simp at hz hu
      subst hz hu
      exact RD.v _ rfl
    | 1 =>
      simp at hz hu
      subst hz hu
      exact RD.v _ rfl
    | i+2=>simp at hz
@[go_sem] def sumW (t:Nat):List D:=[nD (t/18446744073709551616),nD (t%18446744073709551616)]
theorem sumW_len (t:Nat):(sumW t).length=2:=rfl
theorem more_m {G:Nat→Option (List D)} (t a b:Nat) (ha:a<18446744073709551616) (hb:b<18446744073709551616) (h:t+a*b<340282366920938463463374607431768211456):Spec Tryz.prog G 113 [.g (sumW t),.c (nD a),.c (nD b)] (.one (.g (sumW (t+a*b)))):=by
  have hm:=mul64_m (G:=G) a b ha hb
  have hx:=ext_add (t%18446744073709551616) (a*b%18446744073709551616)
  generalize a*b=q at *
  have e1:(t%18446744073709551616+q%18446744073709551616)%18446744073709551616=(t+q)%18446744073709551616:=by omega
  have e2:(t/18446744073709551616+(q/18446744073709551616+(t%18446744073709551616+q%18446744073709551616)/18446744073709551616)%18446744073709551616)%18446744073709551616=(t+q)/18446744073709551616:=by omega
  refine spec_of Tryz.func113 rfl rfl rfl (by kernel_rfl) rfl fun K=>?_
  (repeat' (first|with_reducible (first|refine zA fun Kn hK=>?_|refine zB (by kernel_rfl) ?_|refine Nx.go ?_|go_step)|(refine ⟨_,hm,?_⟩)|(refine ⟨_,hx,?_⟩)|with_reducible (first|refine zI ?_|refine zJ ?_|refine zK ?_ ?_|refine zL ?_ ?_|refine zR (by kernel_rfl) ?_)|simp (maxSteps:=9999999) (disch:=omega) only [wq]|(with_reducible refine zM (fun hb=>?_) (fun hb=>?_) <;> (try simp only [hb]))|(with_reducible refine And.intro (by first|omega|(simp;done)|(simp;omega)) ?_)|simp (maxSteps:=9999999) (implicitDefEqProofs:=false) only [go_sem,true_and]|fail))
  all_goals (rw [e1,e2])
end Go.Proofs.YtdakeodebgggfaaGreatDoor
namespace Go.Proofs.YtdakeodebgggfaaGreatDoor
def mulK (a b:List Nat) (i:Nat) (T:List Nat):Nat→List Nat
  | 0=>T
  | k+1=>if i+k<5 then (mulK a b i T k).set (i+k) ((mulK a b i T k).getD (i+k) 0+a.getD i 0*b.getD k 0)
    else (mulK a b i T k).set (i+k-5) ((mulK a b i T k).getD (i+k-5) 0+a.getD i 0*(19*b.getD k 0))
def mulI (a b:List Nat):Nat→List Nat
  | 0=>[0,0,0,0,0]
  | i+1=>mulK a b i (mulI a b i) 5
theorem mulK_len (a b:List Nat) (i:Nat) (T:List Nat): ∀ k,(mulK a b i T k).length=T.length
  | 0=>rfl
  | k+1=>by
    rw [mulK]
    split <;> rw [List.length_set,mulK_len]
theorem mulI_len (a b:List Nat): ∀ i,(mulI a b i).length=5
  | 0=>rfl
  | i+1=>by rw [mulI,mulK_len,mulI_len]
theorem getD_lt {l:List Nat} {m:Nat} (h: ∀ x∈l,x<m) (hm:0<m) (i:Nat):l.getD i 0<m:=by
  rw [List.getD_eq_getElem?_getD]
  cases hq:l[i]? with
  | none=>exact hm
  | some x=>exact h x (List.mem_of_getElem? hq)
theorem mul_step {t x y n:Nat} (ht:t≤n*649037107316853453566312041152512) (hx:x<4503599627370496) (hy:y<144115188075855872):t+x*y≤(n+1)*649037107316853453566312041152512:=by
  have:x*y≤4503599627370496*144115188075855872:=Nat.mul_le_mul (by omega) (by omega)
  omega
theorem mulK_le {a b:List Nat} (ha:El a) (hb:El b) {i:Nat} {T:List Nat} {n:Nat} (hT: ∀ x∈T,x≤n*649037107316853453566312041152512): ∀ k,∀ x∈mulK a b i T k,x≤(n+k)*649037107316853453566312041152512
  | 0=>hT
  | k + 1 => by
    have ih:=mulK_le ha hb (i:=i) hT k
    have h1:=getD_lt ha.2 (by omega) i
    have h2:=getD_lt hb.2 (by omega) k
    have hg: ∀ j,(mulK a b i T k).getD j 0≤(n+k)*649037107316853453566312041152512:=fun j=>by
      rw [List.getD_eq_getElem?_getD]
      cases hq:(mulK a b i T k)[j]? with
      | none=>exact Nat.zero_le _
      | some x=>exact ih x (List.mem_of_getElem? hq)
    intro x hx
    rw [mulK] at hx
    split at hx
    all_goals
      rcases List.mem_or_eq_of_mem_set hx with h|h
      · have h3:=ih x h
        clear hx h h1 h2 hg ih
        rw [← Nat.add_assoc,Nat.add_mul]
        exact Nat.le_trans h3 (Nat.le_add_right ..)
      · rw [h,← Nat.add_assoc]
        refine mul_step (hg _) h1 ?_
        first
          | exact Nat.lt_trans h2 (by decide)
          | (clear hx h h1 hg ih hT;omega)
theorem mulI_le {a b:List Nat} (ha:El a) (hb:El b): ∀ i,∀ x∈mulI a b i,x≤(5*i)*649037107316853453566312041152512
  | 0=>by simp [mulI]
  | i+1=>by
    have:=mulK_le ha hb (i:=i) (mulI_le ha hb i) 5
    rw [mulI]
    intro x hx
    have:=this x hx
    omega
def chS (T:List Nat):Nat→List Nat × Nat
  | 0=>([0,0,0,0,0],0)
  | k+1=>((chS T k).1.set k ((T.getD k 0+(chS T k).2)%2251799813685248),(T.getD k 0+(chS T k).2)/2251799813685248)
theorem chS_len (T:List Nat): ∀ k,(chS T k).1.length=5
  | 0=>rfl
  | k+1=>by rw [chS,List.length_set,chS_len]
def mulR (T:List Nat):List Nat:=
  ((chS T 5).1.set 0 (((chS T 5).2*19+(chS T 5).1.getD 0 0)%2251799813685248)).set 1 ((chS T 5).1.getD 1 0+((chS T 5).2*19+(chS T 5).1.getD 0 0)/2251799813685248)
theorem chS_c {T:List Nat} (hT: ∀ x∈T,x≤25*649037107316853453566312041152512) (k:Nat):(chS T k).2<7205759403792797696:=by
  induction k with
  | zero=>simp [chS]
  | succ k ih =>
    have:T.getD k 0≤25*649037107316853453566312041152512:=by
      rw [List.getD_eq_getElem?_getD]
      cases hq:T[k]? with
      | none=>exact Nat.zero_le _
      | some x=>exact hT x (List.mem_of_getElem? hq)
    show (T.getD k 0+(chS T k).2)/2251799813685248<_
    rw [Nat.div_lt_iff_lt_mul (by decide)]
    omega
theorem mulR_ok {T:List Nat} (hl:T.length=5) (hT: ∀ x∈T,x≤25*649037107316853453566312041152512):(mulR T).length=5∧(∀ x∈mulR T,x<9223372036854775808)∧elF (mulR T)=toF (elV T):=by
  have hc:=chS_c hT 5
  obtain ⟨a,b,c,d,e,rfl⟩:=five hl
  obtain ⟨q1,r1,e1,l1⟩: ∃ q r,a+0=q*2251799813685248+r∧r<2251799813685248:=⟨a/2251799813685248,a%2251799813685248,by omega,by omega⟩
  obtain ⟨q2,r2,e2,l2⟩: ∃ q r,b+q1=q*2251799813685248+r∧r<2251799813685248:=⟨(b+q1)/2251799813685248,(b+q1)%2251799813685248,by omega,by omega⟩
  obtain ⟨q3,r3,e3,l3⟩: ∃ q r,c+q2=q*2251799813685248+r∧r<2251799813685248:=⟨(c+q2)/2251799813685248,(c+q2)%2251799813685248,by omega,by omega⟩
  obtain ⟨q4,r4,e4,l4⟩: ∃ q r,d+q3=q*2251799813685248+r∧r<2251799813685248:=⟨(d+q3)/2251799813685248,(d+q3)%2251799813685248,by omega,by omega⟩
  obtain ⟨q5,r5,e5,l5⟩: ∃ q r,e+q4=q*2251799813685248+r∧r<2251799813685248:=⟨(e+q4)/2251799813685248,(e+q4)%2251799813685248,by omega,by omega⟩
  have s1:chS [a,b,c,d,e] 1=([r1,0,0,0,0],q1):=by
    show ([(a+0)%2251799813685248,0,0,0,0],(a+0)/2251799813685248)=_
    rw [e1,(div51 q1 l1).1,(div51 q1 l1).2]
  have s2:chS [a,b,c,d,e] 2=([r1,r2,0,0,0],q2):=by
    rw [chS,s1]
    show ([r1,(b+q1)%2251799813685248,0,0,0],(b+q1)/2251799813685248)=_
    rw [e2,(div51 q2 l2).1,(div51 q2 l2).2]
  have s3:chS [a,b,c,d,e] 3=([r1,r2,r3,0,0],q3):=by
    rw [chS,s2]
    show ([r1,r2,(c+q2)%2251799813685248,0,0],(c+q2)/2251799813685248)=_
    rw [e3,(div51 q3 l3).1,(div51 q3 l3).2]
  have s4:chS [a,b,c,d,e] 4=([r1,r2,r3,r4,0],q4):=by
    rw [chS,s3]
    show ([r1,r2,r3,(d+q3)%2251799813685248,0],(d+q3)/2251799813685248)=_
    rw [e4,(div51 q4 l4).1,(div51 q4 l4).2]
  have s5:chS [a,b,c,d,e] 5=([r1,r2,r3,r4,r5],q5):=by
    rw [chS,s4]
    show ([r1,r2,r3,r4,(e+q4)%2251799813685248],(e+q4)/2251799813685248)=_
    rw [e5,(div51 q5 l5).1,(div51 q5 l5).2]
  rw [s5] at hc
  dsimp only at hc
  obtain ⟨q6,r6,e6,l6⟩: ∃ q r,q5*19+r1=q*2251799813685248+r∧r<2251799813685248:=⟨(q5*19+r1)/2251799813685248,(q5*19+r1)%2251799813685248,by omega,by omega⟩
  have hr:mulR [a,b,c,d,e]=[r6,r2+q6,r3,r4,r5]:=by
    unfold mulR
    rw [s5]
    show [(q5*19+r1)%2251799813685248,r2+(q5*19+r1)/2251799813685248,r3,r4,r5]=_
    rw [e6,(div51 q6 l6).1,(div51 q6 l6).2]
  rw [hr]
  clear hT s1 s2 s3 s4 s5 hr
  refine ⟨rfl,?_,?_⟩
  · simp only [List.forall_mem_cons,List.not_mem_nil,false_implies,implies_true,and_true]
    omega
  · have hv:elV [a,b,c,d,e]=elV [r1,r2,r3,r4,r5]+57896044618658097711785492504343953926634992332820282019728792003956564819968*q5:=by
      simp only [elV]
      omega
    rw [elF,hv,toF_19]
    congr 1
    simp only [elV]
    omega
theorem toF_51:toF 2251799813685248*toF 2251799813685248*toF 2251799813685248*toF 2251799813685248*toF 2251799813685248=toF 19:=by decide +kernel
theorem mulI_ok {a b:List Nat} (ha:a.length=5) (hb:b.length=5):toF (elV (mulI a b 5))=elF a*elF b:=by
  obtain ⟨a0,a1,a2,a3,a4,rfl⟩:=five ha
  obtain ⟨b0,b1,b2,b3,b4,rfl⟩:=five hb
  have e:mulI [a0,a1,a2,a3,a4] [b0,b1,b2,b3,b4] 5=[0+a0*b0+a1*(19*b4)+a2*(19*b3)+a3*(19*b2)+a4*(19*b1),0+a0*b1+a1*b0+a2*(19*b4)+a3*(19*b3)+a4*(19*b2),
      0+a0*b2+a1*b1+a2*b0+a3*(19*b4)+a4*(19*b3),0+a0*b3+a1*b2+a2*b1+a3*b0+a4*(19*b4),0+a0*b4+a1*b3+a2*b2+a3*b1+a4*b0]:=by
    simp [mulI,mulK]
  rw [e,elF,elF]
  simp only [elV,toF_add,toF_mul,Nat.zero_add,Nat.mul_zero,Nat.add_zero]
  exact g_mul51 toF_51
end Go.Proofs.YtdakeodebgggfaaGreatDoor
namespace Go.Proofs.YtdakeodebgggfaaGreatDoor
open Go.RowKit
theorem flat_set {α:Type} {f:α→List D} {n:Nat} (hf: ∀ x,(f x).length=n): ∀ {l:List α} {k:Nat} (y:α),k<l.length→(l.flatMap f).take (k*n)++f y++(l.flatMap f).drop (k*n+n)=(l.set k y).flatMap f
  | x::l,0,y,_=>by
    rw [Nat.zero_mul,List.take_zero,Nat.zero_add,List.flatMap_cons,List.set_cons_zero,List.flatMap_cons,← hf x,List.drop_left,List.nil_append]
  | x::l,k+1,y,h=>by
    have e:(k+1)*n=(f x).length+k*n:=by rw [hf,Nat.add_mul,Nat.one_mul,Nat.add_comm]
    rw [List.flatMap_cons,List.set_cons_succ,List.flatMap_cons,e,List.take_length_add_append,Nat.add_assoc,List.drop_length_add_append,List.append_assoc,List.append_assoc,← flat_set hf y (show k<l.length by simpa using h),List.append_assoc]
theorem flatC_set {α:Type} {f:α→List D} {n:Nat} (hf: ∀ x,(f x).length=n) {l:List α} {k:Nat} (y:α) (h:k<l.length):((l.flatMap f).map C.d).take (k*n)++(f y).map C.d++((l.flatMap f).map C.d).drop (k*n+n)=((l.set k y).flatMap f).map C.d:=by
  rw [← flat_set hf y h,List.map_append,List.map_append,List.map_take,List.map_drop]
theorem sumW_C (t:Nat):(sumW t).map C.d=[C.d (.v (.int .u64 (t/18446744073709551616:Nat))),C.d (.v (.int .u64 (t%18446744073709551616:Nat)))]:=rfl
theorem words_lo (q c:Nat):(q%18446744073709551616+c)%18446744073709551616%18446744073709551616%2251799813685248=(q+c)%2251799813685248:=by omega
theorem words_hi {q c:Nat} (h:q+c<41538374868278621028243970633760768):(q/18446744073709551616+(q%18446744073709551616+c)/18446744073709551616)%18446744073709551616*8192%18446744073709551616%18446744073709551616 ||| (q%18446744073709551616+c)%18446744073709551616/2251799813685248%18446744073709551616=(q+c)/2251799813685248:=by
  have h1:(q/18446744073709551616+(q%18446744073709551616+c)/18446744073709551616)%18446744073709551616=(q+c)/18446744073709551616:=by omega
  have h2:(q%18446744073709551616+c)%18446744073709551616=(q+c)%18446744073709551616:=by omega
  rw [h1,h2]
  generalize q+c=u at *
  rw [or_add (by omega) (by omega)]
  omega
theorem get_of {l:List Nat} {k:Nat} (h:k<l.length):l[k]?=some (l.getD k 0):=by
  rw [List.getElem?_eq_getElem h]
  simp [h]
theorem chS_lt (T:List Nat): ∀ k,∀ x∈(chS T k).1,x<2251799813685248
  | 0=>by simp [chS]
  | k + 1=>fun x hx=>by
    rcases List.mem_or_eq_of_mem_set (show x∈(chS T k).1.set k _ from hx) with h|h
    · exact chS_lt T k x h
    · rw [h]
      exact Nat.mod_lt _ (by decide)
def mulX (a b:List Nat):List Nat:=carryL (mulR (mulI a b 5))
theorem mulE_m {G:Nat→Option (List D)} (a b:List Nat) (ha:El a) (hb:El b):El (mulX a b)∧elF (mulX a b)=elF a*elF b∧Spec Tryz.prog G 81 [.g (a.map nD),.g (b.map nD)] (.one (.g ((mulX a b).map nD))):=by
  obtain ⟨r1,r2,r3⟩:=mulR_ok (mulI_len a b 5) (mulI_le ha hb 5)
  obtain ⟨c1,c2,_⟩:=carry_ok r1 r2
  unfold mulX
  refine ⟨c1,by rw [c2,r3,mulI_ok ha.1 hb.1],?_⟩
  have hm:=carry_m (G:=G) (mulR (mulI a b 5)) r1
  have hl:=ha.1
  have hl2:=hb.1
  have hcl:=c1.1
  have t0:=numsC_take hl;have u0:=nums_take hl;have d0:=numsC_drop hl
  have t1:=numsC_take hl2;have u1:=nums_take hl2;have d1:=numsC_drop hl2
  refine spec_of Tryz.func81 rfl rfl rfl (by kernel_rfl) rfl fun K=>?_
  (repeat' (first|with_reducible (first|refine zA fun Kn hK=>?_|refine zB (by kernel_rfl) ?_|refine Nx.go ?_|go_step)|fail|with_reducible (first|refine zI ?_|refine zJ ?_|refine zK ?_ ?_|refine zL ?_ ?_|refine zR (by kernel_rfl) ?_)|simp (maxSteps:=9999999) (disch:=omega) only [wq]|(with_reducible refine zM (fun hb=>?_) (fun hb=>?_) <;> (try simp only [hb]))|(with_reducible refine And.intro (by first|omega|(simp;done)|(simp;omega)) ?_)|simp (maxSteps:=9999999) (implicitDefEqProofs:=false) only [go_sem,List.length_map,hl,hl2,t0,t1]|fail))
  refine sound_loopR (fun x:{i:Nat // i≤5}=>⟨[(2,vP 2 0),(3,vP 3 0),(4,vP 4 0),(5,vP 5 0),(21,.a (.agg ((a.map nD).map C.d))),(22,vI x.1)],
    [(2,some ⟨81,(a.map nD).map C.d,true,false⟩),(3,some ⟨81,(b.map nD).map C.d,true,false⟩),(4,some ⟨81,zeroOf Tryz.prog 81,true,false⟩),(5,some ⟨154,((mulI a b x.1).flatMap sumW).map C.d,true,false⟩)]⟩) (fun x=>5-x.1) ⟨0,by omega⟩ [] (by (iterate 2 ((try simp (maxSteps:=9999999) (implicitDefEqProofs:=false) only [go_sem,true_and]);(try simp (maxSteps:=9999999) (disch:=omega) only [wq])));simp [mulI,sumW,nD]) (fun ⟨i,hi⟩=>?_)
  have hga:=numsC_get (l:=a) (k:=i)
  by_cases hlt:i<5
  · have hb1:decide ((i:Int)<5)=true:=decide_eq_true (by omega)
    have hga:=hga (by omega)
    (repeat' (first|with_reducible (first|refine zA fun Kn hK=>?_|refine zB (by kernel_rfl) ?_|refine Nx.go ?_|go_step)|fail|with_reducible (first|refine zI ?_|refine zJ ?_|refine zK ?_ ?_|refine zL ?_ ?_|refine zR (by kernel_rfl) ?_)|simp (maxSteps:=9999999) (disch:=omega) only [wq]|(with_reducible refine zM (fun hb=>?_) (fun hb=>?_) <;> (try simp only [hb]))|(with_reducible refine And.intro (by first|omega|(simp;done)|(simp;omega)) ?_)|simp (maxSteps:=9999999) (implicitDefEqProofs:=false) only [go_sem,hb1,List.length_map,hl,hl2,t1,hga]|fail))
    refine sound_loopR (fun x:{k:Nat // k≤5}=>⟨[(2,vP 2 0),(3,vP 3 0),(4,vP 4 0),(5,vP 5 0),(21,.a (.agg ((a.map nD).map C.d))),(22,vI i),(6,vI i),(7,.a (.c (.d (nD (a.getD i 0))))),(27,.a (.agg ((b.map nD).map C.d))),(28,vI x.1)],
      [(2,some ⟨81,(a.map nD).map C.d,true,false⟩),(3,some ⟨81,(b.map nD).map C.d,true,false⟩),(4,some ⟨81,zeroOf Tryz.prog 81,true,false⟩),(5,some ⟨154,((mulK a b i (mulI a b i) x.1).flatMap sumW).map C.d,true,false⟩)]⟩) (fun x=>5-x.1) ⟨0,by omega⟩ [] (by (iterate 2 ((try simp (maxSteps:=9999999) (implicitDefEqProofs:=false) only [go_sem,true_and]);(try simp (maxSteps:=9999999) (disch:=omega) only [wq])));try simp [mulK]) (fun ⟨k,hk⟩=>?_)
    have hgb:=numsC_get (l:=b) (k:=k)
    have hTl:(mulK a b i (mulI a b i) k).length=5:=by rw [mulK_len,mulI_len]
    have hTf:((mulK a b i (mulI a b i) k).flatMap sumW).length=10:=by rw [flat_len sumW_len,hTl]
    have hTb:=mulK_le ha hb (i:=i) (mulI_le ha hb i) k
    by_cases hlk:k<5
    · have hb2:decide ((k:Int)<5)=true:=decide_eq_true (by omega)
      have hgb:=hgb (by omega)
      have ga:=getD_lt ha.2 (by omega) i
      have gb:=getD_lt hb.2 (by omega) k
      by_cases hs:i+k<5
      · have hb3:decide ((i:Int)+(k:Int)<5)=true:=decide_eq_true (by omega)
        have hx:=get_of (l:=mulK a b i (mulI a b i) k) (k:=i+k) (by omega)
        have hle:=hTb _ (List.mem_of_getElem? hx)
        have hfa:=flat_atC sumW_len hx
        have hst:=flatC_set sumW_len (l:=mulK a b i (mulI a b i) k) (k:=i+k) ((mulK a b i (mulI a b i) k).getD (i+k) 0+a.getD i 0*b.getD k 0) (by omega)
        have hmk:mulK a b i (mulI a b i) (k+1)=(mulK a b i (mulI a b i) k).set (i+k) ((mulK a b i (mulI a b i) k).getD (i+k) 0+a.getD i 0*b.getD k 0):=by rw [mulK,if_pos hs]
        have hq:=mul_step (x:=a.getD i 0) (y:=b.getD k 0) hle ga (by omega)
        have hmm:=more_m (G:=G) ((mulK a b i (mulI a b i) k).getD (i+k) 0) (a.getD i 0) (b.getD k 0) (by omega) (by omega) (by omega)
        have hn:((i:Int)+(k:Int)).toNat=i+k:=by omega
        rw [← hmk,sumW_C] at hst
        clear hle hq hTb
        (repeat' (first|with_reducible (first|refine zA fun Kn hK=>?_|refine zB (by kernel_rfl) ?_|refine Nx.go ?_|go_step)|(refine ⟨_,hmm,?_⟩)|with_reducible (first|refine zI ?_|refine zJ ?_|refine zK ?_ ?_|refine zL ?_ ?_|refine zR (by kernel_rfl) ?_)|simp (maxSteps:=9999999) (disch:=omega) only [wq]|(with_reducible refine zM (fun hb=>?_) (fun hb=>?_) <;> (try simp only [hb]))|(with_reducible refine And.intro (by first|omega|(simp;done)|(simp;omega)) ?_)|simp (maxSteps:=9999999) (implicitDefEqProofs:=false) only [go_sem,hb2,hb3,List.length_map,hl,hl2,hTf,hga,hgb,hfa,hst,hn,sumW_len]|fail))
        refine ⟨[],⟨k+1,hlk⟩,?_⟩
        (iterate 2 ((try simp (maxSteps:=9999999) (implicitDefEqProofs:=false) only [go_sem,true_and]);(try simp (maxSteps:=9999999) (disch:=omega) only [wq])))
        try (simp only [ijq,true_and,and_true];first|done|omega|(split <;> omega)|(simp;done)|(simp;omega))
      · have hb3:decide ((i:Int)+(k:Int)<5)=false:=decide_eq_false (by omega)
        have hx:=get_of (l:=mulK a b i (mulI a b i) k) (k:=i+k-5) (by omega)
        have hle:=hTb _ (List.mem_of_getElem? hx)
        have hfa:=flat_atC sumW_len hx
        have hst:=flatC_set sumW_len (l:=mulK a b i (mulI a b i) k) (k:=i+k-5) ((mulK a b i (mulI a b i) k).getD (i+k-5) 0+a.getD i 0*(19*b.getD k 0)) (by omega)
        have hmk:mulK a b i (mulI a b i) (k+1)=(mulK a b i (mulI a b i) k).set (i+k-5) ((mulK a b i (mulI a b i) k).getD (i+k-5) 0+a.getD i 0*(19*b.getD k 0)):=by rw [mulK,if_neg hs]
        have hq:=mul_step (x:=a.getD i 0) (y:=19*b.getD k 0) hle ga (by omega)
        have hmm:=more_m (G:=G) ((mulK a b i (mulI a b i) k).getD (i+k-5) 0) (a.getD i 0) (19*b.getD k 0) (by omega) (by omega) (by omega)
        have hn:((i:Int)+(k:Int)-5).toNat=i+k-5:=by omega
        have h19:19*b.getD k 0%18446744073709551616=19*b.getD k 0:=by omega
        rw [← hmk,sumW_C] at hst
        clear hle hq hTb
        (repeat' (first|with_reducible (first|refine zA fun Kn hK=>?_|refine zB (by kernel_rfl) ?_|refine Nx.go ?_|go_step)|(refine ⟨_,hmm,?_⟩)|with_reducible (first|refine zI ?_|refine zJ ?_|refine zK ?_ ?_|refine zL ?_ ?_|refine zR (by kernel_rfl) ?_)|simp (maxSteps:=9999999) (disch:=omega) only [wq]|(with_reducible refine zM (fun hb=>?_) (fun hb=>?_) <;> (try simp only [hb]))|(with_reducible refine And.intro (by first|omega|(simp;done)|(simp;omega)) ?_)|simp (maxSteps:=9999999) (implicitDefEqProofs:=false) only [go_sem,hb2,hb3,List.length_map,hl,hl2,hTf,hga,hgb,hfa,hst,hn,h19,sumW_len]|fail))
        refine ⟨[],⟨k+1,hlk⟩,?_⟩
        (iterate 2 ((try simp (maxSteps:=9999999) (implicitDefEqProofs:=false) only [go_sem,true_and]);(try simp (maxSteps:=9999999) (disch:=omega) only [wq])))
        try (simp only [ijq,true_and,and_true];first|done|omega|(split <;> omega)|(simp;done)|(simp;omega))
    · have hb2:decide ((k:Int)<5)=false:=decide_eq_false (by omega)
      obtain rfl:k=5:=by omega
      (repeat' (first|with_reducible (first|refine zA fun Kn hK=>?_|refine zB (by kernel_rfl) ?_|refine Nx.go ?_|go_step)|fail|with_reducible (first|refine zI ?_|refine zJ ?_|refine zK ?_ ?_|refine zL ?_ ?_|refine zR (by kernel_rfl) ?_)|simp (maxSteps:=9999999) (disch:=omega) only [wq]|(with_reducible refine zM (fun hb=>?_) (fun hb=>?_) <;> (try simp only [hb]))|(with_reducible refine And.intro (by first|omega|(simp;done)|(simp;omega)) ?_)|simp (maxSteps:=9999999) (implicitDefEqProofs:=false) only [go_sem,hb2,List.length_map]|fail))
      refine ⟨[],⟨i+1,hlt⟩,?_⟩
      have hmi:mulI a b (i+1)=mulK a b i (mulI a b i) 5:=rfl
      (iterate 2 ((try simp (maxSteps:=9999999) (implicitDefEqProofs:=false) only [go_sem,hmi]);(try simp (maxSteps:=9999999) (disch:=omega) only [wq])))
      try (simp only [ijq,true_and,and_true];first|done|omega|(split <;> omega)|(simp;done)|(simp;omega))
  · have hb1:decide ((i:Int)<5)=false:=decide_eq_false (by omega)
    obtain rfl:i=5:=by omega
    have hTl:=mulI_len a b 5
    have hTb:=mulI_le ha hb 5
    generalize mulI a b 5=T at *
    have hTf:(T.flatMap sumW).length=10:=by rw [flat_len sumW_len,hTl]
    have hTt:((T.flatMap sumW).map C.d).take 10=(T.flatMap sumW).map C.d:=List.take_of_length_le (by rw [List.length_map,hTf];omega)
    (repeat' (first|with_reducible (first|refine zA fun Kn hK=>?_|refine zB (by kernel_rfl) ?_|refine Nx.go ?_|go_step)|fail|with_reducible (first|refine zI ?_|refine zJ ?_|refine zK ?_ ?_|refine zL ?_ ?_|refine zR (by kernel_rfl) ?_)|simp (maxSteps:=9999999) (disch:=omega) only [wq]|(with_reducible refine zM (fun hb=>?_) (fun hb=>?_) <;> (try simp only [hb]))|(with_reducible refine And.intro (by first|omega|(simp;done)|(simp;omega)) ?_)|simp (maxSteps:=9999999) (implicitDefEqProofs:=false) only [go_sem,hb1,List.length_map,hTf,hTt]|fail))
    refine sound_loopR (fun x:{k:Nat // k≤5}=>⟨[(4,vP 4 0),(10,vP 10 0),(11,.a (.c (.d (nD (chS T x.1).2)))),(65,.a (.agg ((T.flatMap sumW).map C.d))),(66,vI x.1)],
      [(4,some ⟨81,zeroOf Tryz.prog 81,true,false⟩),(10,some ⟨81,((chS T x.1).1.map nD).map C.d,true,false⟩)]⟩) (fun x=>5-x.1) ⟨0,by omega⟩ [] (by (iterate 2 ((try simp (maxSteps:=9999999) (implicitDefEqProofs:=false) only [go_sem,true_and]);(try simp (maxSteps:=9999999) (disch:=omega) only [wq])));simp [chS,nD]) (fun ⟨k,hk⟩=>?_)
    have hcl:=chS_len T k
    by_cases hlk:k<5
    · have hb2:decide ((k:Int)<5)=true:=decide_eq_true (by omega)
      have hx:=get_of (l:=T) (k:=k) (by omega)
      have hle:=hTb _ (List.mem_of_getElem? hx)
      have hc:=chS_c hTb k
      have hfa:=flat_atC sumW_len hx
      rw [sumW_C] at hfa
      have hex:=ext_add (T.getD k 0%18446744073709551616) (chS T k).2
      have hlo:=words_lo (T.getD k 0) (chS T k).2
      have hhi:=words_hi (q:=T.getD k 0) (c:=(chS T k).2) (by omega)
      (repeat' (first|with_reducible (first|refine zA fun Kn hK=>?_|refine zB (by kernel_rfl) ?_|refine Nx.go ?_|go_step)|(refine ⟨_,hex,?_⟩)|with_reducible (first|refine zI ?_|refine zJ ?_|refine zK ?_ ?_|refine zL ?_ ?_|refine zR (by kernel_rfl) ?_)|simp (maxSteps:=9999999) (disch:=omega) only [wq]|(with_reducible refine zM (fun hb=>?_) (fun hb=>?_) <;> (try simp only [hb]))|(with_reducible refine And.intro (by first|omega|(simp;done)|(simp;omega)) ?_)|simp (maxSteps:=9999999) (implicitDefEqProofs:=false) only [go_sem,hb2,List.length_map,List.length_set,hTf,hcl,hfa,hlo,hhi]|fail))
      refine ⟨[],⟨k+1,hlk⟩,?_⟩
      (iterate 2 ((try simp (maxSteps:=9999999) (implicitDefEqProofs:=false) only [go_sem,chS]);(try simp (maxSteps:=9999999) (disch:=omega) only [wq])))
      try (simp only [ijq,true_and,and_true];first|done|omega|(split <;> omega)|(simp;done)|(simp;omega))
    · have hb2:decide ((k:Int)<5)=false:=decide_eq_false (by omega)
      obtain rfl:k=5:=by omega
      have hc:=chS_c hTb 5
      have hm19:Spec Tryz.prog G 115 [.c (nD (chS T 5).2),.c (.v (.int .u64 19))] (.many [.c (nD ((chS T 5).2*19/18446744073709551616)),.c (nD ((chS T 5).2*19%18446744073709551616))]):=mul64_m _ 19 (by omega) (by omega)
      have hR:mulR T=((chS T 5).1.set 0 (((chS T 5).2*19+(chS T 5).1.getD 0 0)%2251799813685248)).set 1 ((chS T 5).1.getD 1 0+((chS T 5).2*19+(chS T 5).1.getD 0 0)/2251799813685248):=rfl
      have hRl:=r1
      have hg0:=numsC_get (l:=(chS T 5).1) (k:=0) (by omega)
      have hg1:=numsC_get (l:=(chS T 5).1.set 0 (((chS T 5).2*19+(chS T 5).1.getD 0 0)%2251799813685248)) (k:=1) (by rw [List.length_set];omega)
      have hs1:((chS T 5).1.set 0 (((chS T 5).2*19+(chS T 5).1.getD 0 0)%2251799813685248)).getD 1 0=(chS T 5).1.getD 1 0:=by
        rw [List.getD_eq_getElem?_getD,List.getElem?_set_ne (by omega),← List.getD_eq_getElem?_getD]
      rw [hs1] at hg1
      have hex:=ext_add ((chS T 5).2*19%18446744073709551616) ((chS T 5).1.getD 0 0)
      have hbig:(chS T 5).1.getD 1 0+((chS T 5).2*19+(chS T 5).1.getD 0 0)/2251799813685248<9223372036854775808:=r2 _ (by
        rw [hR]
        obtain ⟨o0,o1,o2,o3,o4,ho⟩:=five hcl
        rw [ho]
        simp)
      have hsm:(chS T 5).1.getD 0 0<9223372036854775808:=by
        have:=getD_lt (chS_lt T 5) (by omega) 0
        omega
      have hlo:=words_lo ((chS T 5).2*19) ((chS T 5).1.getD 0 0)
      have hhi:=words_hi (q:=(chS T 5).2*19) (c:=(chS T 5).1.getD 0 0) (by omega)
      have hmod:((chS T 5).1.getD 1 0+((chS T 5).2*19+(chS T 5).1.getD 0 0)/2251799813685248)%18446744073709551616=(chS T 5).1.getD 1 0+((chS T 5).2*19+(chS T 5).1.getD 0 0)/2251799813685248:=Nat.mod_eq_of_lt (by omega)
      have t5:=numsC_take hRl;have u5:=nums_take hRl;have d5:=numsC_drop hRl
      have hcl6:=c1.1
      have t6:=numsC_take hcl6;have u6:=nums_take hcl6;have d6:=numsC_drop hcl6
      generalize carryL (mulR T)=R at *
      rw [hR] at t5 d5 u5 hm
      (repeat' (first|with_reducible (first|refine zA fun Kn hK=>?_|refine zB (by kernel_rfl) ?_|refine Nx.go ?_|go_step)|(refine ⟨_,hm19,?_⟩)|(refine ⟨_,hex,?_⟩)|(refine ⟨_,hm,?_⟩)|with_reducible (first|refine zI ?_|refine zJ ?_|refine zK ?_ ?_|refine zL ?_ ?_|refine zR (by kernel_rfl) ?_)|simp (maxSteps:=9999999) (disch:=omega) only [wq]|(with_reducible refine zM (fun hb=>?_) (fun hb=>?_) <;> (try simp only [hb]))|(with_reducible refine And.intro (by first|omega|(simp;done)|(simp;omega)) ?_)|simp (maxSteps:=9999999) (implicitDefEqProofs:=false) only [go_sem,hb2,List.length_map,List.length_set,hcl,hcl6,hg0,hg1,hlo,hhi,hmod,t5,u5,t6,d6,u6,List.append_nil]|fail))
      all_goals skip
end Go.Proofs.YtdakeodebgggfaaGreatDoor
namespace Go.Proofs.YtdakeodebgggfaaGreatDoor
open Go.RowKit
theorem exp_hi {n l j:Nat} (hl:0<l) (hj:l≤2^j) (hn:j<n):(2^n-l)/2^j=2*((2^n-l)/2^(j+1))+1:=by
  obtain ⟨d,rfl⟩: ∃ d,n=j+1+d:=⟨n-(j+1),by omega⟩
  have hp:0<2^j:=Nat.pow_pos (by omega)
  have hd:0<2^d:=Nat.pow_pos (by omega)
  have e1:2^(j+1+d)=2^j*(2*2^d):=by rw [Nat.pow_add,Nat.pow_succ,Nat.mul_assoc]
  have e2:2^(j+1)=2^j*2:=Nat.pow_succ ..
  have h1:(2^(j+1+d)-l)/2^j=2*2^d-1:=by
    rw [e1]
    rw [Nat.div_eq_iff hp]
    generalize 2^j=P at *
    generalize 2^d=D at *
    have:P*(2*D)=(2*D-1)*P+P:=by
      rw [Nat.mul_comm P,Nat.sub_mul,Nat.one_mul]
      have:P≤2*D*P:=Nat.le_mul_of_pos_left P (by omega)
      omega
    omega
  have h2:(2^(j+1+d)-l)/2^(j+1)=2^d-1:=by
    rw [e2,← Nat.div_div_eq_div_mul,h1]
    omega
  rw [h1,h2]
  omega
theorem exp_lo {n l j:Nat} (hl:l≤18446744073709551616) (hj:j<64) (hn:64≤n):(2^n-l)/2^j=2*((2^n-l)/2^(j+1))+(18446744073709551616-l)/2^j%2:=by
  obtain ⟨d,rfl⟩: ∃ d,n=64+d:=⟨n-64,by omega⟩
  have hp:0<2^j:=Nat.pow_pos (by omega)
  have hd:0<2^d:=Nat.pow_pos (by omega)
  have e1:2^(64+d)-l=2^j*(2^(64-j)*(2^d-1))+(18446744073709551616-l):=by
    have:2^j*(2^(64-j)*(2^d-1))=18446744073709551616*(2^d-1):=by
      rw [← Nat.mul_assoc,← Nat.pow_add,show j+(64-j)=64 by omega]
    rw [this,Nat.pow_add]
    generalize 2^d=D at *
    have:(2:Nat)^64=18446744073709551616:=rfl
    rw [this]
    omega
  have e2:2^(j+1)=2^j*2:=Nat.pow_succ ..
  rw [e2,← Nat.div_div_eq_div_mul,e1,Nat.mul_add_div hp]
  obtain ⟨k,hk⟩: ∃ k,64-j=k+1:=⟨63-j,by omega⟩
  rw [hk,Nat.pow_succ,Nat.mul_comm (2^k),Nat.mul_assoc]
  generalize 2^k*(2^d-1)=z
  omega
theorem fpow_dbl (x:F) (e:Nat):fpow x e*fpow x e=fpow x (2*e):=by rw [← fpow_add,Nat.two_mul]
theorem elF_one:elF [1,0,0,0,0]=1:=by decide +kernel
@[go_sem] theorem shr_var {a j:Nat}:(a:Int).fdiv (2^min j 64)=((a/2^min j 64:Nat):Int):=by
  have h:((2:Int)^min j 64)=((2^min j 64:Nat):Int):=by simp
  rw [h,Int.fdiv_eq_ediv_of_nonneg _ (Int.natCast_nonneg _)]
  rfl
def bitE (l j:Nat):Bool:=decide (64≤j)||decide ((18446744073709551616-l)/2^j%2=1)
def pwL (x:List Nat) (n l:Nat):Nat→List Nat
  | 0=>[1,0,0,0,0]
  | k+1=>if bitE l (n-1-k) then mulX (mulX (pwL x n l k) (pwL x n l k)) x else mulX (pwL x n l k) (pwL x n l k)
theorem mulE_ok {a b:List Nat} (ha:El a) (hb:El b):El (mulX a b)∧elF (mulX a b)=elF a*elF b:=⟨(mulE_m (G:=fun _=>none) a b ha hb).1,(mulE_m (G:=fun _=>none) a b ha hb).2.1⟩
theorem powL_ok {x:List Nat} (hx:El x) {n l:Nat} (hn:64≤n) (hl:0<l) (hl2:l<18446744073709551616): ∀ k,k≤n→El (pwL x n l k)∧elF (pwL x n l k)=fpow (elF x) ((2^n-l)/2^(n-k))
  | 0,_=>by
    refine ⟨⟨rfl,by simp [pwL]⟩,?_⟩
    rw [pwL,elF_one,Nat.sub_zero,Nat.div_eq_of_lt (Nat.sub_lt (Nat.pow_pos (by omega)) hl),fpow_zero]
  | k + 1,hk=>by
    obtain ⟨h1,h2⟩:=powL_ok hx hn hl hl2 k (by omega)
    have m1:=mulE_ok h1 h1
    have m2:=mulE_ok m1.1 hx
    obtain ⟨j,hj⟩: ∃ j,n-k=j+1:=⟨n-k-1,by omega⟩
    have e1:n-1-k=j:=by omega
    have e2:n-(k+1)=j:=by omega
    rw [pwL,e1,e2]
    rw [hj] at h2
    have hd:elF (mulX (pwL x n l k) (pwL x n l k))=fpow (elF x) (2*((2^n-l)/2^(j+1))):=by rw [m1.2,h2,fpow_dbl]
    by_cases hb:bitE l j=true
    · rw [if_pos hb]
      refine ⟨m2.1,?_⟩
      have he:(2^n-l)/2^j=2*((2^n-l)/2^(j+1))+1:=by
        simp only [bitE,Bool.or_eq_true,decide_eq_true_eq] at hb
        by_cases h64:64≤j
        · refine exp_hi hl ?_ (by omega)
          have h3:2^64≤2^j:=Nat.pow_le_pow_right (by omega) h64
          have h4:(2:Nat)^64=18446744073709551616:=rfl
          omega
        · rw [exp_lo (j:=j) (by omega) (by omega) hn]
          have:=hb.resolve_left h64
          omega
      rw [m2.2,hd,he,fpow_succ]
    · rw [if_neg hb]
      refine ⟨m1.1,?_⟩
      simp only [bitE,Bool.or_eq_true,decide_eq_true_eq,not_or] at hb
      rw [hd,exp_lo (j:=j) (by omega) (by omega) hn]
      have:(18446744073709551616-l)/2^j%2=0:=by omega
      rw [this]
      rfl
theorem q11:(((1:Nat):Int)==1)=true:=rfl
theorem q01:(((0:Nat):Int)==1)=false:=rfl
theorem powE_m {G:Nat→Option (List D)} (x:List Nat) (hx:El x) (n l:Nat) (hn:64≤n) (hn2:n≤1000) (hl:0<l) (hl2:l<18446744073709551616):Spec Tryz.prog G 117 [.g (x.map nD),.c (.v (.int .i64 n)),.c (nD l)] (.one (.g ((pwL x n l n).map nD))):=by
  have hex:=hx.1
  have t0:=numsC_take hex;have u0:=nums_take hex;have d0:=numsC_drop hex
  have ho:Spec Tryz.prog G 80 [.c (.v (.int .u64 1))] (.one (.g ([1,0,0,0,0].map nD))):=(of5_m (G:=G) 1 (by omega)).2.2
  have hpl: ∀ k,k≤n→(pwL x n l k).length=5:=fun k hk=>(powL_ok hx hn hl hl2 k hk).1.1
  refine spec_of Tryz.func117 rfl rfl rfl (by kernel_rfl) rfl fun K=>?_
  (repeat' (first|with_reducible (first|refine zA fun Kn hK=>?_|refine zB (by kernel_rfl) ?_|refine Nx.go ?_|go_step)|(refine ⟨_,ho,?_⟩)|with_reducible (first|refine zI ?_|refine zJ ?_|refine zK ?_ ?_|refine zL ?_ ?_|refine zR (by kernel_rfl) ?_)|simp (maxSteps:=9999999) (disch:=omega) only [wq]|(with_reducible refine zM (fun hb=>?_) (fun hb=>?_) <;> (try simp only [hb]))|(with_reducible refine And.intro (by first|omega|(simp;done)|(simp;omega)) ?_)|simp (maxSteps:=9999999) (implicitDefEqProofs:=false) only [go_sem,List.length_map,hex,t0,d0,u0,List.map_cons,List.map_nil]|fail))
  refine sound_loopR (fun y:{k:Nat // k≤n}=>⟨[(3,vP 3 0),(6,vP 6 0),(7,vP 7 0),(2,.a (.c (.d (nD l)))),(8,vI ((n:Int)-1-y.1))],
    [(3,some ⟨81,(x.map nD).map C.d,true,false⟩),(6,some ⟨81,zeroOf Tryz.prog 81,true,false⟩),(7,some ⟨81,((pwL x n l y.1).map nD).map C.d,true,false⟩)]⟩) (fun y=>n-y.1) ⟨0,by omega⟩ [] (by (iterate 2 ((try simp (maxSteps:=9999999) (implicitDefEqProofs:=false) only [go_sem,true_and]);(try simp (maxSteps:=9999999) (disch:=omega) only [wq])));simp [pwL,nD]) (fun ⟨k,hk⟩=>?_)
  have hok:=powL_ok hx hn hl hl2 k hk
  have hkl:=hok.1.1
  have m1:=mulE_m (G:=G) (pwL x n l k) (pwL x n l k) hok.1 hok.1
  have m2:=mulE_m (G:=G) (mulX (pwL x n l k) (pwL x n l k)) x m1.1 hx
  have hl1:=m1.1.1
  have hl2':=m2.1.1
  by_cases hlt:k<n
  · obtain ⟨j,hj⟩: ∃ j,n-k=j+1:=⟨n-k-1,by omega⟩
    have e1:(n:Int)-1-(k:Int)=(j:Int):=by omega
    have e2:n-1-k=j:=by omega
    have hs:pwL x n l (k+1)=if bitE l j then mulX (mulX (pwL x n l k) (pwL x n l k)) x else mulX (pwL x n l k) (pwL x n l k):=by rw [pwL,e2]
    rw [e1]
    have hb:decide ((j:Int)≥0)=true:=decide_eq_true (by omega)
    generalize pwL x n l k=O at *
    generalize mulX O O=P at *
    generalize mulX P x=R at *
    have t1:=numsC_take hkl;have u1:=nums_take hkl;have d1:=numsC_drop hkl
    have t2:=numsC_take hl1;have u2:=nums_take hl1;have d2:=numsC_drop hl1
    have t3:=numsC_take hl2';have u3:=nums_take hl2';have d3:=numsC_drop hl2'
    by_cases h64:64≤j
    · have hb2:decide ((j:Int)<64)=false:=decide_eq_false (by omega)
      have hbit:bitE l j=true:=by simp [bitE,h64]
      rw [if_pos hbit] at hs
      (repeat' (first|with_reducible (first|refine zA fun Kn hK=>?_|refine zB (by kernel_rfl) ?_|refine Nx.go ?_|go_step)|(refine ⟨_,m1.2.2,?_⟩)|(refine ⟨_,m2.2.2,?_⟩)|with_reducible (first|refine zI ?_|refine zJ ?_|refine zK ?_ ?_|refine zL ?_ ?_|refine zR (by kernel_rfl) ?_)|simp (maxSteps:=9999999) (disch:=omega) only [wq]|(with_reducible refine zM (fun hb=>?_) (fun hb=>?_) <;> (try simp only [hb]))|(with_reducible refine And.intro (by first|omega|(simp;done)|(simp;omega)) ?_)|simp (maxSteps:=9999999) (implicitDefEqProofs:=false) only [go_sem,hb,hb2,List.length_map,hkl,hl1,hl2',hex,t0,d0,u0,t1,d1,u1,t2,d2,u2,t3,d3,u3,List.append_nil]|fail))
      refine ⟨[],⟨k+1,hlt⟩,?_⟩
      (iterate 2 ((try simp (maxSteps:=9999999) (implicitDefEqProofs:=false) only [go_sem,hs]);(try simp (maxSteps:=9999999) (disch:=omega) only [wq])))
      try (simp only [ijq,true_and,and_true];first|done|omega|(split <;> omega)|(simp;done)|(simp;omega))
    · have hb2:decide ((j:Int)<64)=true:=decide_eq_true (by omega)
      have hmin:min j 64=j:=by omega
      have hle:(18446744073709551616-l%18446744073709551616)%18446744073709551616=18446744073709551616-l:=by omega
      have hdl:(18446744073709551616-l)/2^min j 64%18446744073709551616=(18446744073709551616-l)/2^min j 64:=Nat.mod_eq_of_lt (Nat.lt_of_le_of_lt (Nat.div_le_self ..) (by omega))
      by_cases hbit:bitE l j=true
      · rw [if_pos hbit] at hs
        have h1:(18446744073709551616-l)/2^j%2=1:=by
          simp only [bitE,Bool.or_eq_true,decide_eq_true_eq] at hbit
          exact hbit.resolve_left h64
        rw [show j=min j 64 from hmin.symm] at h1
        (repeat' (first|with_reducible (first|refine zA fun Kn hK=>?_|refine zB (by kernel_rfl) ?_|refine Nx.go ?_|go_step)|(refine ⟨_,m1.2.2,?_⟩)|(refine ⟨_,m2.2.2,?_⟩)|with_reducible (first|refine zI ?_|refine zJ ?_|refine zK ?_ ?_|refine zL ?_ ?_|refine zR (by kernel_rfl) ?_)|simp (maxSteps:=9999999) (disch:=omega) only [wq]|(with_reducible refine zM (fun hb=>?_) (fun hb=>?_) <;> (try simp only [hb]))|(with_reducible refine And.intro (by first|omega|(simp;done)|(simp;omega)) ?_)|simp (maxSteps:=9999999) (implicitDefEqProofs:=false) only [go_sem,hb,hb2,hle,hdl,h1,q11,q01,List.length_map,hkl,hl1,hl2',hex,t0,d0,u0,t1,d1,u1,t2,d2,u2,t3,d3,u3,List.append_nil]|fail))
        refine ⟨[],⟨k+1,hlt⟩,?_⟩
        (iterate 2 ((try simp (maxSteps:=9999999) (implicitDefEqProofs:=false) only [go_sem,hs]);(try simp (maxSteps:=9999999) (disch:=omega) only [wq])))
        try (simp only [ijq,true_and,and_true];first|done|omega|(split <;> omega)|(simp;done)|(simp;omega))
      · rw [if_neg hbit] at hs
        have h1:(18446744073709551616-l)/2^j%2=0:=by
          simp only [bitE,Bool.or_eq_true,decide_eq_true_eq,not_or] at hbit
          omega
        rw [show j=min j 64 from hmin.symm] at h1
        (repeat' (first|with_reducible (first|refine zA fun Kn hK=>?_|refine zB (by kernel_rfl) ?_|refine Nx.go ?_|go_step)|(refine ⟨_,m1.2.2,?_⟩)|(refine ⟨_,m2.2.2,?_⟩)|with_reducible (first|refine zI ?_|refine zJ ?_|refine zK ?_ ?_|refine zL ?_ ?_|refine zR (by kernel_rfl) ?_)|simp (maxSteps:=9999999) (disch:=omega) only [wq]|(with_reducible refine zM (fun hb=>?_) (fun hb=>?_) <;> (try simp only [hb]))|(with_reducible refine And.intro (by first|omega|(simp;done)|(simp;omega)) ?_)|simp (maxSteps:=9999999) (implicitDefEqProofs:=false) only [go_sem,hb,hb2,hle,hdl,h1,q11,q01,List.length_map,hkl,hl1,hl2',hex,t0,d0,u0,t1,d1,u1,t2,d2,u2,t3,d3,u3,List.append_nil]|fail))
        refine ⟨[],⟨k+1,hlt⟩,?_⟩
        (iterate 2 ((try simp (maxSteps:=9999999) (implicitDefEqProofs:=false) only [go_sem,hs]);(try simp (maxSteps:=9999999) (disch:=omega) only [wq])))
        try (simp only [ijq,true_and,and_true];first|done|omega|(split <;> omega)|(simp;done)|(simp;omega))
  · obtain rfl:k=n:=by omega
    have e1:(k:Int)-1-(k:Int)= -1:=by omega
    rw [e1]
    have hb:decide ((-1:Int)≥0)=false:=rfl
    have t1:=numsC_take hkl;have u1:=nums_take hkl;have d1:=numsC_drop hkl
    (repeat' (first|with_reducible (first|refine zA fun Kn hK=>?_|refine zB (by kernel_rfl) ?_|refine Nx.go ?_|go_step)|fail|with_reducible (first|refine zI ?_|refine zJ ?_|refine zK ?_ ?_|refine zL ?_ ?_|refine zR (by kernel_rfl) ?_)|simp (maxSteps:=9999999) (disch:=omega) only [wq]|(with_reducible refine zM (fun hb=>?_) (fun hb=>?_) <;> (try simp only [hb]))|(with_reducible refine And.intro (by first|omega|(simp;done)|(simp;omega)) ?_)|simp (maxSteps:=9999999) (implicitDefEqProofs:=false) only [go_sem,hb,List.length_map,hkl,t1,d1,u1,List.append_nil]|fail))
end Go.Proofs.YtdakeodebgggfaaGreatDoor
namespace Go.Proofs.YtdakeodebgggfaaGreatDoor
open Go.RowKit
def leB (n:Nat):List UInt8:=(List.range 32).map fun j=>UInt8.ofNat (n/2^(8*j)%256)
theorem leB_len (n:Nat):(leB n).length=32:=by simp [leB]
theorem leB_get {n j:Nat} (h:j<32):(leB n)[j]?=some (UInt8.ofNat (n/2^(8*j)%256)):=by
  simp [leB,h]
theorem leB_zero:leB 0=List.replicate 32 0:=by decide +kernel
theorem bits_low (n:Nat) {i j s:Nat} (hi:i=8*j+s) (hs:s≤8):n%2^i/2^(8*j)%256=n/2^(8*j)%2^s:=by
  subst hi
  rw [Nat.pow_add,Nat.mod_mul_right_div_self]
  refine Nat.mod_eq_of_lt (Nat.lt_of_lt_of_le (Nat.mod_lt _ (Nat.pow_pos (by omega))) ?_)
  calc 2^s≤2^8:=Nat.pow_le_pow_right (by omega) hs
    _=256:=rfl
theorem bit_split (m s:Nat):m%2^(s+1)=m%2^s+m/2^s%2*2^s:=by
  rw [Nat.pow_succ,Nat.mod_mul,Nat.mul_comm (2^s)]
theorem leB_step (n:Nat) {i:Nat} (hi:i<256):(leB (n%2^i)).set (i/8) (UInt8.ofNat (n/2^(8*(i/8))%2^(i%8)+n/2^i%2*2^(i%8)))=leB (n%2^(i+1)):=by
  refine List.ext_getElem? fun j=>?_
  by_cases hj:j<32
  · rw [leB_get hj]
    by_cases he:i/8=j
    · subst he
      rw [List.getElem?_set_self (by rw [leB_len];exact hj)]
      rw [bits_low n (i:=i+1) (s:=i%8+1) (by omega) (by omega),bit_split]
      rw [Nat.div_div_eq_div_mul,← Nat.pow_add,show 8*(i/8)+i%8=i by omega]
    · rw [List.getElem?_set_ne he,leB_get hj]
      congr 2
      by_cases hlt:j<i/8
      · have h1: ∀ i',8*j+8≤i'→n%2^i'/2^(8*j)%256=n/2^(8*j)%256:=fun i' h=>by
          obtain ⟨d,rfl⟩: ∃ d,i'=8*j+(8+d):=⟨i'-(8*j+8),by omega⟩
          rw [Nat.pow_add,Nat.mod_mul_right_div_self,Nat.pow_add,show (2:Nat)^8=256 from rfl,Nat.mod_mul_right_mod]
        rw [h1 i (by omega),h1 (i+1) (by omega)]
      · have h1: ∀ i',i'≤8*j→n%2^i'/2^(8*j)%256=0:=fun i' h=>by
          rw [Nat.div_eq_of_lt]
          exact Nat.lt_of_lt_of_le (Nat.mod_lt _ (Nat.pow_pos (by omega))) (Nat.pow_le_pow_right (by omega) h)
        rw [h1 i (by omega),h1 (i+1) (by omega)]
  · rw [List.getElem?_eq_none (by rw [List.length_set,leB_len];omega),List.getElem?_eq_none (by rw [leB_len];omega)]
theorem lim51_get {n q:Nat} (hq:q<5):(lim51 n).getD q 0=n/2^(51*q)%2251799813685248:=by
  have e:(2251799813685248:Nat)=2^51:=rfl
  match q,hq with
  | 0,_=>simp [lim51]
  | 1,_=>rfl
  | 2,_=>show n/_/_%_=_;rw [Nat.div_div_eq_div_mul]
  | 3,_=>show n/_/_/_%_=_;rw [Nat.div_div_eq_div_mul,Nat.div_div_eq_div_mul]
  | 4,_=>show n/_/_/_/_%_=_;rw [Nat.div_div_eq_div_mul,Nat.div_div_eq_div_mul,Nat.div_div_eq_div_mul]
theorem lim51_bit {n i:Nat} (hi:i<255):(lim51 n).getD (i/51) 0/2^(i%51)%2=n/2^i%2:=by
  rw [lim51_get (by omega),show (2251799813685248:Nat)=2^(i%51)*2^(51-i%51) by rw [← Nat.pow_add,show i%51+(51-i%51)=51 by omega],Nat.mod_mul_right_div_self,Nat.div_div_eq_div_mul,← Nat.pow_add,show 51*(i/51)+i%51=i by omega]
  obtain ⟨d,hd⟩: ∃ d,51-i%51=d+1:=⟨50-i%51,by omega⟩
  rw [hd,Nat.pow_succ,Nat.mul_comm,Nat.mod_mul_right_mod]
@[go_sem] theorem tdiv_n {a b:Nat}:(a:Int).tdiv (no_index (OfNat.ofNat b))=((a/b:Nat):Int):=by
  show (a:Int).tdiv (b:Int)=_
  rw [Int.tdiv_eq_ediv_of_nonneg (by omega)]
  rfl
@[go_sem] theorem tmod_n {a b:Nat}:(a:Int).tmod (no_index (OfNat.ofNat b))=((a%b:Nat):Int):=by
  show (a:Int).tmod (b:Int)=_
  rw [Int.tmod_eq_emod_of_nonneg (by omega)]
  rfl
@[go_sem] theorem shl_8 {a s:Nat}:IntKind.u8.wrap ((a:Int)*2^min s 8)=((a*2^min s 8%256:Nat):Int):=by
  rw [← wrap8_nat]
  simp
theorem or_disj {a b s:Nat} (ha:a<2^s):a ||| b*2^s=a+b*2^s:=by
  have:=Nat.shiftLeft_add_eq_or_of_lt ha b
  rw [Nat.shiftLeft_eq,Nat.or_comm] at this
  omega
theorem bytesC_set {l:List UInt8} {k v:Nat} (hv:v<256):((l.map bD).map C.d).set k (C.d (D.v (.int .u8 (v:Int))))=((l.set k (UInt8.ofNat v)).map bD).map C.d:=by
  rw [List.map_set,List.map_set]
  have:bD (UInt8.ofNat v)=D.v (.int .u8 (v:Int)):=by
    simp only [bD]
    rw [UInt8.toNat_ofNat_of_lt' (by simpa using hv)]
  rw [this]
theorem pow_le8 {s:Nat} (h:s≤8):2^s≤256:=Nat.pow_le_pow_right (n:=2) (by omega) h
theorem bytesE_m {G:Nat→Option (List D)} (l:List Nat) (hl:l.length=5) (hb: ∀ x∈l,x<9223372036854775808):Spec Tryz.prog G 89 [.g (l.map nD)] (.one (.g ((leB (elF l).val).map bD))):=by
  have hr:=reduced_m (G:=G) l hl hb
  have hn:(elF l).val<2^255:=Nat.lt_trans (elF l).isLt (by decide +kernel)
  generalize (elF l).val=n at *
  have hll:(lim51 n).length=5:=(lim51_prop n).1
  have t0:=numsC_take hl;have u0:=nums_take hl;have d0:=numsC_drop hl
  have t1:=numsC_take hll;have u1:=nums_take hll;have d1:=numsC_drop hll
  refine spec_of Tryz.func89 rfl rfl rfl (by kernel_rfl) rfl fun K=>?_
  (repeat' (first|with_reducible (first|refine zA fun Kn hK=>?_|refine zB (by kernel_rfl) ?_|refine Nx.go ?_|go_step)|(refine ⟨_,hr,?_⟩)|with_reducible (first|refine zI ?_|refine zJ ?_|refine zK ?_ ?_|refine zL ?_ ?_|refine zR (by kernel_rfl) ?_)|simp (maxSteps:=9999999) (disch:=omega) only [wq]|(with_reducible refine zM (fun hb=>?_) (fun hb=>?_) <;> (try simp only [hb]))|(with_reducible refine And.intro (by first|omega|(simp;done)|(simp;omega)) ?_)|simp (maxSteps:=9999999) (implicitDefEqProofs:=false) only [go_sem,List.length_map,hl,hll,t0,d0,u0,t1,d1,u1,List.append_nil]|fail))
  refine sound_loopR (fun x:{k:Nat // k≤256}=>⟨[(1,vP 1 0),(2,vP 2 0),(3,vP 3 0),(7,vI x.1)],
    [(1,some ⟨81,((lim51 n).map nD).map C.d,true,false⟩),(2,some ⟨39,zeroOf Tryz.prog 39,true,false⟩),(3,some ⟨39,((leB (n%2^x.1)).map bD).map C.d,true,false⟩)]⟩) (fun x=>256-x.1) ⟨0,by omega⟩ [] (by (iterate 2 ((try simp (maxSteps:=9999999) (implicitDefEqProofs:=false) only [go_sem,true_and]);(try simp (maxSteps:=9999999) (disch:=omega) only [wq])));simp [Nat.mod_one,leB_zero,bD]) (fun ⟨i,hi⟩=>?_)
  have hle:=leB_len (n%2^i)
  by_cases hlt:i<256
  · have hb1:decide ((i:Int)<256)=true:=decide_eq_true (by omega)
    by_cases h255:i<255
    · have hb2:decide ((i:Int)<255)=true:=decide_eq_true (by omega)
      have hg1:=numsC_get (l:=lim51 n) (k:=i/51) (by omega)
      have hg2:(((leB (n%2^i)).map bD).map C.d)[i/8]?=some (C.d (D.v (.int .u8 ((n/2^(8*(i/8))%2^(i%8):Nat):Int)))):=by
        rw [List.getElem?_map,List.getElem?_map,leB_get (by omega),bits_low n (i:=i) (s:=i%8) (by omega) (by omega)]
        simp only [Option.map_some,bD]
        rw [UInt8.toNat_ofNat_of_lt']
        have:=Nat.mod_lt (n/2^(8*(i/8))) (Nat.pow_pos (n:=i%8) (show 0<2 by omega))
        have:=pow_le8 (s:=i%8) (by omega)
        simp only [UInt8.size]
        omega
      have hm1:min (i%51) 64=i%51:=by omega
      have hm2:min (i%8) 8=i%8:=by omega
      have hbit:(lim51 n).getD (i/51) 0/2^min (i%51) 64%18446744073709551616%2=n/2^i%2:=by
        rw [hm1,Nat.mod_mod_of_dvd _ (by decide),lim51_bit h255]
      have hlo:=Nat.mod_lt (n/2^(8*(i/8))) (Nat.pow_pos (n:=i%8) (show 0<2 by omega))
      have hp8:=pow_le8 (s:=i%8+1) (by omega)
      rw [Nat.pow_succ] at hp8
      have hbl:n/2^i%2<2:=Nat.mod_lt _ (by omega)
      have hbm:n/2^i%2*2^(i%8)≤2^(i%8):=by
        have:n/2^i%2=0∨n/2^i%2=1:=by omega
        rcases this with h|h <;> rw [h] <;> omega
      have h8:n/2^i%2*2^min (i%8) 8%256=n/2^i%2*2^(i%8):=by
        rw [hm2]
        exact Nat.mod_eq_of_lt (by omega)
      have hor:n/2^(8*(i/8))%2^(i%8)%256 ||| n/2^i%2*2^(i%8)%256=n/2^(8*(i/8))%2^(i%8)+n/2^i%2*2^(i%8):=by
        rw [Nat.mod_eq_of_lt (show _<256 by omega),Nat.mod_eq_of_lt (a:=n/2^i%2*2^(i%8)) (by omega),or_disj hlo]
      have hst:=bytesC_set (l:=leB (n%2^i)) (k:=i/8) (v:=n/2^(8*(i/8))%2^(i%8)+n/2^i%2*2^(i%8)) (by omega)
      rw [leB_step n hlt] at hst
      (repeat' (first|with_reducible (first|refine zA fun Kn hK=>?_|refine zB (by kernel_rfl) ?_|refine Nx.go ?_|go_step)|fail|with_reducible (first|refine zI ?_|refine zJ ?_|refine zK ?_ ?_|refine zL ?_ ?_|refine zR (by kernel_rfl) ?_)|simp (maxSteps:=9999999) (disch:=omega) only [wq]|(with_reducible refine zM (fun hb=>?_) (fun hb=>?_) <;> (try simp only [hb]))|(with_reducible refine And.intro (by first|omega|(simp;done)|(simp;omega)) ?_)|simp (maxSteps:=9999999) (implicitDefEqProofs:=false) only [go_sem,hb1,hb2,hg1,hg2,hbit,h8,hor,hst,List.length_map,hll,hle]|fail))
      refine ⟨[],⟨i+1,hlt⟩,?_⟩
      (iterate 2 ((try simp (maxSteps:=9999999) (implicitDefEqProofs:=false) only [go_sem,true_and]);(try simp (maxSteps:=9999999) (disch:=omega) only [wq])))
      try (simp only [ijq,true_and,and_true];first|done|omega|(split <;> omega)|(simp;done)|(simp;omega))
    · have hb2:decide ((i:Int)<255)=false:=decide_eq_false (by omega)
      obtain rfl:i=255:=by omega
      have he:n%2^(255+1)=n%2^255:=by
        rw [Nat.mod_eq_of_lt hn,Nat.mod_eq_of_lt (Nat.lt_trans hn (by decide))]
      (repeat' (first|with_reducible (first|refine zA fun Kn hK=>?_|refine zB (by kernel_rfl) ?_|refine Nx.go ?_|go_step)|fail|with_reducible (first|refine zI ?_|refine zJ ?_|refine zK ?_ ?_|refine zL ?_ ?_|refine zR (by kernel_rfl) ?_)|simp (maxSteps:=9999999) (disch:=omega) only [wq]|(with_reducible refine zM (fun hb=>?_) (fun hb=>?_) <;> (try simp only [hb]))|(with_reducible refine And.intro (by first|omega|(simp;done)|(simp;omega)) ?_)|simp (maxSteps:=9999999) (implicitDefEqProofs:=false) only [go_sem,hb1,hb2,List.length_map,hll,hle]|fail))
      refine ⟨[],⟨255+1,hlt⟩,?_⟩
      (iterate 2 ((try simp (maxSteps:=9999999) (implicitDefEqProofs:=false) only [go_sem,he]);(try simp (maxSteps:=9999999) (disch:=omega) only [wq])))
      try (simp only [ijq,true_and,and_true];first|done|omega|(split <;> omega)|(simp;done)|(simp;omega))
  · have hb1:decide ((i:Int)<256)=false:=decide_eq_false (by omega)
    obtain rfl:i=256:=by omega
    have hv:n%2^256=n:=Nat.mod_eq_of_lt (Nat.lt_trans hn (by decide))
    rw [hv] at hle
    have ht1:(((leB n).map bD).map C.d).take 32=((leB n).map bD).map C.d:=List.take_of_length_le (by rw [List.length_map,List.length_map,hle];omega)
    have ht2:((leB n).map bD).take 32=(leB n).map bD:=List.take_of_length_le (by rw [List.length_map,hle];omega)
    have ht3:(((leB n).map bD).map C.d).drop 32=[]:=List.drop_eq_nil_of_le (by rw [List.length_map,List.length_map,hle];omega)
    (repeat' (first|with_reducible (first|refine zA fun Kn hK=>?_|refine zB (by kernel_rfl) ?_|refine Nx.go ?_|go_step)|fail|with_reducible (first|refine zI ?_|refine zJ ?_|refine zK ?_ ?_|refine zL ?_ ?_|refine zR (by kernel_rfl) ?_)|simp (maxSteps:=9999999) (disch:=omega) only [wq]|(with_reducible refine zM (fun hb=>?_) (fun hb=>?_) <;> (try simp only [hb]))|(with_reducible refine And.intro (by first|omega|(simp;done)|(simp;omega)) ?_)|simp (maxSteps:=9999999) (implicitDefEqProofs:=false) only [go_sem,hb1,hv,hle,ht1,ht2,ht3,List.length_map,List.append_nil,List.length_replicate,List.drop_replicate]|fail))
end Go.Proofs.YtdakeodebgggfaaGreatDoor
namespace Go.Proofs.YtdakeodebgggfaaGreatDoor
open Go.RowKit
def leV:List UInt8→Nat
  | []=>0
  | b::l=>b.toNat+256*leV l
theorem leV_lt: ∀ l:List UInt8,leV l<256^l.length
  | []=>by simp [leV]
  | b::l=>by
    have h1:=leV_lt l
    have h2:b.toNat<256:=b.toNat_lt
    rw [leV,List.length_cons,Nat.pow_succ]
    omega
theorem leV_at: ∀ {l:List UInt8} {j:Nat} {b:UInt8},l[j]?=some b→leV l/256^j%256=b.toNat
  | [],j,b,h=>by simp at h
  | c::l,0,b,h=>by
    simp at h
    subst h
    have h2:c.toNat<256:=c.toNat_lt
    rw [leV,Nat.pow_zero,Nat.div_one]
    omega
  | c::l,j+1,b,h=>by
    have h2:c.toNat<256:=c.toNat_lt
    have ih:=leV_at (l:=l) (j:=j) (b:=b) (by simpa using h)
    rw [leV,Nat.pow_succ,Nat.mul_comm (256^j),← Nat.div_div_eq_div_mul,show (c.toNat+256*leV l)/256=leV l by omega,ih]
theorem pow256 (j:Nat):256^j=2^(8*j):=by rw [Nat.pow_mul]
theorem leB_leV {l:List UInt8} (h:l.length=32):leB (leV l)=l:=by
  refine List.ext_getElem? fun j=>?_
  by_cases hj:j<32
  · rw [leB_get hj,← pow256,leV_at (List.getElem?_eq_getElem (show j<l.length by omega)),List.getElem?_eq_getElem (by omega)]
    simp
  · rw [List.getElem?_eq_none (by rw [leB_len];omega),List.getElem?_eq_none (by omega)]
theorem leV_mod: ∀ (k:Nat) (n:Nat),leV ((List.range k).map fun j=>UInt8.ofNat (n/2^(8*j)%256))=n%256^k
  | 0,n=>by simp [leV,Nat.mod_one]
  | k + 1,n=>by
    have ih:=leV_mod k (n/256)
    rw [List.range_succ_eq_map,List.map_cons,List.map_map,leV]
    have e:(List.map ((fun j=>UInt8.ofNat (n/2^(8*j)%256))∘Nat.succ) (List.range k))=(List.range k).map fun j=>UInt8.ofNat (n/256/2^(8*j)%256):=by
      refine List.map_congr_left fun j _=>?_
      show UInt8.ofNat (n/2^(8*(j+1))%256)=_
      rw [Nat.div_div_eq_div_mul,show 8*(j+1)=8+8*j by omega,Nat.pow_add]
    rw [e,ih,UInt8.toNat_ofNat_of_lt' (by simp only [UInt8.size];omega),Nat.pow_succ,Nat.mul_comm (256^k),Nat.mod_mul]
    simp
theorem leV_leB {n:Nat} (h:n<2^256):leV (leB n)=n:=by
  rw [leB,leV_mod]
  exact Nat.mod_eq_of_lt h
theorem leB_inj {m n:Nat} (hm:m<2^256) (hn:n<2^256) (h:leB m=leB n):m=n:=by
  rw [← leV_leB hm,h,leV_leB hn]
theorem leV_bit {l:List UInt8} {i:Nat} {b:UInt8} (h:l[i/8]?=some b):b.toNat/2^(i%8)%2=leV l/2^i%2:=by
  rw [← leV_at h,pow256,show (256:Nat)=2^(i%8)*2^(8-i%8) by rw [← Nat.pow_add,show i%8+(8-i%8)=8 by omega],Nat.mod_mul_right_div_self,Nat.div_div_eq_div_mul,← Nat.pow_add,show 8*(i/8)+i%8=i by omega]
  obtain ⟨d,hd⟩: ∃ d,8-i%8=d+1:=⟨7-i%8,by omega⟩
  rw [hd,Nat.pow_succ,Nat.mul_comm,Nat.mod_mul_right_mod]
theorem bits_low51 (n:Nat) {i j s:Nat} (hi:i=51*j+s) (hs:s≤51):n%2^i/2^(51*j)%2251799813685248=n/2^(51*j)%2^s:=by
  subst hi
  rw [Nat.pow_add,Nat.mod_mul_right_div_self]
  refine Nat.mod_eq_of_lt (Nat.lt_of_lt_of_le (Nat.mod_lt _ (Nat.pow_pos (by omega))) ?_)
  calc 2^s≤2^51:=Nat.pow_le_pow_right (by omega) hs
    _=2251799813685248:=rfl
theorem lim51_len (n:Nat):(lim51 n).length=5:=rfl
theorem lim51_at {n q:Nat} (hq:q<5):(lim51 n)[q]?=some (n/2^(51*q)%2251799813685248):=by
  rw [← lim51_get hq,List.getD_eq_getElem?_getD,List.getElem?_eq_getElem (show q<(lim51 n).length from hq)]
  rfl
theorem lim51_step (n:Nat) {i:Nat} (hi:i<255):(lim51 (n%2^i)).set (i/51) (n/2^(51*(i/51))%2^(i%51)+n/2^i%2*2^(i%51))=lim51 (n%2^(i+1)):=by
  refine List.ext_getElem? fun j=>?_
  by_cases hj:j<5
  · rw [lim51_at hj]
    by_cases he:i/51=j
    · subst he
      rw [List.getElem?_set_self (by rw [lim51_len];exact hj)]
      rw [bits_low51 n (i:=i+1) (s:=i%51+1) (by omega) (by omega),bit_split,Nat.div_div_eq_div_mul,← Nat.pow_add,show 51*(i/51)+i%51=i by omega]
    · rw [List.getElem?_set_ne he,lim51_at hj]
      congr 1
      by_cases hlt:j<i/51
      · have h1: ∀ i',51*j+51≤i'→n%2^i'/2^(51*j)%2251799813685248=n/2^(51*j)%2251799813685248:=fun i' h=>by
          obtain ⟨d,rfl⟩: ∃ d,i'=51*j+(51+d):=⟨i'-(51*j+51),by omega⟩
          rw [Nat.pow_add,Nat.mod_mul_right_div_self,Nat.pow_add,show (2:Nat)^51=2251799813685248 from rfl,Nat.mod_mul_right_mod]
        rw [h1 i (by omega),h1 (i+1) (by omega)]
      · have h1: ∀ i',i'≤51*j→n%2^i'/2^(51*j)%2251799813685248=0:=fun i' h=>by
          rw [Nat.div_eq_of_lt]
          exact Nat.lt_of_lt_of_le (Nat.mod_lt _ (Nat.pow_pos (by omega))) (Nat.pow_le_pow_right (by omega) h)
        rw [h1 i (by omega),h1 (i+1) (by omega)]
  · rw [List.getElem?_eq_none (by rw [List.length_set,lim51_len];omega),List.getElem?_eq_none (by rw [lim51_len];omega)]
theorem elF_lim {n:Nat} (h:n<2^255):elF (lim51 n)=toF n:=by rw [elF,elV_lim h]
theorem get_ok {b:List UInt8} (hb:b.length=32):(leB (elF (lim51 (leV b%2^255))).val==b)=decide (leV b<pP):=by
  have hlt:leV b%2^255<2^255:=Nat.mod_lt _ (Nat.pow_pos (by omega))
  have hv:leV b<2^256:=by
    have:=leV_lt b
    rw [hb] at this
    exact this
  have hp:pP<2^255:=by decide +kernel
  rw [elF_lim hlt,toF_val,Bool.eq_iff_iff,beq_iff_eq,decide_eq_true_eq]
  constructor
  · intro h
    have h2:leV b%2^255%pP=leV b:=by
      have:=leV_leB (n:=leV b%2^255%pP) (Nat.lt_trans (Nat.mod_lt _ (by decide +kernel)) (by decide +kernel))
      rw [h] at this
      exact this.symm
    rw [← h2]
    exact Nat.mod_lt _ (by decide +kernel)
  · intro h
    rw [Nat.mod_eq_of_lt (Nat.lt_trans h hp),Nat.mod_eq_of_lt h,leB_leV hb]
@[go_sem] theorem shr_var8 {a j:Nat}:(a:Int).fdiv (2^min j 8)=((a/2^min j 8:Nat):Int):=by
  have h:((2:Int)^min j 8)=((2^min j 8:Nat):Int):=by simp
  rw [h,Int.fdiv_eq_ediv_of_nonneg _ (Int.natCast_nonneg _)]
  rfl
@[go_sem] theorem shl_64 {a s:Nat}:IntKind.u64.wrap ((a:Int)*2^min s 64)=((a*2^min s 64%18446744073709551616:Nat):Int):=by
  rw [← wrap_nat]
  simp
theorem pow_le51 {s:Nat} (h:s≤51):2^s≤2251799813685248:=Nat.pow_le_pow_right (n:=2) (by omega) h
theorem lim51_zero:lim51 0=[0,0,0,0,0]:=rfl
def getL (b:List UInt8):List Nat:=if b.length=32∧leV b<pP then lim51 (leV b) else [0,0,0,0,0]
def getErr (b:List UInt8):Int:=if b.length<32 then 2 else if 32<b.length then 4 else if leV b<pP then 0 else 6
theorem getE_m {G:Nat→Option (List D)} (b:List UInt8):Spec Tryz.prog G 79 [.c (bytesD b)] (.many [.g ((getL b).map nD),.c (.v (.int .i64 (getErr b)))]):=by
  by_cases h1:b.length<32
  · have hb1:decide ((b.length:Int)<32)=true:=decide_eq_true (by omega)
    have hg:getL b=[0,0,0,0,0]:=if_neg (by omega)
    have he:getErr b=2:=if_pos h1
    rw [hg,he]
    refine spec_of Tryz.func79 rfl rfl rfl (by kernel_rfl) rfl fun K=>?_
    (repeat' (first|with_reducible (first|refine zA fun Kn hK=>?_|refine zB (by kernel_rfl) ?_|refine Nx.go ?_|go_step)|fail|with_reducible (first|refine zI ?_|refine zJ ?_|refine zK ?_ ?_|refine zL ?_ ?_|refine zR (by kernel_rfl) ?_)|simp (maxSteps:=9999999) (disch:=omega) only [wq]|(with_reducible refine zM (fun hb=>?_) (fun hb=>?_) <;> (try simp only [hb]))|(with_reducible refine And.intro (by first|omega|(simp;done)|(simp;omega)) ?_)|simp (maxSteps:=9999999) (implicitDefEqProofs:=false) only [go_sem,hb1,List.map_cons,List.map_nil]|fail))
    all_goals rfl
  by_cases h2:32<b.length
  · have hb1:decide ((b.length:Int)<32)=false:=decide_eq_false (by omega)
    have hb2:decide ((b.length:Int)>32)=true:=decide_eq_true (by omega)
    have hg:getL b=[0,0,0,0,0]:=if_neg (by omega)
    have he:getErr b=4:=by rw [getErr,if_neg h1,if_pos h2]
    rw [hg,he]
    refine spec_of Tryz.func79 rfl rfl rfl (by kernel_rfl) rfl fun K=>?_
    (repeat' (first|with_reducible (first|refine zA fun Kn hK=>?_|refine zB (by kernel_rfl) ?_|refine Nx.go ?_|go_step)|fail|with_reducible (first|refine zI ?_|refine zJ ?_|refine zK ?_ ?_|refine zL ?_ ?_|refine zR (by kernel_rfl) ?_)|simp (maxSteps:=9999999) (disch:=omega) only [wq]|(with_reducible refine zM (fun hb=>?_) (fun hb=>?_) <;> (try simp only [hb]))|(with_reducible refine And.intro (by first|omega|(simp;done)|(simp;omega)) ?_)|simp (maxSteps:=9999999) (implicitDefEqProofs:=false) only [go_sem,hb1,hb2,List.map_cons,List.map_nil]|fail))
    all_goals rfl
  have h3:b.length=32:=by omega
  have hb1:decide (((32:Nat):Int)<32)=false:=rfl
  have hb2:decide (((32:Nat):Int)>32)=false:=rfl
  have hok:=get_ok h3
  have he:getErr b=if leV b<pP then 0 else 6:=by rw [getErr,if_neg h1,if_neg h2]
  have hg:getL b=if leV b<pP then lim51 (leV b) else [0,0,0,0,0]:=by
    rw [getL]
    simp only [h3,true_and]
  have hbm:=bytesE_m (G:=G) (lim51 (leV b%2^255)) rfl (lim51_prop _).el.big
  rw [hg,he]
  generalize hV:leV b=V at *
  refine spec_of Tryz.func79 rfl rfl rfl (by kernel_rfl) rfl fun K=>?_
  (repeat' (first|with_reducible (first|refine zA fun Kn hK=>?_|refine zB (by kernel_rfl) ?_|refine Nx.go ?_|go_step)|fail|with_reducible (first|refine zI ?_|refine zJ ?_|refine zK ?_ ?_|refine zL ?_ ?_|refine zR (by kernel_rfl) ?_)|simp (maxSteps:=9999999) (disch:=omega) only [wq]|(with_reducible refine zM (fun hb=>?_) (fun hb=>?_) <;> (try simp only [hb]))|(with_reducible refine And.intro (by first|omega|(simp;done)|(simp;omega)) ?_)|simp (maxSteps:=9999999) (implicitDefEqProofs:=false) only [go_sem,hb1,hb2,h3]|fail))
  refine sound_loopR (fun x:{k:Nat // k≤255}=>⟨[(0,.a (.c (.d (bytesD b)))),(2,vP 2 0),(4,vP 4 0),(16,vI x.1)],
    [(2,some ⟨81,zeroOf Tryz.prog 81,true,false⟩),(4,some ⟨81,((lim51 (V%2^x.1)).map nD).map C.d,true,false⟩)]⟩) (fun x=>255-x.1) ⟨0,by omega⟩ [] (by (iterate 2 ((try simp (maxSteps:=9999999) (implicitDefEqProofs:=false) only [go_sem,h3]);(try simp (maxSteps:=9999999) (disch:=omega) only [wq])));simp [Nat.mod_one,lim51_zero,nD]) (fun ⟨i,hi⟩=>?_)
  by_cases hlt:i<255
  · have hb3:decide ((i:Int)<255)=true:=decide_eq_true (by omega)
    have hg1:=numsC_get (l:=lim51 (V%2^i)) (k:=i/51) (by rw [lim51_len];omega)
    have hold:(lim51 (V%2^i)).getD (i/51) 0=V/2^(51*(i/51))%2^(i%51):=by rw [lim51_get (by omega),bits_low51 V (i:=i) (s:=i%51) (by omega) (by omega)]
    rw [hold] at hg1
    obtain ⟨y,hy⟩: ∃ y,b[i/8]?=some y:=⟨_,List.getElem?_eq_getElem (by omega)⟩
    have hgb:(b.map bD)[i/8]?=some (D.v (.int .u8 (y.toNat:Int))):=by rw [List.getElem?_map,hy];rfl
    have hyb:=leV_bit hy
    rw [hV] at hyb
    have hm1:min (i%51) 64=i%51:=by omega
    have hm2:min (i%8) 8=i%8:=by omega
    have hyl:y.toNat<256:=y.toNat_lt
    have hbit:y.toNat/2^min (i%8) 8%256%2%18446744073709551616=V/2^i%2:=by
      rw [hm2,Nat.mod_mod_of_dvd (y.toNat/2^(i%8)) (show 2 ∣ 256 by decide),hyb]
      exact Nat.mod_eq_of_lt (Nat.lt_trans (Nat.mod_lt _ (by omega)) (by decide))
    have hlo:=Nat.mod_lt (V/2^(51*(i/51))) (Nat.pow_pos (n:=i%51) (show 0<2 by omega))
    have hp8:=pow_le51 (s:=i%51) (by omega)
    have hbm2:V/2^i%2*2^(i%51)≤2^(i%51):=by
      have:V/2^i%2=0∨V/2^i%2=1:=by omega
      rcases this with h|h <;> rw [h] <;> omega
    have h8:V/2^i%2*2^min (i%51) 64%18446744073709551616=V/2^i%2*2^(i%51):=by
      rw [hm1]
      exact Nat.mod_eq_of_lt (by omega)
    have hor:V/2^(51*(i/51))%2^(i%51)%18446744073709551616 ||| V/2^i%2*2^(i%51)%18446744073709551616=V/2^(51*(i/51))%2^(i%51)+V/2^i%2*2^(i%51):=by
      rw [Nat.mod_eq_of_lt (show _<18446744073709551616 by omega),Nat.mod_eq_of_lt (a:=V/2^i%2*2^(i%51)) (by omega),or_disj hlo]
    have hst:=lim51_step V hlt
    (repeat' (first|with_reducible (first|refine zA fun Kn hK=>?_|refine zB (by kernel_rfl) ?_|refine Nx.go ?_|go_step)|fail|with_reducible (first|refine zI ?_|refine zJ ?_|refine zK ?_ ?_|refine zL ?_ ?_|refine zR (by kernel_rfl) ?_)|simp (maxSteps:=9999999) (disch:=omega) only [wq]|(with_reducible refine zM (fun hb=>?_) (fun hb=>?_) <;> (try simp only [hb]))|(with_reducible refine And.intro (by first|omega|(simp;done)|(simp;omega)) ?_)|simp (maxSteps:=9999999) (implicitDefEqProofs:=false) only [go_sem,hb3,hg1,hgb,hbit,h8,hor,hst,wrap_nat,List.length_map,lim51_len,h3]|fail))
    refine ⟨[],⟨i+1,hlt⟩,?_⟩
    (iterate 2 ((try simp (maxSteps:=9999999) (implicitDefEqProofs:=false) only [go_sem,h3]);(try simp (maxSteps:=9999999) (disch:=omega) only [wq])))
    try (simp only [ijq,true_and,and_true];first|done|omega|(split <;> omega)|(simp;done)|(simp;omega))
  · have hb3:decide ((i:Int)<255)=false:=decide_eq_false (by omega)
    obtain rfl:i=255:=by omega
    have hk1:=keyL_bytes (P:=Tryz.prog) (t:=39) (e:=5) (n:=32) (l:=leB (elF (lim51 (V%2^255))).val) Tryz.underlying39 Tryz.underlying5 (by kernel_rfl) (by kernel_rfl) (leB_len _)
    have hk2:=keyL_bytes (P:=Tryz.prog) (t:=39) (e:=5) (n:=32) (l:=b) Tryz.underlying39 Tryz.underlying5 (by kernel_rfl) (by kernel_rfl) h3
    have hll:=lim51_len (V%2^255)
    have hbl:=leB_len (elF (lim51 (V%2^255))).val
    have hz: ∀ l:List UInt8,l.length=32→((l.map bD).map C.d).take 32=(l.map bD).map C.d∧(l.map bD).take 32=l.map bD:=fun l h=>⟨List.take_of_length_le (by rw [List.length_map,List.length_map];omega),List.take_of_length_le (by rw [List.length_map];omega)⟩
    have z1:=(hz _ hbl).1
    have z2:=(hz _ hbl).2
    have z3:=(hz _ h3).1
    have z4:=(hz _ h3).2
    generalize hB:leB (elF (lim51 (V%2^255))).val=B at *
    have hV2:V<pP→lim51 (V%2^255)=lim51 V:=fun h=>by rw [Nat.mod_eq_of_lt (Nat.lt_trans h (by decide +kernel))]
    generalize lim51 (V%2^255)=L at *
    have t0:=numsC_take hll;have u0:=nums_take hll;have d0:=numsC_drop hll
    by_cases hp:V<pP
    · rw [decide_eq_true hp] at hok
      have hh:(true=true)↔B.map litB=b.map litB:=⟨fun _=>litB_map.1 hok,fun _=>rfl⟩
      (repeat' (first|with_reducible (first|refine zA fun Kn hK=>?_|refine zB (by kernel_rfl) ?_|refine Nx.go ?_|go_step)|(refine ⟨_,hbm,?_⟩)|(refine run_agg_neq (by kernel_rfl) hk1 hk2 hh ?_)|with_reducible (first|refine zI ?_|refine zJ ?_|refine zK ?_ ?_|refine zL ?_ ?_|refine zR (by kernel_rfl) ?_)|simp (maxSteps:=9999999) (disch:=omega) only [wq]|(with_reducible refine zM (fun hb=>?_) (fun hb=>?_) <;> (try simp only [hb]))|(with_reducible refine And.intro (by first|omega|(simp;done)|(simp;omega)) ?_)|simp (maxSteps:=9999999) (implicitDefEqProofs:=false) only [go_sem,hb3,List.length_map,hll,hbl,h3,t0,d0,u0,z1,z2,z3,z4,List.append_nil]|fail))
      all_goals (rw [if_pos hp,if_pos hp,hV2 hp])
    · rw [decide_eq_false hp] at hok
      have hh:(false=true)↔B.map litB=b.map litB:=⟨fun h=>(by cases h),fun h=>(by rw [litB_map.2 h] at hok;cases hok)⟩
      (repeat' (first|with_reducible (first|refine zA fun Kn hK=>?_|refine zB (by kernel_rfl) ?_|refine Nx.go ?_|go_step)|(refine ⟨_,hbm,?_⟩)|(refine run_agg_neq (by kernel_rfl) hk1 hk2 hh ?_)|with_reducible (first|refine zI ?_|refine zJ ?_|refine zK ?_ ?_|refine zL ?_ ?_|refine zR (by kernel_rfl) ?_)|simp (maxSteps:=9999999) (disch:=omega) only [wq]|(with_reducible refine zM (fun hb=>?_) (fun hb=>?_) <;> (try simp only [hb]))|(with_reducible refine And.intro (by first|omega|(simp;done)|(simp;omega)) ?_)|simp (maxSteps:=9999999) (implicitDefEqProofs:=false) only [go_sem,hb3,List.length_map,hll,hbl,h3,t0,d0,u0,z1,z2,z3,z4,List.append_nil]|fail))
      all_goals (rw [if_neg hp,if_neg hp];rfl)
theorem finv_pow (a:F):fpow a (2^255-21)=finv a:=by
  have h:2^255-21=pP-2:=by decide +kernel
  rw [h]
  rfl
def invX (x:List Nat):List Nat:=pwL x 255 21 255
theorem invX_ok {x:List Nat} (hx:El x):El (invX x)∧elF (invX x)=finv (elF x):=by
  obtain ⟨h1,h2⟩:=powL_ok hx (n:=255) (l:=21) (by omega) (by omega) (by omega) 255 (by omega)
  refine ⟨h1,?_⟩
  rw [invX,h2,Nat.sub_self,Nat.pow_zero,Nat.div_one,finv_pow]
theorem invE_m {G:Nat→Option (List D)} (x:List Nat) (hx:El x):Spec Tryz.prog G 85 [.g (x.map nD)] (.one (.g ((invX x).map nD))):=by
  have hex:=hx.1
  have hp:Spec Tryz.prog G 117 [.g (x.map nD),.c (.v (.int .i64 255)),.c (.v (.int .u64 21))] (.one (.g ((invX x).map nD))):=powE_m x hx 255 21 (by omega) (by omega) (by omega) (by omega)
  have hpl:=(invX_ok hx).1.1
  generalize invX x=R at *
  have t0:=numsC_take hex;have u0:=nums_take hex;have d0:=numsC_drop hex
  have t1:=numsC_take hpl;have u1:=nums_take hpl;have d1:=numsC_drop hpl
  refine spec_of Tryz.func85 rfl rfl rfl (by kernel_rfl) rfl fun K=>?_
  (repeat' (first|with_reducible (first|refine zA fun Kn hK=>?_|refine zB (by kernel_rfl) ?_|refine Nx.go ?_|go_step)|(refine ⟨_,hp,?_⟩)|with_reducible (first|refine zI ?_|refine zJ ?_|refine zK ?_ ?_|refine zL ?_ ?_|refine zR (by kernel_rfl) ?_)|simp (maxSteps:=9999999) (disch:=omega) only [wq]|(with_reducible refine zM (fun hb=>?_) (fun hb=>?_) <;> (try simp only [hb]))|(with_reducible refine And.intro (by first|omega|(simp;done)|(simp;omega)) ?_)|simp (maxSteps:=9999999) (implicitDefEqProofs:=false) only [go_sem,List.length_map,hex,hpl,t0,d0,u0,t1,d1,u1,List.append_nil]|fail))
theorem F.lt256 (a:F):a.val<2^256:=Nat.lt_trans a.isLt (by decide +kernel)
theorem leF_eq {a b:F}:(leB a.val==leB b.val)=decide (a=b):=by
  rw [Bool.eq_iff_iff,beq_iff_eq,decide_eq_true_eq]
  exact ⟨fun h=>F.ext (leB_inj a.lt256 b.lt256 h),fun h=>by rw [h]⟩
theorem sameE_m {G:Nat→Option (List D)} (x y:List Nat) (hx:El x) (hy:El y):Spec Tryz.prog G 87 [.g (x.map nD),.g (y.map nD)] (.one (.c (.v (.bool (decide (elF x=elF y)))))):=by
  have hx1:=bytesE_m (G:=G) x hx.1 hx.big
  have hy1:=bytesE_m (G:=G) y hy.1 hy.big
  have hk1:=keyL_bytes (P:=Tryz.prog) (t:=39) (e:=5) (n:=32) (l:=leB (elF x).val) Tryz.underlying39 Tryz.underlying5 (by kernel_rfl) (by kernel_rfl) (leB_len _)
  have hk2:=keyL_bytes (P:=Tryz.prog) (t:=39) (e:=5) (n:=32) (l:=leB (elF y).val) Tryz.underlying39 Tryz.underlying5 (by kernel_rfl) (by kernel_rfl) (leB_len _)
  have hh:(decide (elF x=elF y)=true)↔(leB (elF x).val).map litB=(leB (elF y).val).map litB:=by
    rw [← leF_eq]
    exact litB_map
  have hlx:=hx.1
  have hly:=hy.1
  have l1:=leB_len (elF x).val
  have l2:=leB_len (elF y).val
  generalize decide (elF x=elF y)=b at *
  generalize leB (elF x).val=X at *
  generalize leB (elF y).val=Y at *
  have t0:=numsC_take hlx;have u0:=nums_take hlx;have d0:=numsC_drop hlx
  have t1:=numsC_take hly;have u1:=nums_take hly;have d1:=numsC_drop hly
  refine spec_of Tryz.func87 rfl rfl rfl (by kernel_rfl) rfl fun K=>?_
  (repeat' (first|with_reducible (first|refine zA fun Kn hK=>?_|refine zB (by kernel_rfl) ?_|refine Nx.go ?_|go_step)|(refine ⟨_,hx1,?_⟩)|(refine ⟨_,hy1,?_⟩)|(refine run_agg_eql (by kernel_rfl) hk1 hk2 hh ?_)|with_reducible (first|refine zI ?_|refine zJ ?_|refine zK ?_ ?_|refine zL ?_ ?_|refine zR (by kernel_rfl) ?_)|simp (maxSteps:=9999999) (disch:=omega) only [wq]|(with_reducible refine zM (fun hb=>?_) (fun hb=>?_) <;> (try simp only [hb]))|(with_reducible refine And.intro (by first|omega|(simp;done)|(simp;omega)) ?_)|simp (maxSteps:=9999999) (implicitDefEqProofs:=false) only [go_sem,List.length_map,hlx,hly,l1,l2,t0,u0,t1,u1]|fail))
def oddF (a:F):Bool:=decide (a.val%2=1)
theorem oddE_m {G:Nat→Option (List D)} (x:List Nat) (hx:El x):Spec Tryz.prog G 95 [.g (x.map nD)] (.one (.c (.v (.bool (oddF (elF x)))))):=by
  have hx1:=bytesE_m (G:=G) x hx.1 hx.big
  have hlx:=hx.1
  have l1:=leB_len (elF x).val
  have hg:(((leB (elF x).val).map bD).map C.d)[0]?=some (C.d (D.v (.int .u8 ((elF x).val%256:Nat)))):=by
    rw [List.getElem?_map,List.getElem?_map,leB_get (by omega)]
    simp only [Option.map_some,bD]
    rw [UInt8.toNat_ofNat_of_lt' (by simp only [UInt8.size];omega)]
    simp
  have ho:oddF (elF x)=decide ((elF x).val%2=1):=rfl
  generalize leB (elF x).val=X at *
  have t0:=numsC_take hlx;have u0:=nums_take hlx;have d0:=numsC_drop hlx
  have hm:(elF x).val%256%256%2=(elF x).val%2:=by omega
  have hc:((((elF x).val%2:Nat):Int)==1)=oddF (elF x):=by
    rw [ho,Bool.eq_iff_iff,beq_iff_eq,decide_eq_true_eq]
    omega
  refine spec_of Tryz.func95 rfl rfl rfl (by kernel_rfl) rfl fun K=>?_
  (repeat' (first|with_reducible (first|refine zA fun Kn hK=>?_|refine zB (by kernel_rfl) ?_|refine Nx.go ?_|go_step)|(refine ⟨_,hx1,?_⟩)|with_reducible (first|refine zI ?_|refine zJ ?_|refine zK ?_ ?_|refine zL ?_ ?_|refine zR (by kernel_rfl) ?_)|simp (maxSteps:=9999999) (disch:=omega) only [wq]|(with_reducible refine zM (fun hb=>?_) (fun hb=>?_) <;> (try simp only [hb]))|(with_reducible refine And.intro (by first|omega|(simp;done)|(simp;omega)) ?_)|simp (maxSteps:=9999999) (implicitDefEqProofs:=false) only [go_sem,List.length_map,hlx,l1,t0,u0,hg,hm,hc]|fail))
def rootA (u:F):F:=fpow u (2^252-2)
def rootB (u:F):F:=rootA u*fpow (toF 2) (2^253-5)
def rootC (u:F):F:=if rootA u*rootA u=u then rootA u else rootB u
def rootOk (u:F):Bool:=decide (rootC u*rootC u=u)
def rootF (u:F):F:=if rootOk u then (if oddF (rootC u) then 0-rootC u else rootC u) else 0
theorem zeroE:El [0,0,0,0,0]∧elF [0,0,0,0,0]=0:=⟨⟨rfl,by simp⟩,by decide +kernel⟩
def rA (x:List Nat):List Nat:=pwL x 252 2 252
def rB (x:List Nat):List Nat:=mulX (rA x) (pwL [2,0,0,0,0] 253 5 253)
def rC (x:List Nat):List Nat:=if elF (mulX (rA x) (rA x))=elF x then rA x else rB x
def rD (x:List Nat):List Nat:=if rootOk (elF x) then (if oddF (elF (rC x)) then subX [0,0,0,0,0] (rC x) else rC x) else [0,0,0,0,0]
theorem two_el:El [2,0,0,0,0]∧elF [2,0,0,0,0]=toF 2:=⟨⟨rfl,by simp⟩,by decide +kernel⟩
theorem rA_ok {x:List Nat} (hx:El x):El (rA x)∧elF (rA x)=rootA (elF x):=by
  obtain ⟨h1,h2⟩:=powL_ok hx (n:=252) (l:=2) (by omega) (by omega) (by omega) 252 (by omega)
  refine ⟨h1,?_⟩
  rw [rA,h2,Nat.sub_self,Nat.pow_zero,Nat.div_one]
  rfl
theorem rT_ok:El (pwL [2,0,0,0,0] 253 5 253)∧elF (pwL [2,0,0,0,0] 253 5 253)=fpow (toF 2) (2^253-5):=by
  obtain ⟨h1,h2⟩:=powL_ok two_el.1 (n:=253) (l:=5) (by omega) (by omega) (by omega) 253 (by omega)
  refine ⟨h1,?_⟩
  rw [h2,Nat.sub_self,Nat.pow_zero,Nat.div_one,two_el.2]
theorem rB_ok {x:List Nat} (hx:El x):El (rB x)∧elF (rB x)=rootB (elF x):=by
  obtain ⟨h1,h2⟩:=mulE_ok (rA_ok hx).1 rT_ok.1
  refine ⟨h1,?_⟩
  rw [rB,h2,(rA_ok hx).2,rT_ok.2]
  rfl
theorem rC_ok {x:List Nat} (hx:El x):El (rC x)∧elF (rC x)=rootC (elF x):=by
  have h:=(mulE_ok (rA_ok hx).1 (rA_ok hx).1).2
  rw [(rA_ok hx).2] at h
  unfold rC rootC
  rw [h]
  split
  · exact rA_ok hx
  · exact rB_ok hx
theorem rD_ok {x:List Nat} (hx:El x):El (rD x)∧elF (rD x)=rootF (elF x):=by
  unfold rD rootF
  rw [(rC_ok hx).2]
  split
  · split
    · have h:=subE_m (G:=fun _=>none) [0,0,0,0,0] (rC x) zeroE.1 (rC_ok hx).1
      exact ⟨h.1,by rw [h.2.1,zeroE.2,(rC_ok hx).2]⟩
    · exact rC_ok hx
  · exact zeroE
section
variable {G:Nat→Option (List D)} {x RA PA T RB PC S:List Nat} {sa ok od:Bool} (lx:x.length=5) (lA:RA.length=5) (lmA:PA.length=5) (lT:T.length=5) (lB:RB.length=5) (lmC:PC.length=5) (lS:S.length=5)
  (hp1:Spec Tryz.prog G 117 [.g (x.map nD),.c (.v (.int .i64 252)),.c (.v (.int .u64 2))] (.one (.g (RA.map nD))))
  (hmA:Spec Tryz.prog G 81 [.g (RA.map nD),.g (RA.map nD)] (.one (.g (PA.map nD))))
  (hsA:Spec Tryz.prog G 87 [.g (PA.map nD),.g (x.map nD)] (.one (.c (.v (.bool sa)))))
include lx lA lmA lS hp1 hmA hsA
theorem root_w1 (hs:sa=true) (hod:Spec Tryz.prog G 95 [.g (RA.map nD)] (.one (.c (.v (.bool od)))))
    (hsub:Spec Tryz.prog G 82 [.g [nD 0,nD 0,nD 0,nD 0,nD 0],.g (RA.map nD)] (.one (.g (S.map nD)))) :
    Spec Tryz.prog G 86 [.g (x.map nD)] (.many [.g ((if od then S else RA).map nD),.c (.v (.bool true))]):=by
  subst hs
  have t0:=numsC_take lx;have u0:=nums_take lx;have d0:=numsC_drop lx
  have t1:=numsC_take lA;have u1:=nums_take lA;have d1:=numsC_drop lA
  have t2:=numsC_take lS;have u2:=nums_take lS;have d2:=numsC_drop lS
  have t3:=numsC_take lmA;have u3:=nums_take lmA;have d3:=numsC_drop lmA
  cases od <;> simp only [if_true,Bool.false_eq_true,if_false]
  all_goals
    refine spec_of Tryz.func86 rfl rfl rfl (by kernel_rfl) rfl fun K=>?_
    (repeat' (first|with_reducible (first|refine zA fun Kn hK=>?_|refine zB (by kernel_rfl) ?_|refine Nx.go ?_|go_step)|(refine ⟨_,hp1,?_⟩)|(refine ⟨_,hmA,?_⟩)|(refine ⟨_,hsA,?_⟩)|(refine ⟨_,hod,?_⟩)|(refine ⟨_,hsub,?_⟩)|with_reducible (first|refine zI ?_|refine zJ ?_|refine zK ?_ ?_|refine zL ?_ ?_|refine zR (by kernel_rfl) ?_)|simp (maxSteps:=9999999) (disch:=omega) only [wq]|(with_reducible refine zM (fun hb=>?_) (fun hb=>?_) <;> (try simp only [hb]))|(with_reducible refine And.intro (by first|omega|(simp;done)|(simp;omega)) ?_)|simp (maxSteps:=9999999) (implicitDefEqProofs:=false) only [go_sem,List.length_map,lx,lA,lS,lmA,t0,d0,u0,t1,d1,u1,t2,d2,u2,t3,d3,u3,List.append_nil]|fail))
include lT lB lmC
theorem root_w2 (hs:sa=false) (hof:Spec Tryz.prog G 80 [.c (.v (.int .u64 2))] (.one (.g [nD 2,nD 0,nD 0,nD 0,nD 0])))
    (hp2:Spec Tryz.prog G 117 [.g [nD 2,nD 0,nD 0,nD 0,nD 0],.c (.v (.int .i64 253)),.c (.v (.int .u64 5))] (.one (.g (T.map nD))))
    (hmT:Spec Tryz.prog G 81 [.g (RA.map nD),.g (T.map nD)] (.one (.g (RB.map nD))))
    (hmC:Spec Tryz.prog G 81 [.g (RB.map nD),.g (RB.map nD)] (.one (.g (PC.map nD))))
    (hsC:Spec Tryz.prog G 87 [.g (PC.map nD),.g (x.map nD)] (.one (.c (.v (.bool ok)))))
    (hod:Spec Tryz.prog G 95 [.g (RB.map nD)] (.one (.c (.v (.bool od)))))
    (hsub:Spec Tryz.prog G 82 [.g [nD 0,nD 0,nD 0,nD 0,nD 0],.g (RB.map nD)] (.one (.g (S.map nD)))) :
    Spec Tryz.prog G 86 [.g (x.map nD)] (.many [.g ((if ok then (if od then S else RB) else [0,0,0,0,0]).map nD),.c (.v (.bool ok))]):=by
  subst hs
  have t0:=numsC_take lx;have u0:=nums_take lx;have d0:=numsC_drop lx
  have t1:=numsC_take lA;have u1:=nums_take lA;have d1:=numsC_drop lA
  have t2:=numsC_take lS;have u2:=nums_take lS;have d2:=numsC_drop lS
  have t3:=numsC_take lmA;have u3:=nums_take lmA;have d3:=numsC_drop lmA
  have t4:=numsC_take lB;have u4:=nums_take lB;have d4:=numsC_drop lB
  have t5:=numsC_take lT;have u5:=nums_take lT;have d5:=numsC_drop lT
  have t6:=numsC_take lmC;have u6:=nums_take lmC;have d6:=numsC_drop lmC
  cases ok <;> cases od <;> simp only [if_true,Bool.false_eq_true,if_false]
  all_goals
    refine spec_of Tryz.func86 rfl rfl rfl (by kernel_rfl) rfl fun K=>?_
    (repeat' (first|with_reducible (first|refine zA fun Kn hK=>?_|refine zB (by kernel_rfl) ?_|refine Nx.go ?_|go_step)|(refine ⟨_,hp1,?_⟩)|(refine ⟨_,hmA,?_⟩)|(refine ⟨_,hsA,?_⟩)|(refine ⟨_,hof,?_⟩)|(refine ⟨_,hp2,?_⟩)|(refine ⟨_,hmT,?_⟩)|(refine ⟨_,hmC,?_⟩)|(refine ⟨_,hsC,?_⟩)|(refine ⟨_,hod,?_⟩)|(refine ⟨_,hsub,?_⟩)|with_reducible (first|refine zI ?_|refine zJ ?_|refine zK ?_ ?_|refine zL ?_ ?_|refine zR (by kernel_rfl) ?_)|simp (maxSteps:=9999999) (disch:=omega) only [wq]|(with_reducible refine zM (fun hb=>?_) (fun hb=>?_) <;> (try simp only [hb]))|(with_reducible refine And.intro (by first|omega|(simp;done)|(simp;omega)) ?_)|simp (maxSteps:=9999999) (implicitDefEqProofs:=false) only [go_sem,List.length_map,lx,lA,lS,lmA,lB,lT,lmC,t0,d0,u0,t1,d1,u1,t2,d2,u2,t3,d3,u3,t4,d4,u4,t5,d5,u5,t6,d6,u6,List.append_nil,List.map_cons,List.map_nil]|fail))
  all_goals rfl
end
theorem rootE_m {G:Nat→Option (List D)} (x:List Nat) (hx:El x):Spec Tryz.prog G 86 [.g (x.map nD)] (.many [.g ((rD x).map nD),.c (.v (.bool (rootOk (elF x))))]):=by
  have hA:=rA_ok hx
  have hB:=rB_ok hx
  have hC:=rC_ok hx
  have hT:=rT_ok.1
  have hmA:=mulE_m (G:=G) (rA x) (rA x) hA.1 hA.1
  have hsA:=sameE_m (G:=G) (mulX (rA x) (rA x)) x hmA.1 hx
  have hod:=oddE_m (G:=G) (rC x) hC.1
  have hsub:=subE_m (G:=G) [0,0,0,0,0] (rC x) zeroE.1 hC.1
  have hp1:=powE_m (G:=G) x hx 252 2 (by omega) (by omega) (by omega) (by omega)
  by_cases hq:elF (mulX (rA x) (rA x))=elF x
  · have hrC:rC x=rA x:=if_pos hq
    have hok:rootOk (elF x)=true:=by
      have h:=hq
      rw [(mulE_ok hA.1 hA.1).2,hA.2] at h
      unfold rootOk rootC
      rw [if_pos h]
      exact decide_eq_true h
    have hrD:rD x=if oddF (elF (rA x)) then subX [0,0,0,0,0] (rA x) else rA x:=by
      unfold rD
      rw [if_pos hok,hrC]
    rw [hrC] at hod hsub
    rw [hok,hrD]
    exact root_w1 hx.1 hA.1.1 hmA.1.1 hsub.1.1 hp1 hmA.2.2 hsA (decide_eq_true hq) hod hsub.2.2
  · have hrC:rC x=rB x:=if_neg hq
    have hmT:=mulE_m (G:=G) (rA x) (pwL [2,0,0,0,0] 253 5 253) hA.1 hT
    have hmC:=mulE_m (G:=G) (rB x) (rB x) hB.1 hB.1
    have hsC:=sameE_m (G:=G) (mulX (rB x) (rB x)) x hmC.1 hx
    have hp2:=powE_m (G:=G) [2,0,0,0,0] two_el.1 253 5 (by omega) (by omega) (by omega) (by omega)
    have hof:=(of5_m (G:=G) 2 (by omega)).2.2
    have hok:rootOk (elF x)=decide (elF (mulX (rB x) (rB x))=elF x):=by
      have h:rootA (elF x)*rootA (elF x)≠elF x:=by
        rw [(mulE_ok hA.1 hA.1).2,hA.2] at hq
        exact hq
      rw [hmC.2.1,hB.2]
      unfold rootOk rootC
      rw [if_neg h]
    have hrD:rD x=if rootOk (elF x) then (if oddF (elF (rB x)) then subX [0,0,0,0,0] (rB x) else rB x) else [0,0,0,0,0]:=by
      unfold rD
      rw [hrC]
    rw [hrC] at hod hsub
    rw [hrD,hok]
    exact root_w2 hx.1 hA.1.1 hmA.1.1 hT.1 hB.1.1 hmC.1.1 hsub.1.1 hp1 hmA.2.2 hsA (decide_eq_false hq) hof hp2 hmT.2.2 hmC.2.2 hsC hod hsub.2.2
end Go.Proofs.YtdakeodebgggfaaGreatDoor
namespace Go.Proofs.YtdakeodebgggfaaGreatDoor
open Go.RowKit
section
variable {α:Type} {A B:List α}
theorem tk5 (h:A.length=5):(A++B).take 5=A:=List.take_left' h
theorem dp5 (h:A.length=5):(A++B).drop 5=B:=List.drop_left' h
theorem tk10 (h:A.length=5):(A++B).take 10=A++B.take 5:=by rw [List.take_append,h,List.take_of_length_le (by omega)]
theorem tk15 (h:A.length=5):(A++B).take 15=A++B.take 10:=by rw [List.take_append,h,List.take_of_length_le (by omega)]
theorem tk20 (h:A.length=5):(A++B).take 20=A++B.take 15:=by rw [List.take_append,h,List.take_of_length_le (by omega)]
theorem dp10 (h:A.length=5):(A++B).drop 10=B.drop 5:=by rw [List.drop_append,h,List.drop_of_length_le (by omega)];rfl
theorem dp15 (h:A.length=5):(A++B).drop 15=B.drop 10:=by rw [List.drop_append,h,List.drop_of_length_le (by omega)];rfl
theorem dp20 (h:A.length=5):(A++B).drop 20=B.drop 15:=by rw [List.drop_append,h,List.drop_of_length_le (by omega)];rfl
end
@[go_sem] def ptD (x y z t:List Nat):List D:=x.map nD++(y.map nD++(z.map nD++t.map nD))
@[go_sem] def zE:List D:=[nD 0,nD 0,nD 0,nD 0,nD 0]
theorem rep20 {α:Type} {x:α}:List.replicate 20 x=[x,x,x,x,x]++([x,x,x,x,x]++([x,x,x,x,x]++[x,x,x,x,x])):=rfl
def cD:List Nat:=mulX (subX [0,0,0,0,0] [121665,0,0,0,0]) (invX [121666,0,0,0,0])
theorem k1_el:El [121665,0,0,0,0]∧elF [121665,0,0,0,0]=toF 121665:=⟨⟨rfl,by simp⟩,by decide +kernel⟩
theorem k2_el:El [121666,0,0,0,0]∧elF [121666,0,0,0,0]=toF 121666:=⟨⟨rfl,by simp⟩,by decide +kernel⟩
theorem g_assoc3 {a b c:F}:a*b*c=a*(b*c):=by grind
theorem g_one3 {a:F}:a*1=a:=by grind
theorem dF_is:(0-toF 121665)*finv (toF 121666)=dF:=by
  have h:toF 121666*dF=0-toF 121665:=by decide +kernel
  have hn:toF 121666≠0:=by decide +kernel
  rw [← h]
  exact (by have h:=mul_inv hn;rw [g_rot (a:=toF 121666) (b:=dF),g_assoc3,h,g_one3])
theorem cD_ok:El cD∧elF cD=dF:=by
  have h1:=subE_m (G:=fun _=>none) [0,0,0,0,0] [121665,0,0,0,0] zeroE.1 k1_el.1
  have h2:=invX_ok k2_el.1
  have h3:=mulE_ok h1.1 h2.1
  refine ⟨h3.1,?_⟩
  rw [cD,h3.2,h1.2.1,h2.2,zeroE.2,k1_el.2,k2_el.2,dF_is]
section
variable {G:Nat→Option (List D)}
theorem curve_w {a b c:List Nat} (la:a.length=5) (lb:b.length=5) (lc:c.length=5)
    (h1:Spec Tryz.prog G 80 [.c (.v (.int .u64 121665))] (.one (.g [nD 121665,nD 0,nD 0,nD 0,nD 0])))
    (h2:Spec Tryz.prog G 82 [.g zE,.g [nD 121665,nD 0,nD 0,nD 0,nD 0]] (.one (.g (a.map nD))))
    (h3:Spec Tryz.prog G 80 [.c (.v (.int .u64 121666))] (.one (.g [nD 121666,nD 0,nD 0,nD 0,nD 0])))
    (h4:Spec Tryz.prog G 85 [.g [nD 121666,nD 0,nD 0,nD 0,nD 0]] (.one (.g (b.map nD))))
    (h5:Spec Tryz.prog G 81 [.g (a.map nD),.g (b.map nD)] (.one (.g (c.map nD)))) :
    Spec Tryz.prog G 83 [] (.one (.g (c.map nD))):=by
  have t0:=numsC_take la;have u0:=nums_take la;have d0:=numsC_drop la
  have t1:=numsC_take lb;have u1:=nums_take lb;have d1:=numsC_drop lb
  have t2:=numsC_take lc;have u2:=nums_take lc;have d2:=numsC_drop lc
  refine spec_of Tryz.func83 rfl rfl rfl (by kernel_rfl) rfl fun K=>?_
  (repeat' (first|with_reducible (first|refine zA fun Kn hK=>?_|refine zB (by kernel_rfl) ?_|refine Nx.go ?_|go_step)|(refine ⟨_,h1,?_⟩)|(refine ⟨_,h2,?_⟩)|(refine ⟨_,h3,?_⟩)|(refine ⟨_,h4,?_⟩)|(refine ⟨_,h5,?_⟩)|with_reducible (first|refine zI ?_|refine zJ ?_|refine zK ?_ ?_|refine zL ?_ ?_|refine zR (by kernel_rfl) ?_)|simp (maxSteps:=9999999) (disch:=omega) only [wq]|(with_reducible refine zM (fun hb=>?_) (fun hb=>?_) <;> (try simp only [hb]))|(with_reducible refine And.intro (by first|omega|(simp;done)|(simp;omega)) ?_)|simp (maxSteps:=9999999) (implicitDefEqProofs:=false) only [go_sem,List.length_map,la,lb,lc,t0,d0,u0,t1,d1,u1,t2,d2,u2,List.append_nil]|fail))
theorem curve_m:Spec Tryz.prog G 83 [] (.one (.g (cD.map nD))):=by
  have h1:=subE_m (G:=G) [0,0,0,0,0] [121665,0,0,0,0] zeroE.1 k1_el.1
  have h2:=invX_ok k2_el.1
  have h3:=mulE_m (G:=G) _ _ h1.1 h2.1
  exact curve_w h1.1.1 h2.1.1 cD_ok.1.1 (of5_m 121665 (by omega)).2.2 h1.2.2 (of5_m 121666 (by omega)).2.2 (invE_m _ k2_el.1) h3.2.2
theorem one_el:El [1,0,0,0,0]∧elF [1,0,0,0,0]=1:=⟨⟨rfl,by simp⟩,elF_one⟩
theorem zeroP_m:Spec Tryz.prog G 91 [] (.one (.g (ptD [0,0,0,0,0] [1,0,0,0,0] [1,0,0,0,0] [0,0,0,0,0]))):=by
  have h1:Spec Tryz.prog G 80 [.c (.v (.int .u64 1))] (.one (.g [nD 1,nD 0,nD 0,nD 0,nD 0])):=(of5_m 1 (by omega)).2.2
  refine spec_of Tryz.func91 rfl rfl rfl (by kernel_rfl) rfl fun K=>?_
  (repeat' (first|with_reducible (first|refine zA fun Kn hK=>?_|refine zB (by kernel_rfl) ?_|refine Nx.go ?_|go_step)|(refine ⟨_,h1,?_⟩)|with_reducible (first|refine zI ?_|refine zJ ?_|refine zK ?_ ?_|refine zL ?_ ?_|refine zR (by kernel_rfl) ?_)|simp (maxSteps:=9999999) (disch:=omega) only [wq]|(with_reducible refine zM (fun hb=>?_) (fun hb=>?_) <;> (try simp only [hb]))|(with_reducible refine And.intro (by first|omega|(simp;done)|(simp;omega)) ?_)|simp (maxSteps:=9999999) (implicitDefEqProofs:=false) only [go_sem,rep20,List.cons_append,List.nil_append,List.append_assoc]|fail))
  all_goals rfl
def dD:List Nat:=addX cD cD
theorem dD_ok:El dD∧elF dD=dF+dF:=by
  have h:=addE_m (G:=fun _=>none) cD cD cD_ok.1 cD_ok.1
  exact ⟨h.1,by rw [dD,h.2.1,cD_ok.2]⟩
theorem of_w {a b:List Nat} (la:a.length=5) (lb:b.length=5) (h1:Spec Tryz.prog G 83 [] (.one (.g (a.map nD)))) (h2:Spec Tryz.prog G 84 [.g (a.map nD),.g (a.map nD)] (.one (.g (b.map nD)))) :
    Spec Tryz.prog G 90 [] (.one (.g (b.map nD))):=by
  have t0:=numsC_take la;have u0:=nums_take la;have d0:=numsC_drop la
  have t1:=numsC_take lb;have u1:=nums_take lb;have d1:=numsC_drop lb
  refine spec_of Tryz.func90 rfl rfl rfl (by kernel_rfl) rfl fun K=>?_
  (repeat' (first|with_reducible (first|refine zA fun Kn hK=>?_|refine zB (by kernel_rfl) ?_|refine Nx.go ?_|go_step)|(refine ⟨_,h1,?_⟩)|(refine ⟨_,h2,?_⟩)|with_reducible (first|refine zI ?_|refine zJ ?_|refine zK ?_ ?_|refine zL ?_ ?_|refine zR (by kernel_rfl) ?_)|simp (maxSteps:=9999999) (disch:=omega) only [wq]|(with_reducible refine zM (fun hb=>?_) (fun hb=>?_) <;> (try simp only [hb]))|(with_reducible refine And.intro (by first|omega|(simp;done)|(simp;omega)) ?_)|simp (maxSteps:=9999999) (implicitDefEqProofs:=false) only [go_sem,List.length_map,la,lb,t0,d0,u0,t1,d1,u1,List.append_nil]|fail))
theorem ofP_m:Spec Tryz.prog G 90 [] (.one (.g (dD.map nD))):=of_w cD_ok.1.1 dD_ok.1.1 curve_m (addE_m cD cD cD_ok.1 cD_ok.1).2.2
end
end Go.Proofs.YtdakeodebgggfaaGreatDoor
namespace Go.Proofs.YtdakeodebgggfaaGreatDoor
open Go.RowKit
section
variable {G:Nat→Option (List D)}
theorem padd_w {px py pz pt qx qy qz qt w s1 s2 m a1 a2 n u c zz d e f g h rx ry rz rt:List Nat} (l1:px.length=5) (l2:py.length=5) (l3:pz.length=5) (l4:pt.length=5) (l5:qx.length=5) (l6:qy.length=5) (l7:qz.length=5) (l8:qt.length=5) (l9:w.length=5)
    (lm:m.length=5) (ln:n.length=5) (lc:c.length=5) (ld:d.length=5) (le:e.length=5) (lf:f.length=5) (lg:g.length=5) (lh:h.length=5) (lrx:rx.length=5) (lry:ry.length=5) (lrz:rz.length=5) (lrt:rt.length=5)
    (c1:Spec Tryz.prog G 82 [.g (py.map nD),.g (px.map nD)] (.one (.g (s1.map nD))))
    (c2:Spec Tryz.prog G 82 [.g (qy.map nD),.g (qx.map nD)] (.one (.g (s2.map nD))))
    (c3:Spec Tryz.prog G 81 [.g (s1.map nD),.g (s2.map nD)] (.one (.g (m.map nD))))
    (c4:Spec Tryz.prog G 84 [.g (py.map nD),.g (px.map nD)] (.one (.g (a1.map nD))))
    (c5:Spec Tryz.prog G 84 [.g (qy.map nD),.g (qx.map nD)] (.one (.g (a2.map nD))))
    (c6:Spec Tryz.prog G 81 [.g (a1.map nD),.g (a2.map nD)] (.one (.g (n.map nD))))
    (c7:Spec Tryz.prog G 81 [.g (pt.map nD),.g (w.map nD)] (.one (.g (u.map nD))))
    (c8:Spec Tryz.prog G 81 [.g (u.map nD),.g (qt.map nD)] (.one (.g (c.map nD))))
    (c9:Spec Tryz.prog G 84 [.g (pz.map nD),.g (pz.map nD)] (.one (.g (zz.map nD))))
    (c10:Spec Tryz.prog G 81 [.g (zz.map nD),.g (qz.map nD)] (.one (.g (d.map nD))))
    (c11:Spec Tryz.prog G 82 [.g (n.map nD),.g (m.map nD)] (.one (.g (e.map nD))))
    (c12:Spec Tryz.prog G 82 [.g (d.map nD),.g (c.map nD)] (.one (.g (f.map nD))))
    (c13:Spec Tryz.prog G 84 [.g (d.map nD),.g (c.map nD)] (.one (.g (g.map nD))))
    (c14:Spec Tryz.prog G 84 [.g (n.map nD),.g (m.map nD)] (.one (.g (h.map nD))))
    (c15:Spec Tryz.prog G 81 [.g (e.map nD),.g (f.map nD)] (.one (.g (rx.map nD))))
    (c16:Spec Tryz.prog G 81 [.g (g.map nD),.g (h.map nD)] (.one (.g (ry.map nD))))
    (c17:Spec Tryz.prog G 81 [.g (f.map nD),.g (g.map nD)] (.one (.g (rz.map nD))))
    (c18:Spec Tryz.prog G 81 [.g (e.map nD),.g (h.map nD)] (.one (.g (rt.map nD)))) :
    Spec Tryz.prog G 92 [.g (w.map nD),.g (ptD px py pz pt),.g (ptD qx qy qz qt)] (.one (.g (ptD rx ry rz rt))):=by
  have t1:=numsC_take l1
  have t2:=numsC_take l2
  have t3:=numsC_take l3
  have t4:=numsC_take l4
  have t5:=numsC_take l5
  have t6:=numsC_take l6
  have t7:=numsC_take l7
  have t8:=numsC_take l8
  have t9:=numsC_take l9
  have tm:=numsC_take lm
  have tn:=numsC_take ln
  have tc:=numsC_take lc
  have td:=numsC_take ld
  have te:=numsC_take le
  have tf:=numsC_take lf
  have tg:=numsC_take lg
  have th:=numsC_take lh
  have trx:=numsC_take lrx
  have try':=numsC_take lry
  have trz:=numsC_take lrz
  have trt:=numsC_take lrt
  have dt:=numsC_drop lrt
  have ut:=nums_take lrt
  have ux:=nums_take lrx
  have uy:=nums_take lry
  have uz:=nums_take lrz
  refine spec_of Tryz.func92 rfl rfl rfl (by kernel_rfl) rfl fun K=>?_
  (repeat' (first|with_reducible (first|refine zA fun Kn hK=>?_|refine zB (by kernel_rfl) ?_|refine Nx.go ?_|go_step)|(refine ⟨_,c1,?_⟩)|(refine ⟨_,c2,?_⟩)|(refine ⟨_,c3,?_⟩)|(refine ⟨_,c4,?_⟩)|(refine ⟨_,c5,?_⟩)|(refine ⟨_,c6,?_⟩)|(refine ⟨_,c7,?_⟩)|(refine ⟨_,c8,?_⟩)|(refine ⟨_,c9,?_⟩)|(refine ⟨_,c10,?_⟩)|(refine ⟨_,c11,?_⟩)|(refine ⟨_,c12,?_⟩)|(refine ⟨_,c13,?_⟩)|(refine ⟨_,c14,?_⟩)|(refine ⟨_,c15,?_⟩)|(refine ⟨_,c16,?_⟩)|(refine ⟨_,c17,?_⟩)|(refine ⟨_,c18,?_⟩)|with_reducible (first|refine zI ?_|refine zJ ?_|refine zK ?_ ?_|refine zL ?_ ?_|refine zR (by kernel_rfl) ?_)|simp (maxSteps:=9999999) (disch:=omega) only [wq]|(with_reducible refine zM (fun hb=>?_) (fun hb=>?_) <;> (try simp only [hb]))|(with_reducible refine And.intro (by first|omega|(simp;done)|(simp;omega)) ?_)|simp (maxSteps:=9999999) (implicitDefEqProofs:=false) only [go_sem,List.map_append,List.length_append,List.length_map,Nat.reduceAdd,List.append_assoc,tk5,dp5,tk10,tk15,tk20,dp10,dp15,dp20,rep20,l1,l2,l3,l4,l5,l6,l7,l8,l9,lm,ln,lc,ld,le,lf,lg,lh,lrx,lry,lrz,lrt,t1,t2,t3,t4,t5,t6,t7,t8,t9,tm,tn,tc,td,te,tf,tg,th,trx,try',trz,trt,dt,ut,ux,uy,uz,List.append_nil]|fail))
end
end Go.Proofs.YtdakeodebgggfaaGreatDoor
namespace Go.Proofs.YtdakeodebgggfaaGreatDoor
def nmul:Nat→F × F→F × F
  | 0,_=>pO
  | n+1,P=>pAdd (nmul n P) P
theorem nmul_on {P:F × F} (h:OnP P): ∀ n,OnP (nmul n P)
  | 0=>pO_on
  | n+1=>pAdd_on (nmul_on h n) h
theorem nmul_add {P:F × F} (h:OnP P) (m:Nat): ∀ n,nmul (m+n) P=pAdd (nmul m P) (nmul n P)
  | 0=>by rw [Nat.add_zero,nmul,pAdd_O]
  | n+1=>by
    rw [← Nat.add_assoc,nmul,nmul_add h m n,nmul,pAdd_assoc (nmul_on h m) (nmul_on h n) h]
theorem nmul_two {P:F × F} (h:OnP P) (n:Nat):nmul (2*n) P=pAdd (nmul n P) (nmul n P):=by rw [Nat.two_mul,nmul_add h]
theorem nmul_one (P:F × F):nmul 1 P=P:=by rw [nmul,nmul,pO_add]
theorem nmul_mul {P:F × F} (h:OnP P) (m:Nat): ∀ n,nmul (m*n) P=nmul n (nmul m P)
  | 0=>by rw [Nat.mul_zero,nmul,nmul]
  | n+1=>by rw [Nat.mul_succ,nmul_add h,nmul_mul h m n,nmul]
theorem nmul_O: ∀ n,nmul n pO=pO
  | 0=>rfl
  | n+1=>by rw [nmul,nmul_O n,pAdd_O]
structure Ext (X Y Z T:F) (P:F × F):Prop where
  on:OnP P
  nz:Z≠0
  x:X=P.1*Z
  y:Y=P.2*Z
  t:T=P.1*P.2*Z
theorem extP_add {X1 Y1 Z1 T1 X2 Y2 Z2 T2:F} {P Q:F × F} (h:Ext X1 Y1 Z1 T1 P) (k:Ext X2 Y2 Z2 T2 Q) :
    Ext (((Y1+X1)*(Y2+X2)-(Y1-X1)*(Y2-X2))*((Z1+Z1)*Z2-T1*(dF+dF)*T2)) (((Z1+Z1)*Z2+T1*(dF+dF)*T2)*((Y1+X1)*(Y2+X2)+(Y1-X1)*(Y2-X2)))
      (((Z1+Z1)*Z2-T1*(dF+dF)*T2)*((Z1+Z1)*Z2+T1*(dF+dF)*T2)) (((Y1+X1)*(Y2+X2)-(Y1-X1)*(Y2-X2))*((Y1+X1)*(Y2+X2)+(Y1-X1)*(Y2-X2))) (pAdd P Q):=by
  have hp:=plus_ne h.on k.on
  have hm:=minus_ne h.on k.on
  have hk:(2:F)*(Z1*Z2)≠0:=F.mul_ne two_ne (F.mul_ne h.nz k.nz)
  rw [g_extE h.x h.y k.x k.y,g_extH h.x h.y k.x k.y,g_extF h.t k.t,g_extG h.t k.t]
  refine ⟨pAdd_on h.on k.on,F.mul_ne (F.mul_ne hk hm) (F.mul_ne hk hp),g_extX (mul_inv hp),?_,g_extT (mul_inv hp) (mul_inv hm)⟩
  exact g_extY (mul_inv hm)
theorem ext_O:Ext 0 1 1 0 pO:=⟨pO_on,one_ne,g_x0,g_x1,g_x2⟩
theorem ext_same {X1 Y1 Z1 T1 X2 Y2 Z2 T2:F} {P Q:F × F} (h:Ext X1 Y1 Z1 T1 P) (k:Ext X2 Y2 Z2 T2 Q):(X1*Z2=X2*Z1∧Y1*Z2=Y2*Z1)↔P=Q:=by
  rw [h.x,h.y,k.x,k.y]
  have hz:=F.mul_ne h.nz k.nz
  constructor
  · rintro ⟨e1,e2⟩
    have a1:P.1=Q.1:=mul_left_cancel hz (g_sm1 e1)
    have a2:P.2=Q.2:=mul_left_cancel hz (g_sm1 e2)
    exact Prod.ext a1 a2
  · rintro rfl
    exact ⟨g_sm2,g_sm2⟩
theorem ext_x {X Y Z T:F} {P:F × F} (h:Ext X Y Z T P):X*finv Z=P.1:=by
  rw [h.x]
  exact g_sm3 (mul_inv h.nz)
theorem ext_y {X Y Z T:F} {P:F × F} (h:Ext X Y Z T P):Y*finv Z=P.2:=by
  rw [h.y]
  exact g_sm3 (mul_inv h.nz)
theorem ext_of {P:F × F} (h:OnP P):Ext P.1 P.2 1 (P.1*P.2) P:=⟨h,one_ne,g_x3,g_x3,g_x3⟩
end Go.Proofs.YtdakeodebgggfaaGreatDoor
namespace Go.Proofs.YtdakeodebgggfaaGreatDoor
open Go.RowKit
structure PL where
  x:List Nat
  y:List Nat
  z:List Nat
  t:List Nat
def PL.D (p:PL):List D:=ptD p.x p.y p.z p.t
structure PL.Ok (p:PL):Prop where
  x:El p.x
  y:El p.y
  z:El p.z
  t:El p.t
theorem PL.Ok.len {p:PL} (h:p.Ok):p.D.length=20:=by
  simp only [PL.D,ptD,List.length_append,List.length_map,h.x.1,h.y.1,h.z.1,h.t.1]
def PL.m (p q:PL):List Nat:=mulX (subX p.y p.x) (subX q.y q.x)
def PL.n (p q:PL):List Nat:=mulX (addX p.y p.x) (addX q.y q.x)
def PL.c (p q:PL):List Nat:=mulX (mulX p.t dD) q.t
def PL.d (p q:PL):List Nat:=mulX (addX p.z p.z) q.z
def addPL (p q:PL):PL:=
  ⟨mulX (subX (p.n q) (p.m q)) (subX (p.d q) (p.c q)),mulX (addX (p.d q) (p.c q)) (addX (p.n q) (p.m q)),mulX (subX (p.d q) (p.c q)) (addX (p.d q) (p.c q)),mulX (subX (p.n q) (p.m q)) (addX (p.n q) (p.m q))⟩
theorem addPL_m {G:Nat→Option (List D)} {p q:PL} (hp:p.Ok) (hq:q.Ok):(addPL p q).Ok ∧
    (elF (addPL p q).x=((elF p.y+elF p.x)*(elF q.y+elF q.x)-(elF p.y-elF p.x)*(elF q.y-elF q.x))*((elF p.z+elF p.z)*elF q.z-elF p.t*(dF+dF)*elF q.t) ∧
    elF (addPL p q).y=((elF p.z+elF p.z)*elF q.z+elF p.t*(dF+dF)*elF q.t)*((elF p.y+elF p.x)*(elF q.y+elF q.x)+(elF p.y-elF p.x)*(elF q.y-elF q.x)) ∧
    elF (addPL p q).z=((elF p.z+elF p.z)*elF q.z-elF p.t*(dF+dF)*elF q.t)*((elF p.z+elF p.z)*elF q.z+elF p.t*(dF+dF)*elF q.t) ∧
    elF (addPL p q).t=((elF p.y+elF p.x)*(elF q.y+elF q.x)-(elF p.y-elF p.x)*(elF q.y-elF q.x))*((elF p.y+elF p.x)*(elF q.y+elF q.x)+(elF p.y-elF p.x)*(elF q.y-elF q.x))) ∧
    Spec Tryz.prog G 92 [.g (dD.map nD),.g p.D,.g q.D] (.one (.g (addPL p q).D)):=by
  have c1:=subE_m (G:=G) p.y p.x hp.y hp.x
  have c2:=subE_m (G:=G) q.y q.x hq.y hq.x
  have c3:=mulE_m (G:=G) _ _ c1.1 c2.1
  have c4:=addE_m (G:=G) p.y p.x hp.y hp.x
  have c5:=addE_m (G:=G) q.y q.x hq.y hq.x
  have c6:=mulE_m (G:=G) _ _ c4.1 c5.1
  have c7:=mulE_m (G:=G) p.t dD hp.t dD_ok.1
  have c8:=mulE_m (G:=G) _ q.t c7.1 hq.t
  have c9:=addE_m (G:=G) p.z p.z hp.z hp.z
  have c10:=mulE_m (G:=G) _ q.z c9.1 hq.z
  have c11:=subE_m (G:=G) _ _ c6.1 c3.1
  have c12:=subE_m (G:=G) _ _ c10.1 c8.1
  have c13:=addE_m (G:=G) _ _ c10.1 c8.1
  have c14:=addE_m (G:=G) _ _ c6.1 c3.1
  have c15:=mulE_m (G:=G) _ _ c11.1 c12.1
  have c16:=mulE_m (G:=G) _ _ c13.1 c14.1
  have c17:=mulE_m (G:=G) _ _ c12.1 c13.1
  have c18:=mulE_m (G:=G) _ _ c11.1 c14.1
  refine ⟨⟨c15.1,c16.1,c17.1,c18.1⟩,⟨?_,?_,?_,?_⟩,?_⟩
  · exact c15.2.1.trans (by rw [c11.2.1,c12.2.1,c6.2.1,c3.2.1,c10.2.1,c8.2.1,c7.2.1,c9.2.1,c4.2.1,c5.2.1,c1.2.1,c2.2.1,dD_ok.2])
  · exact c16.2.1.trans (by rw [c13.2.1,c14.2.1,c6.2.1,c3.2.1,c10.2.1,c8.2.1,c7.2.1,c9.2.1,c4.2.1,c5.2.1,c1.2.1,c2.2.1,dD_ok.2])
  · exact c17.2.1.trans (by rw [c12.2.1,c13.2.1,c10.2.1,c8.2.1,c7.2.1,c9.2.1,dD_ok.2])
  · exact c18.2.1.trans (by rw [c11.2.1,c14.2.1,c6.2.1,c3.2.1,c4.2.1,c5.2.1,c1.2.1,c2.2.1])
  · exact padd_w hp.x.1 hp.y.1 hp.z.1 hp.t.1 hq.x.1 hq.y.1 hq.z.1 hq.t.1 dD_ok.1.1 c3.1.1 c6.1.1 c8.1.1 c10.1.1 c11.1.1 c12.1.1 c13.1.1 c14.1.1 c15.1.1 c16.1.1 c17.1.1 c18.1.1
      c1.2.2 c2.2.2 c3.2.2 c4.2.2 c5.2.2 c6.2.2 c7.2.2 c8.2.2 c9.2.2 c10.2.2 c11.2.2 c12.2.2 c13.2.2 c14.2.2 c15.2.2 c16.2.2 c17.2.2 c18.2.2
structure St (p:PL) (P:F × F):Prop where
  ok:p.Ok
  ext:Ext (elF p.x) (elF p.y) (elF p.z) (elF p.t) P
theorem add_st {p q:PL} {P Q:F × F} (hp:St p P) (hq:St q Q):St (addPL p q) (pAdd P Q):=by
  obtain ⟨h1,⟨h2,h3,h4,h5⟩,_⟩:=addPL_m (G:=fun _=>none) hp.ok hq.ok
  refine ⟨h1,?_⟩
  rw [h2,h3,h4,h5]
  exact extP_add hp.ext hq.ext
theorem addP_m {G:Nat→Option (List D)} {p q:PL} {P Q:F × F} (hp:St p P) (hq:St q Q):Spec Tryz.prog G 92 [.g (dD.map nD),.g p.D,.g q.D] (.one (.g (addPL p q).D)):=(addPL_m hp.ok hq.ok).2.2
def PL0:PL:=⟨[0,0,0,0,0],[1,0,0,0,0],[1,0,0,0,0],[0,0,0,0,0]⟩
theorem PL0_st:St PL0 pO:=by
  refine ⟨⟨zeroE.1,one_el.1,one_el.1,zeroE.1⟩,?_⟩
  show Ext (elF [0,0,0,0,0]) (elF [1,0,0,0,0]) (elF [1,0,0,0,0]) (elF [0,0,0,0,0]) pO
  rw [zeroE.2,elF_one]
  exact ext_O
end Go.Proofs.YtdakeodebgggfaaGreatDoor
namespace Go.Proofs.YtdakeodebgggfaaGreatDoor
open Go.RowKit
section
variable {α:Type} {l:List α}
theorem full_take {n:Nat} (h:l.length=n):l.take n=l:=List.take_of_length_le (by omega)
theorem full_drop {n:Nat} (h:l.length=n):l.drop n=[]:=List.drop_eq_nil_of_le (by omega)
end
theorem cd_facts {l:List D} {n:Nat} (h:l.length=n):l.take n=l∧(l.map C.d).take n=l.map C.d∧(l.map C.d).drop n=[]:=
  ⟨full_take h,full_take (by rw [List.length_map,h]),full_drop (by rw [List.length_map,h])⟩
section
variable {G:Nat→Option (List D)}
theorem addM_w {W X Y R:List D} (lw:W.length=5) (lx:X.length=20) (ly:Y.length=20) (lr:R.length=20) (h1:Spec Tryz.prog G 90 [] (.one (.g W)))
    (h2:Spec Tryz.prog G 92 [.g W,.g X,.g Y] (.one (.g R))):Spec Tryz.prog G 49 [.g X,.g Y] (.one (.g R)):=by
  obtain ⟨w1,w2,w3⟩:=cd_facts lw
  obtain ⟨x1,x2,x3⟩:=cd_facts lx
  obtain ⟨y1,y2,y3⟩:=cd_facts ly
  obtain ⟨r1,r2,r3⟩:=cd_facts lr
  refine spec_of Tryz.func49 rfl rfl rfl (by kernel_rfl) rfl fun K=>?_
  (repeat' (first|with_reducible (first|refine zA fun Kn hK=>?_|refine zB (by kernel_rfl) ?_|refine Nx.go ?_|go_step)|(refine ⟨_,h1,?_⟩)|(refine ⟨_,h2,?_⟩)|with_reducible (first|refine zI ?_|refine zJ ?_|refine zK ?_ ?_|refine zL ?_ ?_|refine zR (by kernel_rfl) ?_)|simp (maxSteps:=9999999) (disch:=omega) only [wq]|(with_reducible refine zM (fun hb=>?_) (fun hb=>?_) <;> (try simp only [hb]))|(with_reducible refine And.intro (by first|omega|(simp;done)|(simp;omega)) ?_)|simp (maxSteps:=9999999) (implicitDefEqProofs:=false) only [go_sem,List.length_map,List.length_replicate,List.drop_replicate,lw,lx,ly,lr,w1,w2,w3,x1,x2,x3,y1,y2,y3,r1,r2,r3,List.append_nil]|fail))
theorem addM_m {p q:PL} {P Q:F × F} (hp:St p P) (hq:St q Q):Spec Tryz.prog G 49 [.g p.D,.g q.D] (.one (.g (addPL p q).D)):=
  addM_w (by rw [List.length_map];exact dD_ok.1.1) hp.ok.len hq.ok.len (add_st hp hq).ok.len ofP_m (addP_m hp hq)
theorem same_w {x1 y1 z1 t1 x2 y2 z2 t2 a b c d:List Nat} {p q:Bool} (l1:x1.length=5) (l2:y1.length=5) (l3:z1.length=5) (l4:t1.length=5) (l5:x2.length=5) (l6:y2.length=5) (l7:z2.length=5) (l8:t2.length=5)
    (c1:Spec Tryz.prog G 81 [.g (x1.map nD),.g (z2.map nD)] (.one (.g (a.map nD))))
    (c2:Spec Tryz.prog G 81 [.g (x2.map nD),.g (z1.map nD)] (.one (.g (b.map nD))))
    (c3:Spec Tryz.prog G 87 [.g (a.map nD),.g (b.map nD)] (.one (.c (.v (.bool p)))))
    (c4:Spec Tryz.prog G 81 [.g (y1.map nD),.g (z2.map nD)] (.one (.g (c.map nD))))
    (c5:Spec Tryz.prog G 81 [.g (y2.map nD),.g (z1.map nD)] (.one (.g (d.map nD))))
    (c6:Spec Tryz.prog G 87 [.g (c.map nD),.g (d.map nD)] (.one (.c (.v (.bool q))))) :
    Spec Tryz.prog G 48 [.g (ptD x1 y1 z1 t1),.g (ptD x2 y2 z2 t2)] (.one (.c (.v (.bool (p&&q))))):=by
  cases p <;> cases q
  all_goals
    refine spec_of Tryz.func48 rfl rfl rfl (by kernel_rfl) rfl fun K=>?_
    (repeat' (first|with_reducible (first|refine zA fun Kn hK=>?_|refine zB (by kernel_rfl) ?_|refine Nx.go ?_|go_step)|(refine ⟨_,c1,?_⟩)|(refine ⟨_,c2,?_⟩)|(refine ⟨_,c3,?_⟩)|(refine ⟨_,c4,?_⟩)|(refine ⟨_,c5,?_⟩)|(refine ⟨_,c6,?_⟩)|with_reducible (first|refine zI ?_|refine zJ ?_|refine zK ?_ ?_|refine zL ?_ ?_|refine zR (by kernel_rfl) ?_)|simp (maxSteps:=9999999) (disch:=omega) only [wq]|(with_reducible refine zM (fun hb=>?_) (fun hb=>?_) <;> (try simp only [hb]))|(with_reducible refine And.intro (by first|omega|(simp;done)|(simp;omega)) ?_)|simp (maxSteps:=9999999) (implicitDefEqProofs:=false) only [go_sem,List.map_append,List.length_append,List.length_map,Nat.reduceAdd,List.append_assoc,tk5,dp5,tk10,tk15,tk20,dp10,dp15,dp20,l1,l2,l3,l4,l5,l6,l7,l8]|fail))
  all_goals rfl
theorem sameP_m {p q:PL} {P Q:F × F} (hp:St p P) (hq:St q Q):Spec Tryz.prog G 48 [.g p.D,.g q.D] (.one (.c (.v (.bool (decide (P=Q)))))):=by
  have c1:=mulE_m (G:=G) _ _ hp.ok.x hq.ok.z
  have c2:=mulE_m (G:=G) _ _ hq.ok.x hp.ok.z
  have c4:=mulE_m (G:=G) _ _ hp.ok.y hq.ok.z
  have c5:=mulE_m (G:=G) _ _ hq.ok.y hp.ok.z
  have h:=same_w (G:=G) hp.ok.x.1 hp.ok.y.1 hp.ok.z.1 hp.ok.t.1 hq.ok.x.1 hq.ok.y.1 hq.ok.z.1 hq.ok.t.1 c1.2.2 c2.2.2 (sameE_m _ _ c1.1 c2.1) c4.2.2 c5.2.2 (sameE_m _ _ c4.1 c5.1)
  have he:(decide (elF (mulX p.x q.z)=elF (mulX q.x p.z))&&decide (elF (mulX p.y q.z)=elF (mulX q.y p.z)))=decide (P=Q):=by
    rw [c1.2.1,c2.2.1,c4.2.1,c5.2.1,Bool.eq_iff_iff,Bool.and_eq_true,decide_eq_true_eq,decide_eq_true_eq,decide_eq_true_eq]
    exact ext_same hp.ext hq.ext
  rw [he] at h
  exact h
end
end Go.Proofs.YtdakeodebgggfaaGreatDoor
namespace Go.Proofs.YtdakeodebgggfaaGreatDoor
open Go.RowKit
@[go_sem] theorem and_8_15 {a:Nat}:andI .u8 (a:Int) 15=((a%256%16:Nat):Int):=by
  have h:=and_8 (a:=a) (b:=15)
  have h3:15%256=2^4-1:=by decide
  rw [h3,Nat.and_two_pow_sub_one_eq_mod] at h
  exact h
def zz20:List D:=List.replicate 20 (nD 0)
def pad20 (l:List D):List D:=(l++zz20).take 20
theorem pad20_len (l:List D):(pad20 l).length=20:=by
  rw [pad20,List.length_take,List.length_append,zz20,List.length_replicate]
  omega
theorem pad20_of {l:List D} (h:l.length=20):pad20 l=l:=by
  rw [pad20,← h,List.take_left]
def nib (n:List UInt8) (i:Nat):Nat:=(n.getD (i/2) 0).toNat/2^(4*(i%2))%16
theorem nib_lt (n:List UInt8) (i:Nat):nib n i<16:=Nat.mod_lt _ (by omega)
def fewS (F:Nat→List D):Nat→List (List D)
  | 0=>(List.replicate 16 zz20).set 0 (F 0)
  | k+1=>(fewS F k).set (k+1) (F (k+1))
theorem fewS_len (F:Nat→List D): ∀ k,(fewS F k).length=16
  | 0=>by simp [fewS]
  | k+1=>by rw [fewS,List.length_set,fewS_len]
theorem fewS_get (F:Nat→List D): ∀ k,k<16→ ∀ j,j≤k→(fewS F k)[j]?=some (F j)
  | 0,_,j,hj=>by
    obtain rfl:j=0:=by omega
    rw [fewS,List.getElem?_set_self (by simp)]
  | k + 1,hk,j,hj=>by
    rw [fewS]
    by_cases h:j=k+1
    · subst h
      rw [List.getElem?_set_self (by rw [fewS_len];omega)]
    · rw [List.getElem?_set_ne (by omega),fewS_get F k (by omega) j (by omega)]
def fewD (F:Nat→List D) (k:Nat):List D:=(fewS F k).flatMap pad20
theorem fewC_len (F:Nat→List D) (k:Nat):((fewD F k).map C.d).length=320:=by rw [List.length_map,fewD,flat_len pad20_len,fewS_len]
theorem fewC_at {F:Nat→List D} (hF: ∀ j,(F j).length=20) {k j:Nat} (hk:k<16) (hj:j≤k):(((fewD F k).map C.d).drop (j*20)).take 20=(F j).map C.d:=by
  have h:=flat_atC pad20_len (fewS_get F k hk j hj)
  rw [pad20_of (hF j)] at h
  exact h
theorem fewC_set {F:Nat→List D} (hF: ∀ j,(F j).length=20) {k:Nat} (hk:k+1<16):((fewD F k).map C.d).take ((k+1)*20)++(F (k+1)).map C.d++((fewD F k).map C.d).drop ((k+1)*20+20)=((fewD F (k+1)).map C.d):=by
  have h:=flatC_set pad20_len (l:=fewS F k) (k:=k+1) (F (k+1)) (by rw [fewS_len];exact hk)
  rw [pad20_of (hF _)] at h
  exact h
theorem few0 {F:Nat→List D} (hF: ∀ j,(F j).length=20):(F 0).map C.d++(List.replicate 320 (C.d (.v (.int .u64 0)))).drop 20=((fewD F 0).map C.d):=by
  have h:=flatC_set pad20_len (l:=List.replicate 16 zz20) (k:=0) (F 0) (by simp)
  rw [pad20_of (hF _)] at h
  rw [fewD,fewS,← h]
  rfl
@[go_sem] theorem ty_few:tyok Tryz.prog 128=true:=by kernel_rfl
@[go_sem] theorem kd_few:kdOf Tryz.prog 128=Kd.arr 16 83:=by kernel_rfl
@[go_sem] theorem ze_few:zeroOf Tryz.prog 128=List.replicate 320 (C.d (.v (.int .u64 0))):=by kernel_rfl
section
variable {G:Nat→Option (List D)}
theorem times_w {n:List UInt8} {W P:List D} {F:Nat→List D} {O:Nat→Nat→List D} (ln:n.length=32) (lw:W.length=5) (lp:P.length=20) (hF: ∀ j,(F j).length=20) (hO: ∀ k j,(O k j).length=20)
    (h1:Spec Tryz.prog G 90 [] (.one (.g W))) (h2:Spec Tryz.prog G 91 [] (.one (.g (F 0)))) (e0:O 0 0=F 0)
    (h3: ∀ k,k<15→Spec Tryz.prog G 92 [.g W,.g (F k),.g P] (.one (.g (F (k+1)))))
    (h4: ∀ k j,k<64→j<4→Spec Tryz.prog G 92 [.g W,.g (O k j),.g (O k j)] (.one (.g (O k (j+1)))))
    (h5: ∀ k,k<64→Spec Tryz.prog G 92 [.g W,.g (O k 4),.g (F (nib n (63-k)))] (.one (.g (O (k+1) 0)))) :
    Spec Tryz.prog G 47 [.g P,.g (n.map bD)] (.one (.g (O 64 0))):=by
  obtain ⟨w1,w2,w3⟩:=cd_facts lw
  obtain ⟨p1,p2,p3⟩:=cd_facts lp
  obtain ⟨f1,f2,f3⟩:=cd_facts (hF 0)
  have lf:=hF 0
  have hf0:(F 0).map C.d++List.replicate 300 (C.d (.v (.int .u64 0)))=(fewD F 0).map C.d:=few0 hF
  have n1:((n.map bD).map C.d).length=32:=by rw [List.length_map,List.length_map,ln]
  refine spec_of Tryz.func47 rfl rfl rfl (by kernel_rfl) rfl fun K=>?_
  (repeat' (first|with_reducible (first|refine zA fun Kn hK=>?_|refine zB (by kernel_rfl) ?_|refine Nx.go ?_|go_step)|(refine ⟨_,h1,?_⟩)|(refine ⟨_,h2,?_⟩)|with_reducible (first|refine zI ?_|refine zJ ?_|refine zK ?_ ?_|refine zL ?_ ?_|refine zR (by kernel_rfl) ?_)|simp (maxSteps:=9999999) (disch:=omega) only [wq]|(with_reducible refine zM (fun hb=>?_) (fun hb=>?_) <;> (try simp only [hb]))|(with_reducible refine And.intro (by first|omega|(simp;done)|(simp;omega)) ?_)|simp (maxSteps:=9999999) (implicitDefEqProofs:=false) only [go_sem,List.length_map,List.length_replicate,List.drop_replicate,lw,lp,lf,w1,w2,w3,p1,p2,p3,f1,f2,f3,hf0,ln,List.append_nil]|fail))
  refine sound_loopR (fun x:{k:Nat // k≤15}=>⟨[(2,vP 2 0),(3,vP 3 0),(4,vP 4 0),(5,vP 5 0),(6,vP 6 0),(14,vI 15),(15,vI x.1)],[(2,some ⟨83,P.map C.d,true,false⟩),(3,some ⟨39,(n.map bD).map C.d,true,false⟩),(4,some ⟨83,List.replicate 20 (C.d (.v (.int .u64 0))),true,false⟩),(5,some ⟨126,W.map C.d,true,false⟩),(6,some ⟨128,((fewD F x.1).map C.d),true,false⟩)]⟩) (fun x=>15-x.1) ⟨0,by omega⟩ [] (by (iterate 2 ((try simp (maxSteps:=9999999) (implicitDefEqProofs:=false) only [go_sem,hf0]);(try simp (maxSteps:=9999999) (disch:=omega) only [wq])));try simp) (fun ⟨k,hk⟩=>?_)
  have hfl:=fewC_len F k
  by_cases hlt:k<15
  · have hb:decide ((k:Int)<15)=true:=decide_eq_true (by omega)
    have ha:=h3 k hlt
    have hat:=fewC_at hF (k:=k) (j:=k) (by omega) (Nat.le_refl _)
    have hset:=fewC_set hF (k:=k) (by omega)
    have lfk:=hF k
    have lfk1:=hF (k+1)
    obtain ⟨g1,g2,g3⟩:=cd_facts lfk
    obtain ⟨g4,g5,g6⟩:=cd_facts lfk1
    have hn1:((k:Int)+1).toNat=k+1:=by omega
    have hn2:(k+1)*20+20=(k+1)*20+20:=rfl
    generalize F k=FK at *
    generalize F (k+1)=FK1 at *
    (repeat' (first|with_reducible (first|refine zA fun Kn hK=>?_|refine zB (by kernel_rfl) ?_|refine Nx.go ?_|go_step)|(refine ⟨_,ha,?_⟩)|with_reducible (first|refine zI ?_|refine zJ ?_|refine zK ?_ ?_|refine zL ?_ ?_|refine zR (by kernel_rfl) ?_)|simp (maxSteps:=9999999) (disch:=omega) only [wq]|(with_reducible refine zM (fun hb=>?_) (fun hb=>?_) <;> (try simp only [hb]))|(with_reducible refine And.intro (by first|omega|(simp;done)|(simp;omega)) ?_)|simp (maxSteps:=9999999) (implicitDefEqProofs:=false) only [go_sem,hb,hat,hset,hfl,hn1,List.length_map,lw,lp,lfk,lfk1,w1,w2,w3,p1,p2,p3,g1,g2,g3,g4,g5,g6,List.append_nil]|fail))
    refine ⟨[],⟨k+1,hlt⟩,?_⟩
    (iterate 2 ((try simp (maxSteps:=9999999) (implicitDefEqProofs:=false) only [go_sem,true_and]);(try simp (maxSteps:=9999999) (disch:=omega) only [wq])))
    try (simp only [ijq,true_and,and_true];first|done|omega|(split <;> omega)|(simp;done)|(simp;omega))
  have hb:decide ((k:Int)<15)=false:=decide_eq_false (by omega)
  obtain rfl:k=15:=by omega
  (repeat' (first|with_reducible (first|refine zA fun Kn hK=>?_|refine zB (by kernel_rfl) ?_|refine Nx.go ?_|go_step)|(refine ⟨_,h2,?_⟩)|with_reducible (first|refine zI ?_|refine zJ ?_|refine zK ?_ ?_|refine zL ?_ ?_|refine zR (by kernel_rfl) ?_)|simp (maxSteps:=9999999) (disch:=omega) only [wq]|(with_reducible refine zM (fun hb=>?_) (fun hb=>?_) <;> (try simp only [hb]))|(with_reducible refine And.intro (by first|omega|(simp;done)|(simp;omega)) ?_)|simp (maxSteps:=9999999) (implicitDefEqProofs:=false) only [go_sem,hb,List.length_map,List.length_replicate,List.drop_replicate,lf,f1,f2,f3,List.append_nil]|fail))
  refine sound_loopR (fun x:{k:Nat // k≤64}=>⟨[(2,vP 2 0),(3,vP 3 0),(4,vP 4 0),(5,vP 5 0),(6,vP 6 0),(8,vP 8 0),(9,vI (63-x.1))],[(2,some ⟨83,P.map C.d,true,false⟩),(3,some ⟨39,(n.map bD).map C.d,true,false⟩),(4,some ⟨83,List.replicate 20 (C.d (.v (.int .u64 0))),true,false⟩),(5,some ⟨126,W.map C.d,true,false⟩),(6,some ⟨128,((fewD F 15).map C.d),true,false⟩),(8,some ⟨83,(O x.1 0).map C.d,true,false⟩)]⟩) (fun x=>64-x.1) ⟨0,by omega⟩ [] (by (iterate 2 ((try simp (maxSteps:=9999999) (implicitDefEqProofs:=false) only [go_sem,e0]);(try simp (maxSteps:=9999999) (disch:=omega) only [wq])));try simp) (fun ⟨k,hk⟩=>?_)
  by_cases hlt:k<64
  · obtain ⟨j,hj⟩: ∃ j,63-k=j:=⟨_,rfl⟩
    have e1:(63:Int)-(k:Int)=(j:Int):=by omega
    have hb2:decide ((j:Int)≥0)=true:=decide_eq_true (by omega)
    rw [e1]
    (repeat' (first|with_reducible (first|refine zA fun Kn hK=>?_|refine zB (by kernel_rfl) ?_|refine Nx.go ?_|go_step)|fail|with_reducible (first|refine zI ?_|refine zJ ?_|refine zK ?_ ?_|refine zL ?_ ?_|refine zR (by kernel_rfl) ?_)|simp (maxSteps:=9999999) (disch:=omega) only [wq]|(with_reducible refine zM (fun hb=>?_) (fun hb=>?_) <;> (try simp only [hb]))|(with_reducible refine And.intro (by first|omega|(simp;done)|(simp;omega)) ?_)|simp (maxSteps:=9999999) (implicitDefEqProofs:=false) only [go_sem,hb2]|fail))
    refine sound_loopR (fun x:{i:Nat // i≤4}=>⟨[(2,vP 2 0),(3,vP 3 0),(4,vP 4 0),(5,vP 5 0),(6,vP 6 0),(8,vP 8 0),(9,vI j),(33,vI x.1)],[(2,some ⟨83,P.map C.d,true,false⟩),(3,some ⟨39,(n.map bD).map C.d,true,false⟩),(4,some ⟨83,List.replicate 20 (C.d (.v (.int .u64 0))),true,false⟩),(5,some ⟨126,W.map C.d,true,false⟩),(6,some ⟨128,((fewD F 15).map C.d),true,false⟩),(8,some ⟨83,(O k x.1).map C.d,true,false⟩)]⟩) (fun x=>4-x.1) ⟨0,by omega⟩ [] (by (iterate 2 ((try simp (maxSteps:=9999999) (implicitDefEqProofs:=false) only [go_sem,true_and]);(try simp (maxSteps:=9999999) (disch:=omega) only [wq])));try simp) (fun ⟨i,hi⟩=>?_)
    have lo:=hO k i
    obtain ⟨o1,o2,o3⟩:=cd_facts lo
    by_cases hi4:i<4
    · have hb3:decide ((i:Int)<4)=true:=decide_eq_true (by omega)
      have ha:=h4 k i hlt hi4
      have lo':=hO k (i+1)
      obtain ⟨o4,o5,o6⟩:=cd_facts lo'
      generalize O k i=OI at *
      generalize hOJ:O k (i+1)=OJ at *
      (repeat' (first|with_reducible (first|refine zA fun Kn hK=>?_|refine zB (by kernel_rfl) ?_|refine Nx.go ?_|go_step)|(refine ⟨_,ha,?_⟩)|with_reducible (first|refine zI ?_|refine zJ ?_|refine zK ?_ ?_|refine zL ?_ ?_|refine zR (by kernel_rfl) ?_)|simp (maxSteps:=9999999) (disch:=omega) only [wq]|(with_reducible refine zM (fun hb=>?_) (fun hb=>?_) <;> (try simp only [hb]))|(with_reducible refine And.intro (by first|omega|(simp;done)|(simp;omega)) ?_)|simp (maxSteps:=9999999) (implicitDefEqProofs:=false) only [go_sem,hb3,List.length_map,lw,lo,lo',w1,w2,w3,o1,o2,o3,o4,o5,o6,List.append_nil]|fail))
      refine ⟨[],⟨i+1,hi4⟩,?_⟩
      (iterate 2 ((try simp (maxSteps:=9999999) (implicitDefEqProofs:=false) only [go_sem,hOJ]);(try simp (maxSteps:=9999999) (disch:=omega) only [wq])))
      try (simp only [ijq,true_and,and_true];first|done|omega|(split <;> omega)|(simp;done)|(simp;omega))
    · have hb3:decide ((i:Int)<4)=false:=decide_eq_false (by omega)
      obtain rfl:i=4:=by omega
      have ha:=h5 k hlt
      rw [hj] at ha
      have hnl:=nib_lt n j
      have hat:=fewC_at hF (k:=15) (j:=nib n j) (by omega) (by omega)
      have lfn:=hF (nib n j)
      obtain ⟨g1,g2,g3⟩:=cd_facts lfn
      have lo':=hO (k+1) 0
      obtain ⟨o4,o5,o6⟩:=cd_facts lo'
      obtain ⟨y,hy⟩: ∃ y,n[j/2]?=some y:=⟨_,List.getElem?_eq_getElem (by omega)⟩
      have hgy:((n.map bD).map C.d)[j/2]?=some (C.d (D.v (.int .u8 (y.toNat:Int)))):=by
        rw [List.getElem?_map,List.getElem?_map,hy]
        rfl
      have hyl:y.toNat<256:=y.toNat_lt
      have hnib:nib n j=y.toNat/2^min (4*(j%2)) 8%256%16:=by
        rw [nib,List.getD_eq_getElem?_getD,hy,show min (4*(j%2)) 8=4*(j%2) by omega,Nat.mod_mod_of_dvd _ (show 16 ∣ 256 by decide)]
        rfl
      have h4n:(4*((j%2:Nat):Int)).toNat=4*(j%2):=by omega
      have h0n:(0:Int)≤4*((j%2:Nat):Int):=by omega
      have h4w:IntKind.i64.wrap (4*((j%2:Nat):Int))=4*((j%2:Nat):Int):=wrap_id (by omega) (by omega)
      rw [hnib] at hat hnl lfn g1 g2 g3 ha
      clear hnib
      generalize hOJ:O (k+1) 0=OJ at *
      generalize O k 4=OI at *
      generalize F (y.toNat/2^min (4*(j%2)) 8%256%16)=FN at *
      (repeat' (first|with_reducible (first|refine zA fun Kn hK=>?_|refine zB (by kernel_rfl) ?_|refine Nx.go ?_|go_step)|(refine ⟨_,ha,?_⟩)|with_reducible (first|refine zI ?_|refine zJ ?_|refine zK ?_ ?_|refine zL ?_ ?_|refine zR (by kernel_rfl) ?_)|simp (maxSteps:=9999999) (disch:=omega) only [wq]|(with_reducible refine zM (fun hb=>?_) (fun hb=>?_) <;> (try simp only [hb]))|(with_reducible refine And.intro (by first|omega|(simp;done)|(simp;omega)) ?_)|simp (maxSteps:=9999999) (implicitDefEqProofs:=false) only [go_sem,hb3,List.length_map,n1,hgy,h4n,h4w,h0n,hat,hfl,lw,lo,lo',lfn,w1,w2,w3,o1,o2,o3,o4,o5,o6,g1,g2,g3,List.append_nil]|fail))
      refine ⟨[],⟨k+1,hlt⟩,?_⟩
      (iterate 2 ((try simp (maxSteps:=9999999) (implicitDefEqProofs:=false) only [go_sem,hOJ]);(try simp (maxSteps:=9999999) (disch:=omega) only [wq])))
      try (simp only [ijq,true_and,and_true];first|done|omega|(split <;> omega)|(simp;done)|(simp;omega))
  · obtain rfl:k=64:=by omega
    have e1:(63:Int)-((64:Nat):Int)= -1:=by omega
    have hb2:decide ((-1:Int)≥0)=false:=rfl
    have lo:=hO 64 0
    obtain ⟨o1,o2,o3⟩:=cd_facts lo
    rw [e1]
    generalize O 64 0=OI at *
    (repeat' (first|with_reducible (first|refine zA fun Kn hK=>?_|refine zB (by kernel_rfl) ?_|refine Nx.go ?_|go_step)|fail|with_reducible (first|refine zI ?_|refine zJ ?_|refine zK ?_ ?_|refine zL ?_ ?_|refine zR (by kernel_rfl) ?_)|simp (maxSteps:=9999999) (disch:=omega) only [wq]|(with_reducible refine zM (fun hb=>?_) (fun hb=>?_) <;> (try simp only [hb]))|(with_reducible refine And.intro (by first|omega|(simp;done)|(simp;omega)) ?_)|simp (maxSteps:=9999999) (implicitDefEqProofs:=false) only [go_sem,hb2,List.length_map,List.length_replicate,List.drop_replicate,lo,o1,o2,o3,List.append_nil]|fail))
end
def flP (p:PL):Nat→PL
  | 0=>PL0
  | k+1=>addPL (flP p k) p
def oP (p:PL) (n:List UInt8):Nat→PL
  | 0=>PL0
  | k+1=>addPL (addPL (addPL (addPL (addPL (oP p n k) (oP p n k)) (addPL (oP p n k) (oP p n k))) (addPL (addPL (oP p n k) (oP p n k)) (addPL (oP p n k) (oP p n k)))) (addPL (addPL (addPL (oP p n k) (oP p n k)) (addPL (oP p n k) (oP p n k))) (addPL (addPL (oP p n k) (oP p n k)) (addPL (oP p n k) (oP p n k))))) (flP p (nib n (63-k)))
def dbl (p:PL):Nat→PL
  | 0=>p
  | j+1=>addPL (dbl p j) (dbl p j)
theorem flP_st {p:PL} {P:F × F} (h:St p P): ∀ k,St (flP p k) (nmul k P)
  | 0=>PL0_st
  | k+1=>add_st (flP_st h k) h
theorem dbl_st {p:PL} {P:F × F} (h:St p P): ∀ j,St (dbl p j) (nmul (2^j) P)
  | 0=>by rw [Nat.pow_zero,nmul_one];exact h
  | j+1=>by
    rw [Nat.pow_succ,Nat.mul_comm,nmul_two h.ext.on]
    exact add_st (dbl_st h j) (dbl_st h j)
theorem oP_succ (p:PL) (n:List UInt8) (k:Nat):oP p n (k+1)=addPL (dbl (oP p n k) 4) (flP p (nib n (63-k))):=rfl
theorem nib_step {n:List UInt8} (ln:n.length=32) {k:Nat} (hk:k<64):leV n/2^(4*(63-k))=16*(leV n/2^(4*(64-k)))+nib n (63-k):=by
  obtain ⟨j,hj⟩: ∃ j,63-k=j:=⟨_,rfl⟩
  have e:64-k=j+1:=by omega
  rw [hj,e,show 4*(j+1)=4*j+4 by omega,Nat.pow_add,← Nat.div_div_eq_div_mul]
  have hn:nib n j=leV n/2^(4*j)%16:=by
    obtain ⟨y,hy⟩: ∃ y,n[j/2]?=some y:=⟨_,List.getElem?_eq_getElem (by omega)⟩
    have h:=leV_at hy
    rw [nib,List.getD_eq_getElem?_getD,hy,Option.getD_some,← h,pow256]
    rw [show (256:Nat)=2^(4*(j%2))*2^(8-4*(j%2)) by rw [← Nat.pow_add,show 4*(j%2)+(8-4*(j%2))=8 by omega],Nat.mod_mul_right_div_self,Nat.div_div_eq_div_mul,← Nat.pow_add,show 8*(j/2)+4*(j%2)=4*j by omega]
    obtain ⟨d,hd⟩: ∃ d,8-4*(j%2)=4+d:=⟨4-4*(j%2),by omega⟩
    rw [hd,Nat.pow_add,show (2:Nat)^4=16 from rfl,Nat.mod_mul_right_mod]
  rw [hn,show (2:Nat)^4=16 from rfl]
  omega
theorem oP_st {p:PL} {P:F × F} (h:St p P) {n:List UInt8} (ln:n.length=32): ∀ k,k≤64→St (oP p n k) (nmul (leV n/2^(4*(64-k))) P)
  | 0,_=>by
    have:leV n/2^(4*(64-0))=0:=by
      refine Nat.div_eq_of_lt ?_
      have:=leV_lt n
      rw [ln,pow256] at this
      exact this
    rw [this]
    exact PL0_st
  | k+1,hk=>by
    have ih:=oP_st h ln k (by omega)
    rw [oP_succ,show 64-(k+1)=63-k by omega,nib_step ln (by omega),nmul_add h.ext.on,Nat.mul_comm 16,nmul_mul h.ext.on]
    have h4:=dbl_st ih 4
    exact add_st h4 (flP_st h _)
theorem timesP_m {G:Nat→Option (List D)} {p:PL} {P:F × F} (h:St p P) {n:List UInt8} (ln:n.length=32):Spec Tryz.prog G 47 [.g p.D,.g (n.map bD)] (.one (.g (oP p n 64).D)):=by
  refine times_w (W:=dD.map nD) (F:=fun k=>(flP p k).D) (O:=fun k j=>if k≤64 then (dbl (oP p n k) j).D else PL0.D) ln (by rw [List.length_map];exact dD_ok.1.1) h.ok.len (fun j=>(flP_st h j).ok.len) (fun k j=>?_) ofP_m zeroP_m rfl (fun k hk=>addP_m (flP_st h k) h) (fun k j hk hj=>?_) (fun k hk=>?_)
  · split
    · rename_i hk
      exact (dbl_st (oP_st h ln k hk) j).ok.len
    · exact PL0_st.ok.len
  · rw [if_pos (by omega),if_pos (by omega)]
    exact addP_m (dbl_st (oP_st h ln k (by omega)) j) (dbl_st (oP_st h ln k (by omega)) j)
  · rw [if_pos (by omega),if_pos (by omega)]
    exact addP_m (dbl_st (oP_st h ln k (by omega)) 4) (flP_st h _)
theorem timesP_st {p:PL} {P:F × F} (h:St p P) {n:List UInt8} (ln:n.length=32):St (oP p n 64) (nmul (leV n) P):=by
  have:=oP_st h ln 64 (Nat.le_refl _)
  rwa [Nat.sub_self,Nat.mul_zero,Nat.pow_zero,Nat.div_one] at this
end Go.Proofs.YtdakeodebgggfaaGreatDoor
namespace Go.Proofs.YtdakeodebgggfaaGreatDoor
open Go.RowKit
def andNotI (k:IntKind) (x y:Int):Int:=k.wrap (BitVec.ofInt k.bits x &&& ~~~ BitVec.ofInt k.bits y).toNat
@[go_sem ↓ high] theorem arith_andNot {k:IntKind} {x y:Int}:arithV .andNot k x y=some (.int k (andNotI k x y)):=rfl
theorem byte_cases {P:Nat→Bool} (h:(List.range 256).all P=true) {n:Nat} (hn:n<256):P n=true:=List.all_eq_true.1 h n (List.mem_range.2 hn)
@[go_sem] theorem andNot_128 {y:UInt8}:andNotI .u8 (y.toNat:Int) 128=((y.toNat%128:Nat):Int):=by
  have h:=byte_cases (P:=fun n=>andNotI .u8 (n:Int) 128==((n%128:Nat):Int)) (by decide +kernel) y.toNat_lt
  simpa using h
@[go_sem] theorem and_128 {y:UInt8}:(andI .u8 (y.toNat:Int) 128==0)= !decide (128≤y.toNat):=by
  have h:=byte_cases (P:=fun n=>(andI .u8 (n:Int) 128==0)== !decide (128≤n)) (by decide +kernel) y.toNat_lt
  simpa using h
def topB (b:List UInt8):Nat:=(b.getD 31 0).toNat
def ownB (b:List UInt8):List UInt8:=b.set 31 (UInt8.ofNat (topB b%128))
theorem ownB_len (b:List UInt8):(ownB b).length=b.length:=List.length_set
theorem leV_set: ∀ {l:List UInt8} {j:Nat} {c d:UInt8},l[j]?=some c→leV (l.set j d)+256^j*c.toNat=leV l+256^j*d.toNat
  | [],j,c,d,h=>by simp at h
  | x::l,0,c,d,h=>by
    simp at h
    subst h
    simp only [List.set_cons_zero,leV,Nat.pow_zero]
    omega
  | x::l,j+1,c,d,h=>by
    have ih:=leV_set (l:=l) (j:=j) (c:=c) (d:=d) (by simpa using h)
    simp only [List.set_cons_succ,leV,Nat.pow_succ]
    generalize 256^j=P at *
    have e1:P*256*c.toNat=256*(P*c.toNat):=by rw [Nat.mul_comm P,Nat.mul_assoc]
    have e2:P*256*d.toNat=256*(P*d.toNat):=by rw [Nat.mul_comm P,Nat.mul_assoc]
    omega
theorem topB_get {b:List UInt8} (h:b.length=32):b[31]?=some (b.getD 31 0):=by
  rw [List.getD_eq_getElem?_getD,List.getElem?_eq_getElem (by omega)]
  rfl
theorem topB_div {b:List UInt8} (h:b.length=32):leV b/2^248=topB b:=by
  have h1:=leV_at (topB_get h)
  have h2:=leV_lt b
  rw [h] at h2
  rw [pow256] at h1
  have h3:leV b/2^(8*31)<256:=by
    rw [Nat.div_lt_iff_lt_mul (Nat.pow_pos (by omega))]
    exact h2
  rw [Nat.mod_eq_of_lt h3] at h1
  exact h1
theorem ownB_val {b:List UInt8} (h:b.length=32):leV (ownB b)=leV b%2^255:=by
  have h1:=leV_set (d:=UInt8.ofNat (topB b%128)) (topB_get h)
  have h2:=topB_div h
  have h3:(UInt8.ofNat (topB b%128)).toNat=topB b%128:=UInt8.toNat_ofNat_of_lt' (by simp only [UInt8.size];omega)
  rw [h3] at h1
  have h4:(b.getD 31 0).toNat=topB b:=rfl
  rw [h4] at h1
  have h5:(256:Nat)^31=2^248:=by decide +kernel
  have h6:(2:Nat)^255=2^248*128:=by decide +kernel
  have h7:(ownB b)=b.set 31 (UInt8.ofNat (topB b%128)):=rfl
  rw [← h7,h5] at h1
  rw [h6,Nat.mod_mul,h2]
  have h8:=Nat.div_add_mod (leV b) (2^248)
  rw [h2] at h8
  generalize (2:Nat)^248=M at *
  have h9:=Nat.div_add_mod (topB b) 128
  generalize topB b/128=q at *
  have e1:M*topB b=M*(128*q)+M*(topB b%128):=by rw [← Nat.mul_add,h9]
  omega
theorem odd_top {b:List UInt8} (h:b.length=32):decide (128≤topB b)=decide (2^255≤leV b):=by
  have h2:=topB_div h
  have h6:(2:Nat)^255=128*2^248:=by decide +kernel
  rw [← h2,h6,Bool.eq_iff_iff,decide_eq_true_eq,decide_eq_true_eq,Nat.le_div_iff_mul_le (Nat.pow_pos (by omega))]
section
variable {G:Nat→Option (List D)}
theorem get_bad {b:List UInt8} {E:List Nat} {e:Int} (hl:b.length≠32) (lE:E.length=5) (h1:Spec Tryz.prog G 79 [.c (bytesD b)] (.many [.g (E.map nD),.c (.v (.int .i64 e))])) :
    Spec Tryz.prog G 44 [.c (bytesD b)] (.many [.g (ptD [0,0,0,0,0] [0,0,0,0,0] [0,0,0,0,0] [0,0,0,0,0]),.c (.v (.int .i64 e))]):=by
  have hb1:(b.length==32)=false:=by simpa using hl
  have t0:=numsC_take lE;have u0:=nums_take lE;have d0:=numsC_drop lE
  refine spec_of Tryz.func44 rfl rfl rfl (by kernel_rfl) rfl fun K=>?_
  (repeat' (first|with_reducible (first|refine zA fun Kn hK=>?_|refine zB (by kernel_rfl) ?_|refine Nx.go ?_|go_step)|(refine ⟨_,h1,?_⟩)|with_reducible (first|refine zI ?_|refine zJ ?_|refine zK ?_ ?_|refine zL ?_ ?_|refine zR (by kernel_rfl) ?_)|simp (maxSteps:=9999999) (disch:=omega) only [wq]|(with_reducible refine zM (fun hb=>?_) (fun hb=>?_) <;> (try simp only [hb]))|(with_reducible refine And.intro (by first|omega|(simp;done)|(simp;omega)) ?_)|simp (maxSteps:=9999999) (implicitDefEqProofs:=false) only [go_sem,hb1,int_beqL,List.length_map,lE,t0,d0,u0,rep20,List.cons_append,List.nil_append,List.append_assoc,List.append_nil]|fail))
  all_goals rfl
theorem get_w1 {b:List UInt8} {E:List Nat} {e:Int} (hl:b.length=32) (he:e≠0) (lE:E.length=5) (h1:Spec Tryz.prog G 79 [.c (bytesD (ownB b))] (.many [.g (E.map nD),.c (.v (.int .i64 e))])) :
    Spec Tryz.prog G 44 [.c (bytesD b)] (.many [.g (ptD [0,0,0,0,0] [0,0,0,0,0] [0,0,0,0,0] [0,0,0,0,0]),.c (.v (.int .i64 8))]):=by
  have hb1:(b.length==32)=true:=by simpa using hl
  have hb2:(e==0)=false:=by simpa using he
  have hg:((b.map bD).map C.d)[31]?=some (C.d (D.v (.int .u8 ((b.getD 31 0).toNat:Int)))):=by
    rw [List.getElem?_map,List.getElem?_map,topB_get hl]
    rfl
  have hset:=bytesC_set (l:=b) (k:=31) (v:=topB b%128) (by omega)
  rw [← show ownB b=b.set 31 (UInt8.ofNat (topB b%128)) from rfl] at hset
  have hT:topB b=(b.getD 31 0).toNat:=rfl
  rw [hT] at hset
  have lo:=ownB_len b
  rw [hl] at lo
  rw [bytesD,lo] at h1
  have z1:(b.map bD).take 32=b.map bD:=full_take (by rw [List.length_map,hl])
  have z2:((b.map bD).map C.d).take 32=(b.map bD).map C.d:=full_take (by rw [List.length_map,List.length_map,hl])
  have z3:((ownB b).map bD).take 32=(ownB b).map bD:=full_take (by rw [List.length_map,lo])
  have z4:(((ownB b).map bD).map C.d).take 32=((ownB b).map bD).map C.d:=full_take (by rw [List.length_map,List.length_map,lo])
  generalize ownB b=o at *
  have t0:=numsC_take lE;have u0:=nums_take lE;have d0:=numsC_drop lE
  refine spec_of Tryz.func44 rfl rfl rfl (by kernel_rfl) rfl fun K=>?_
  (repeat' (first|with_reducible (first|refine zA fun Kn hK=>?_|refine zB (by kernel_rfl) ?_|refine Nx.go ?_|go_step)|(refine ⟨none,?_⟩)|(refine ⟨_,h1,?_⟩)|with_reducible (first|refine zI ?_|refine zJ ?_|refine zK ?_ ?_|refine zL ?_ ?_|refine zR (by kernel_rfl) ?_)|simp (maxSteps:=9999999) (disch:=omega) only [wq]|(with_reducible refine zM (fun hb=>?_) (fun hb=>?_) <;> (try simp only [hb]))|(with_reducible refine And.intro (by first|omega|(simp;done)|(simp;omega)) ?_)|simp (maxSteps:=9999999) (implicitDefEqProofs:=false) only [go_sem,hb1,hb2,int_beqL,hg,hset,and_128,andNot_128,List.length_map,List.length_replicate,List.drop_replicate,hl,lo,z1,z2,z3,z4,lE,t0,d0,u0,rep20,List.cons_append,List.nil_append,List.append_assoc,List.append_nil]|fail))
  all_goals rfl
theorem get_w2 {b:List UInt8} {y yy a0 b0 c0 i0 u x x2 t1 t2:List Nat} {od ok zr:Bool} (hl:b.length=32) (ho:decide (128≤topB b)=od) (ly:y.length=5) (lyy:yy.length=5) (lx:x.length=5) (lx2:x2.length=5) (lt1:t1.length=5) (lt2:t2.length=5)
    (h1:Spec Tryz.prog G 79 [.c (bytesD (ownB b))] (.many [.g (y.map nD),.c (.v (.int .i64 0))]))
    (h2:Spec Tryz.prog G 80 [.c (.v (.int .u64 1))] (.one (.g [nD 1,nD 0,nD 0,nD 0,nD 0])))
    (h3:Spec Tryz.prog G 81 [.g (y.map nD),.g (y.map nD)] (.one (.g (yy.map nD))))
    (h4:Spec Tryz.prog G 82 [.g (yy.map nD),.g [nD 1,nD 0,nD 0,nD 0,nD 0]] (.one (.g (a0.map nD))))
    (h5:Spec Tryz.prog G 83 [] (.one (.g (cD.map nD))))
    (h6:Spec Tryz.prog G 81 [.g (cD.map nD),.g (yy.map nD)] (.one (.g (b0.map nD))))
    (h7:Spec Tryz.prog G 84 [.g (b0.map nD),.g [nD 1,nD 0,nD 0,nD 0,nD 0]] (.one (.g (c0.map nD))))
    (h8:Spec Tryz.prog G 85 [.g (c0.map nD)] (.one (.g (i0.map nD))))
    (h9:Spec Tryz.prog G 81 [.g (a0.map nD),.g (i0.map nD)] (.one (.g (u.map nD))))
    (h10:Spec Tryz.prog G 86 [.g (u.map nD)] (.many [.g (x.map nD),.c (.v (.bool ok))]))
    (h11:Spec Tryz.prog G 87 [.g (x.map nD),.g zE] (.one (.c (.v (.bool zr)))))
    (h12:Spec Tryz.prog G 82 [.g zE,.g (x.map nD)] (.one (.g (x2.map nD))))
    (h13:Spec Tryz.prog G 81 [.g (x.map nD),.g (y.map nD)] (.one (.g (t1.map nD))))
    (h14:Spec Tryz.prog G 81 [.g (x2.map nD),.g (y.map nD)] (.one (.g (t2.map nD)))) :
    Spec Tryz.prog G 44 [.c (bytesD b)] (if ok&& !(od&&zr) then .many [.g (if od then ptD x2 y [1,0,0,0,0] t2 else ptD x y [1,0,0,0,0] t1),.c (.v (.int .i64 0))] else .many [.g (ptD [0,0,0,0,0] [0,0,0,0,0] [0,0,0,0,0] [0,0,0,0,0]),.c (.v (.int .i64 8))]):=by
  have hb1:(b.length==32)=true:=by simpa using hl
  have hg:((b.map bD).map C.d)[31]?=some (C.d (D.v (.int .u8 ((b.getD 31 0).toNat:Int)))):=by
    rw [List.getElem?_map,List.getElem?_map,topB_get hl]
    rfl
  have hset:=bytesC_set (l:=b) (k:=31) (v:=topB b%128) (by omega)
  rw [← show ownB b=b.set 31 (UInt8.ofNat (topB b%128)) from rfl] at hset
  have hT:topB b=(b.getD 31 0).toNat:=rfl
  rw [hT] at hset
  have lo:=ownB_len b
  rw [hl] at lo
  rw [bytesD,lo] at h1
  have hod:decide (128≤(b.getD 31 0).toNat)=od:=ho
  have z1:(b.map bD).take 32=b.map bD:=full_take (by rw [List.length_map,hl])
  have z2:((b.map bD).map C.d).take 32=(b.map bD).map C.d:=full_take (by rw [List.length_map,List.length_map,hl])
  have z3:((ownB b).map bD).take 32=(ownB b).map bD:=full_take (by rw [List.length_map,lo])
  have z4:(((ownB b).map bD).map C.d).take 32=((ownB b).map bD).map C.d:=full_take (by rw [List.length_map,List.length_map,lo])
  generalize ownB b=o at *
  clear ho hT
  generalize cD=dd at *
  have t0:=numsC_take ly;have u0:=nums_take ly;have d0:=numsC_drop ly
  have t1:=numsC_take lyy;have u1:=nums_take lyy;have d1:=numsC_drop lyy
  have t2:=numsC_take lx;have u2:=nums_take lx;have d2:=numsC_drop lx
  have t3:=numsC_take lx2;have u3:=nums_take lx2;have d3:=numsC_drop lx2
  have t4:=numsC_take lt1;have u4:=nums_take lt1;have d4:=numsC_drop lt1
  have t5:=numsC_take lt2;have u5:=nums_take lt2;have d5:=numsC_drop lt2
  cases ok <;> cases od <;> cases zr <;> simp only [Bool.and_true,Bool.and_false,Bool.not_true,Bool.not_false,Bool.false_eq_true,if_true,if_false]
  all_goals
    refine spec_of Tryz.func44 rfl rfl rfl (by kernel_rfl) rfl fun K=>?_
    (repeat' (first|with_reducible (first|refine zA fun Kn hK=>?_|refine zB (by kernel_rfl) ?_|refine Nx.go ?_|go_step)|(refine ⟨none,?_⟩)|(refine ⟨_,h1,?_⟩)|(refine ⟨_,h2,?_⟩)|(refine ⟨_,h3,?_⟩)|(refine ⟨_,h4,?_⟩)|(refine ⟨_,h5,?_⟩)|(refine ⟨_,h6,?_⟩)|(refine ⟨_,h7,?_⟩)|(refine ⟨_,h8,?_⟩)|(refine ⟨_,h9,?_⟩)|(refine ⟨_,h10,?_⟩)|(refine ⟨_,h11,?_⟩)|(refine ⟨_,h12,?_⟩)|(refine ⟨_,h13,?_⟩)|(refine ⟨_,h14,?_⟩)|with_reducible (first|refine zI ?_|refine zJ ?_|refine zK ?_ ?_|refine zL ?_ ?_|refine zR (by kernel_rfl) ?_)|simp (maxSteps:=9999999) (disch:=omega) only [wq]|(with_reducible refine zM (fun hb=>?_) (fun hb=>?_) <;> (try simp only [hb]))|(with_reducible refine And.intro (by first|omega|(simp;done)|(simp;omega)) ?_)|simp (maxSteps:=9999999) (implicitDefEqProofs:=false) only [go_sem,hb1,int_beqL,hg,hset,and_128,andNot_128,hod,List.map_append,List.length_append,List.length_map,Nat.reduceAdd,tk5,dp5,tk10,tk15,tk20,dp10,dp15,dp20,List.length_replicate,List.drop_replicate,hl,lo,z1,z2,z3,z4,ly,lyy,lx,lx2,lt1,lt2,t0,d0,u0,t1,d1,u1,t2,d2,u2,t3,d3,u3,t4,d4,u4,t5,d5,u5,rep20,List.cons_append,List.nil_append,List.append_assoc,List.append_nil]|fail))
  all_goals rfl
end
end Go.Proofs.YtdakeodebgggfaaGreatDoor
namespace Go.Proofs.YtdakeodebgggfaaGreatDoor
open Go.RowKit
section
theorem g_negof {a:F} (h:a+1=0):a= -1:=by grobner
theorem g_z1e {d z e:F} (hz:z=0) (h:d*(z*z)+e=0):e=z:=by grobner
theorem g_z1 {d:F} (h:d*(0*0)+1=0):(1:F)=0:=g_z1e rfl h
theorem g_onof {d x y u:F} (h:x*x=(y*y-1)*u) (hi:(d*(y*y)+1)*u=1):y*y-x*x=1+d*x*x*y*y:=by grobner
theorem g_ofon {d x y u:F} (h:y*y-x*x=1+d*x*x*y*y) (hi:(d*(y*y)+1)*u=1):x*x=(y*y-1)*u:=by grobner
theorem g_negsq {x:F}:(0-x)*(0-x)=x*x:=by grobner
end
theorem fpow_powm (a:F) {n:Nat} (h:n<2^256):fpow a n=toF (powm pP 256 a.val n):=F.ext (by rw [fpow_val,toF_val,powm_eq _ _ _ h,Nat.mod_mod])
def uF (y:F):F:=(y*y-1)*finv (dF*(y*y)+1)
theorem dyy_ne (y:F):dF*(y*y)+1≠0:=fun h=>by
  have h1:dF*(y*y)=iF*iF:=by rw [iF_sq];exact g_negof h
  have h2:=no_sq h1
  subst h2
  exact one_ne (g_z1 h)
theorem on_of {x y:F} (h:x*x=uF y):On x y:=by
  have hi:=mul_inv (dyy_ne y)
  exact g_onof h hi
theorem uF_of {x y:F} (h:On x y):x*x=uF y:=g_ofon h (mul_inv (dyy_ne y))
theorem sq_neg (x:F):(0-x)*(0-x)=x*x:=g_negsq
def yB (b:List UInt8):F:=toF (leV b%2^255)
def oddB (b:List UInt8):Bool:=decide (2^255≤leV b)
def canB (b:List UInt8):Bool:=decide (b.length=32)&&decide (leV b%2^255<pP)
def decOk (b:List UInt8):Bool:=canB b&&(rootOk (uF (yB b))&& !(oddB b&&decide (rootF (uF (yB b))=0)))
def decP (b:List UInt8):F × F:=(if oddB b then 0-rootF (uF (yB b)) else rootF (uF (yB b)),yB b)
theorem rootF_sq {u:F} (h:rootOk u=true):rootF u*rootF u=u:=by
  have h1:rootC u*rootC u=u:=by simpa [rootOk] using h
  unfold rootF
  rw [if_pos h]
  split
  · rw [sq_neg,h1]
  · exact h1
theorem decP_on {b:List UInt8} (h:decOk b=true):OnP (decP b):=by
  simp only [decOk,Bool.and_eq_true] at h
  have h1:=rootF_sq h.2.1
  refine on_of ?_
  show (if oddB b then _ else _)*(if oddB b then _ else _)=uF (yB b)
  split
  · rw [sq_neg,h1]
  · exact h1
def yL (b:List UInt8):List Nat:=getL (ownB b)
def uL (y:List Nat):List Nat:=mulX (subX (mulX y y) [1,0,0,0,0]) (invX (addX (mulX cD (mulX y y)) [1,0,0,0,0]))
def xL (b:List UInt8):List Nat:=if oddB b then subX [0,0,0,0,0] (rD (uL (yL b))) else rD (uL (yL b))
def decPL (b:List UInt8):PL:=⟨xL b,yL b,[1,0,0,0,0],mulX (xL b) (yL b)⟩
theorem uL_ok {y:List Nat} (hy:El y):El (uL y)∧elF (uL y)=uF (elF y):=by
  have h1:=mulE_ok hy hy
  have h2:=subE_m (G:=fun _=>none) _ _ h1.1 one_el.1
  have h3:=mulE_ok cD_ok.1 h1.1
  have h4:=addE_m (G:=fun _=>none) _ _ h3.1 one_el.1
  have h5:=invX_ok h4.1
  have h6:=mulE_ok h2.1 h5.1
  refine ⟨h6.1,?_⟩
  rw [uL,h6.2,h2.2.1,h5.2,h4.2.1,h3.2,h1.2,cD_ok.2,one_el.2]
  rfl
theorem yL_ok {b:List UInt8} (h:canB b=true):El (yL b)∧elF (yL b)=yB b∧getErr (ownB b)=0:=by
  simp only [canB,Bool.and_eq_true,decide_eq_true_eq] at h
  have hv:=ownB_val h.1
  have e:yL b=lim51 (leV b%2^255):=by
    rw [yL,getL,if_pos ⟨by rw [ownB_len,h.1],by rw [hv];exact h.2⟩,hv]
  refine ⟨by rw [e];exact (lim51_prop _).el,by rw [e,elF_lim (Nat.mod_lt _ (Nat.pow_pos (by omega)))];rfl,?_⟩
  rw [getErr,ownB_len,h.1,if_neg (by omega),if_neg (by omega),if_pos (by rw [hv];exact h.2)]
theorem xL_ok {b:List UInt8} (h:canB b=true):El (xL b)∧elF (xL b)=(decP b).1:=by
  obtain ⟨h1,h2,_⟩:=yL_ok h
  obtain ⟨h3,h4⟩:=uL_ok h1
  obtain ⟨h5,h6⟩:=rD_ok h3
  rw [h4,h2] at h6
  unfold xL decP
  dsimp only
  split
  · have h7:=subE_m (G:=fun _=>none) _ _ zeroE.1 h5
    exact ⟨h7.1,by rw [h7.2.1,h6,zeroE.2]⟩
  · exact ⟨h5,h6⟩
theorem decPL_st {b:List UInt8} (h:decOk b=true):St (decPL b) (decP b):=by
  have hc:canB b=true:=by simp only [decOk,Bool.and_eq_true] at h;exact h.1
  obtain ⟨h1,h2⟩:=xL_ok hc
  obtain ⟨h3,h4,_⟩:=yL_ok hc
  have h5:=mulE_ok h1 h3
  refine ⟨⟨h1,h3,one_el.1,h5.1⟩,?_⟩
  show Ext (elF (xL b)) (elF (yL b)) (elF [1,0,0,0,0]) (elF (mulX (xL b) (yL b))) (decP b)
  rw [h5.2,h2,h4,one_el.2]
  exact ext_of (decP_on h)
def decErr (b:List UInt8):Int:=if b.length=32 then 8 else getErr b
section
variable {G:Nat→Option (List D)}
theorem getP_m (b:List UInt8):Spec Tryz.prog G 44 [.c (bytesD b)] (if decOk b then .many [.g (decPL b).D,.c (.v (.int .i64 0))] else .many [.g (ptD [0,0,0,0,0] [0,0,0,0,0] [0,0,0,0,0] [0,0,0,0,0]),.c (.v (.int .i64 (decErr b)))]):=by
  have hgl: ∀ c:List UInt8,(getL c).length=5:=fun c=>by
    unfold getL
    split <;> rfl
  by_cases hl:b.length=32
  · have he:decErr b=8:=if_pos hl
    rw [he]
    cases hc:canB b with
    | false =>
      have hd:decOk b=false:=by rw [decOk,hc];rfl
      rw [hd,if_neg (by simp)]
      refine get_w1 hl ?_ (hgl _) (getE_m (ownB b))
      have: ¬ leV b%2^255<pP:=by
        simp only [canB,hl,decide_true,Bool.true_and,decide_eq_false_iff_not] at hc
        exact hc
      rw [getErr,ownB_len,hl,if_neg (by omega),if_neg (by omega),ownB_val hl,if_neg this]
      decide
    | true =>
      obtain ⟨h1,h2,h3⟩:=yL_ok hc
      have g:=getE_m (G:=G) (ownB b)
      rw [h3] at g
      have m1:=mulE_m (G:=G) _ _ h1 h1
      have m2:=subE_m (G:=G) _ _ m1.1 one_el.1
      have m3:=mulE_m (G:=G) _ _ cD_ok.1 m1.1
      have m4:=addE_m (G:=G) _ _ m3.1 one_el.1
      have m5:=invX_ok m4.1
      have m6:=mulE_m (G:=G) _ _ m2.1 m5.1
      have u:=uL_ok h1
      have r:=rD_ok u.1
      have rm:=rootE_m (G:=G) _ u.1
      have sz:=sameE_m (G:=G) _ _ r.1 zeroE.1
      have ng:=subE_m (G:=G) _ _ zeroE.1 r.1
      have t1:=mulE_m (G:=G) _ _ r.1 h1
      have t2:=mulE_m (G:=G) _ _ ng.1 h1
      rw [show mulX (subX (mulX (yL b) (yL b)) [1,0,0,0,0]) (invX (addX (mulX cD (mulX (yL b) (yL b))) [1,0,0,0,0]))=uL (yL b) from rfl] at m6
      have hd:decOk b=(rootOk (elF (uL (yL b)))&& !(oddB b&&decide (elF (rD (uL (yL b)))=elF [0,0,0,0,0]))):=by
        rw [decOk,hc,Bool.true_and,r.2,u.2,h2,zeroE.2]
      have hD:(decPL b).D=if oddB b then ptD (subX [0,0,0,0,0] (rD (uL (yL b)))) (yL b) [1,0,0,0,0] (mulX (subX [0,0,0,0,0] (rD (uL (yL b)))) (yL b)) else ptD (rD (uL (yL b))) (yL b) [1,0,0,0,0] (mulX (rD (uL (yL b))) (yL b)):=by
        show ptD (xL b) (yL b) [1,0,0,0,0] (mulX (xL b) (yL b))=_
        rw [xL]
        cases oddB b
        · rw [if_neg (by simp),if_neg (by simp)]
        · rw [if_pos rfl,if_pos rfl]
      have ho:decide (128≤topB b)=oddB b:=odd_top hl
      rw [show getL (ownB b)=yL b from rfl] at g
      have hyl:=h1.1
      rw [hd,hD]
      clear hd hD h2 h3 hc he u
      generalize decide (elF (rD (uL (yL b)))=elF [0,0,0,0,0])=zr at *
      generalize rootOk (elF (uL (yL b)))=ok at *
      generalize oddB b=od at *
      generalize mulX (yL b) (yL b)=YY at *
      generalize rD (uL (yL b))=X at *
      generalize uL (yL b)=U at *
      generalize yL b=Y at *
      generalize subX YY [1,0,0,0,0]=A0 at *
      generalize mulX cD YY=B0 at *
      have mi:=invE_m (G:=G) _ m4.1
      generalize addX B0 [1,0,0,0,0]=C0 at *
      generalize invX C0=I0 at *
      generalize subX [0,0,0,0,0] X=X2 at *
      generalize mulX X2 Y=T2 at *
      generalize mulX X Y=T1 at *
      exact get_w2 hl ho hyl m1.1.1 r.1.1 ng.1.1 t1.1.1 t2.1.1 g (of5_m 1 (by omega)).2.2 m1.2.2 m2.2.2 curve_m m3.2.2 m4.2.2 mi m6.2.2 rm sz ng.2.2 t1.2.2 t2.2.2
  · have hd:decOk b=false:=by
      have:canB b=false:=by simp [canB,hl]
      rw [decOk,this]
      rfl
    have he:decErr b=getErr b:=if_neg hl
    rw [hd,if_neg (by simp),he]
    exact get_bad hl (hgl b) (getE_m b)
end
def yBase:F:=toF 46316835694926478169428394003475163141307993866256225615783033603165251855960
def uBase:F:=toF 26187595835145689230469591415084376402084551887632582719101735842039498021991
def xBase:F:=toF 15112221349535400772501151409588531511454012693041857206046113283949847762202
def pB:F × F:=(xBase,yBase)
theorem y45:toF 4*finv (toF 5)=yBase:=by
  rw [inv_eq (a:=toF 5) (b:=toF 11579208923731619542357098500868790785326998466564056403945758400791312963990) (by decide +kernel)]
  decide +kernel
theorem uF_base:uF yBase=uBase:=by
  rw [uF,inv_eq (a:=dF*(yBase*yBase)+1) (b:=toF 36615873626505047815401509688526422966742341385236691817538452001808239043262) (by decide +kernel)]
  decide +kernel
theorem rootA_base:rootA uBase=toF 42783823269122696939284341094755422415180979639778424813682678720006717057747:=by
  rw [rootA,fpow_powm _ (by decide +kernel)]
  decide +kernel
theorem root2:fpow (toF 2) (2^253-5)=iF:=by
  rw [fpow_powm _ (by decide +kernel)]
  decide +kernel
theorem rootC_base:rootC uBase=toF 42783823269122696939284341094755422415180979639778424813682678720006717057747:=by
  rw [rootC,rootB,root2,rootA_base]
  decide +kernel
theorem rootOk_base:rootOk uBase=true:=by
  rw [rootOk,rootC_base]
  decide +kernel
theorem rootF_base:rootF uBase=xBase:=by
  rw [rootF,rootOk_base,rootC_base]
  decide +kernel
def bB:List UInt8:=leB yBase.val
theorem bB_val:leV bB=yBase.val:=leV_leB yBase.lt256
theorem bB_y:yB bB=yBase:=by
  rw [yB,bB_val]
  decide +kernel
theorem bB_odd:oddB bB=false:=by
  rw [oddB,bB_val]
  decide +kernel
theorem bB_ok:decOk bB=true:=by
  have h1:canB bB=true:=by
    rw [canB,bB_val,show bB.length=32 from leB_len _]
    decide +kernel
  rw [decOk,h1,bB_y,uF_base,rootOk_base,bB_odd]
  rfl
theorem bB_p:decP bB=pB:=by
  rw [decP,bB_odd,bB_y,uF_base,rootF_base]
  rfl
theorem pB_on:OnP pB:=bB_p▸decP_on bB_ok
def PLB:PL:=decPL bB
theorem PLB_st:St PLB pB:=bB_p▸decPL_st bB_ok
theorem k4_el:El [4,0,0,0,0]∧elF [4,0,0,0,0]=toF 4:=⟨⟨rfl,by simp⟩,by decide +kernel⟩
theorem k5_el:El [5,0,0,0,0]∧elF [5,0,0,0,0]=toF 5:=⟨⟨rfl,by simp⟩,by decide +kernel⟩
section
variable {G:Nat→Option (List D)}
theorem base_w {i y:List Nat} {b:List UInt8} {P:List D} {e:Int} (lb:b.length=32) (lP:P.length=20)
    (h1:Spec Tryz.prog G 80 [.c (.v (.int .u64 4))] (.one (.g [nD 4,nD 0,nD 0,nD 0,nD 0])))
    (h2:Spec Tryz.prog G 80 [.c (.v (.int .u64 5))] (.one (.g [nD 5,nD 0,nD 0,nD 0,nD 0])))
    (h3:Spec Tryz.prog G 85 [.g [nD 5,nD 0,nD 0,nD 0,nD 0]] (.one (.g (i.map nD))))
    (h4:Spec Tryz.prog G 81 [.g [nD 4,nD 0,nD 0,nD 0,nD 0],.g (i.map nD)] (.one (.g (y.map nD))))
    (h5:Spec Tryz.prog G 89 [.g (y.map nD)] (.one (.g (b.map bD))))
    (h6:Spec Tryz.prog G 44 [.c (bytesD b)] (.many [.g P,.c (.v (.int .i64 e))])) :
    Spec Tryz.prog G 46 [] (.one (.g P)):=by
  obtain ⟨p1,p2,p3⟩:=cd_facts lP
  have z3:(b.map bD).take 32=b.map bD:=full_take (by rw [List.length_map,lb])
  have z4:((b.map bD).map C.d).take 32=(b.map bD).map C.d:=full_take (by rw [List.length_map,List.length_map,lb])
  rw [bytesD,lb] at h6
  refine spec_of Tryz.func46 rfl rfl rfl (by kernel_rfl) rfl fun K=>?_
  (repeat' (first|with_reducible (first|refine zA fun Kn hK=>?_|refine zB (by kernel_rfl) ?_|refine Nx.go ?_|go_step)|(refine ⟨none,?_⟩)|(refine ⟨_,h1,?_⟩)|(refine ⟨_,h2,?_⟩)|(refine ⟨_,h3,?_⟩)|(refine ⟨_,h4,?_⟩)|(refine ⟨_,h5,?_⟩)|(refine ⟨_,h6,?_⟩)|with_reducible (first|refine zI ?_|refine zJ ?_|refine zK ?_ ?_|refine zL ?_ ?_|refine zR (by kernel_rfl) ?_)|simp (maxSteps:=9999999) (disch:=omega) only [wq]|(with_reducible refine zM (fun hb=>?_) (fun hb=>?_) <;> (try simp only [hb]))|(with_reducible refine And.intro (by first|omega|(simp;done)|(simp;omega)) ?_)|simp (maxSteps:=9999999) (implicitDefEqProofs:=false) only [go_sem,List.length_map,List.length_replicate,List.drop_replicate,lb,lP,p1,p2,p3,z3,z4,List.append_nil]|fail))
theorem getP_ok {b:List UInt8} (h:decOk b=true):Spec Tryz.prog G 44 [.c (bytesD b)] (.many [.g (decPL b).D,.c (.v (.int .i64 0))]):=by
  have hg:=getP_m (G:=G) b
  rwa [h,if_pos rfl] at hg
theorem baseP_m:Spec Tryz.prog G 46 [] (.one (.g PLB.D)):=by
  have hi:=invX_ok k5_el.1
  have hm:=mulE_m (G:=G) _ _ k4_el.1 hi.1
  have hb:=bytesE_m (G:=G) _ hm.1.1 hm.1.big
  have he:(elF (mulX [4,0,0,0,0] (invX [5,0,0,0,0])))=yBase:=by rw [hm.2.1,hi.2,k4_el.2,k5_el.2,y45]
  rw [he,show leB yBase.val=bB from rfl] at hb
  have hg:=getP_ok (G:=G) bB_ok
  rw [show decPL bB=PLB from rfl] at hg
  have hl:bB.length=32:=leB_len _
  have hlP:=PLB_st.ok.len
  generalize PLB.D=P at *
  generalize mulX [4,0,0,0,0] (invX [5,0,0,0,0])=Y at *
  generalize bB=b at *
  exact base_w hl hlP (of5_m 4 (by omega)).2.2 (of5_m 5 (by omega)).2.2 (invE_m _ k5_el.1) hm.2.2 hb hg
end
end Go.Proofs.YtdakeodebgggfaaGreatDoor
namespace Go.Proofs.YtdakeodebgggfaaGreatDoor
open Go.RowKit
def setTop (l:List UInt8):List UInt8:=l.set 31 (UInt8.ofNat ((l.getD 31 0).toNat%128+128))
@[go_sem] theorem or_128 {y:UInt8}:orI .u8 (y.toNat:Int) 128=((y.toNat%128+128:Nat):Int):=by
  have h:=byte_cases (P:=fun n=>orI .u8 (n:Int) 128==((n%128+128:Nat):Int)) (by decide +kernel) y.toNat_lt
  simpa using h
def encB (P:F × F):List UInt8:=if oddF P.1 then setTop (leB P.2.val) else leB P.2.val
theorem encB_len (P:F × F):(encB P).length=32:=by
  unfold encB
  split
  · rw [setTop,List.length_set,leB_len]
  · exact leB_len _
section
variable {G:Nat→Option (List D)}
theorem bytesP_w {x y z t i a c:List Nat} {b:List UInt8} {od:Bool} (lx:x.length=5) (ly:y.length=5) (lz:z.length=5) (lt:t.length=5) (li:i.length=5) (lb:b.length=32)
    (h1:Spec Tryz.prog G 85 [.g (z.map nD)] (.one (.g (i.map nD))))
    (h2:Spec Tryz.prog G 81 [.g (y.map nD),.g (i.map nD)] (.one (.g (a.map nD))))
    (h3:Spec Tryz.prog G 89 [.g (a.map nD)] (.one (.g (b.map bD))))
    (h4:Spec Tryz.prog G 81 [.g (x.map nD),.g (i.map nD)] (.one (.g (c.map nD))))
    (h5:Spec Tryz.prog G 95 [.g (c.map nD)] (.one (.c (.v (.bool od))))) :
    Spec Tryz.prog G 54 [.g (ptD x y z t)] (.one (.g ((if od then setTop b else b).map bD))):=by
  have hg:((b.map bD).map C.d)[31]?=some (C.d (D.v (.int .u8 ((b.getD 31 0).toNat:Int)))):=by
    rw [List.getElem?_map,List.getElem?_map,topB_get lb]
    rfl
  have hset:=bytesC_set (l:=b) (k:=31) (v:=(b.getD 31 0).toNat%128+128) (by omega)
  rw [← show setTop b=b.set 31 (UInt8.ofNat ((b.getD 31 0).toNat%128+128)) from rfl] at hset
  have ls:(setTop b).length=32:=by rw [setTop,List.length_set,lb]
  have z1:(b.map bD).take 32=b.map bD:=full_take (by rw [List.length_map,lb])
  have z2:((b.map bD).map C.d).take 32=(b.map bD).map C.d:=full_take (by rw [List.length_map,List.length_map,lb])
  have z3:((setTop b).map bD).take 32=(setTop b).map bD:=full_take (by rw [List.length_map,ls])
  have z4:(((setTop b).map bD).map C.d).take 32=((setTop b).map bD).map C.d:=full_take (by rw [List.length_map,List.length_map,ls])
  generalize setTop b=o at *
  have t0:=numsC_take li;have u0:=nums_take li;have d0:=numsC_drop li
  cases od <;> simp only [Bool.false_eq_true,if_true,if_false]
  all_goals
    refine spec_of Tryz.func54 rfl rfl rfl (by kernel_rfl) rfl fun K=>?_
    (repeat' (first|with_reducible (first|refine zA fun Kn hK=>?_|refine zB (by kernel_rfl) ?_|refine Nx.go ?_|go_step)|(refine ⟨_,h1,?_⟩)|(refine ⟨_,h2,?_⟩)|(refine ⟨_,h3,?_⟩)|(refine ⟨_,h4,?_⟩)|(refine ⟨_,h5,?_⟩)|with_reducible (first|refine zI ?_|refine zJ ?_|refine zK ?_ ?_|refine zL ?_ ?_|refine zR (by kernel_rfl) ?_)|simp (maxSteps:=9999999) (disch:=omega) only [wq]|(with_reducible refine zM (fun hb=>?_) (fun hb=>?_) <;> (try simp only [hb]))|(with_reducible refine And.intro (by first|omega|(simp;done)|(simp;omega)) ?_)|simp (maxSteps:=9999999) (implicitDefEqProofs:=false) only [go_sem,hg,hset,List.map_append,List.length_append,List.length_map,Nat.reduceAdd,List.append_assoc,tk5,dp5,tk10,tk15,tk20,dp10,dp15,dp20,List.length_replicate,List.drop_replicate,lx,ly,lz,lt,li,lb,ls,z1,z2,z3,z4,t0,d0,u0,List.append_nil]|fail))
theorem bytesP_m {p:PL} {P:F × F} (h:St p P):Spec Tryz.prog G 54 [.g p.D] (.one (.g ((encB P).map bD))):=by
  have hi:=invX_ok h.ok.z
  have hy:=mulE_m (G:=G) _ _ h.ok.y hi.1
  have hx:=mulE_m (G:=G) _ _ h.ok.x hi.1
  have hb:=bytesE_m (G:=G) _ hy.1.1 hy.1.big
  have ho:=oddE_m (G:=G) _ hx.1
  rw [hy.2.1,hi.2,ext_y h.ext] at hb
  rw [hx.2.1,hi.2,ext_x h.ext] at ho
  have he:encB P=if oddF P.1 then setTop (leB P.2.val) else leB P.2.val:=rfl
  rw [he]
  have lb:=leB_len P.2.val
  generalize leB P.2.val=b at *
  generalize oddF P.1=od at *
  exact bytesP_w h.ok.x.1 h.ok.y.1 h.ok.z.1 h.ok.t.1 hi.1.1 lb (invE_m _ h.ok.z) hy.2.2 hb hx.2.2 ho
end
end Go.Proofs.YtdakeodebgggfaaGreatDoor
namespace Go.Proofs.YtdakeodebgggfaaGreatDoor
open Go.RowKit
def vV:List Nat→Nat
  | []=>0
  | x::l=>x+65536*vV l
theorem vV_set: ∀ {l:List Nat} {j d:Nat},j<l.length→vV (l.set j d)+65536^j*l.getD j 0=vV l+65536^j*d
  | [],j,d,h=>by simp at h
  | x::l,0,d,h=>by
    simp only [List.set_cons_zero,vV,Nat.pow_zero,List.getD_cons_zero]
    omega
  | x::l,j+1,d,h=>by
    have ih:=vV_set (l:=l) (j:=j) (d:=d) (by simpa using h)
    simp only [List.set_cons_succ,vV,Nat.pow_succ,List.getD_cons_succ]
    generalize 65536^j=P at *
    generalize l.getD j 0=c at *
    have e1:P*65536*c=65536*(P*c):=by rw [Nat.mul_comm P,Nat.mul_assoc]
    have e2:P*65536*d=65536*(P*d):=by rw [Nat.mul_comm P,Nat.mul_assoc]
    omega
def dg:Nat→Nat→List Nat
  | 0,_=>[]
  | n+1,v=>v%65536::dg n (v/65536)
theorem dg_len: ∀ n v,(dg n v).length=n
  | 0,v=>rfl
  | n+1,v=>by rw [dg,List.length_cons,dg_len]
theorem dg_lt: ∀ n v,∀ x∈dg n v,x<65536
  | 0,v=>by simp [dg]
  | n+1,v=>by
    intro x hx
    rw [dg,List.mem_cons] at hx
    rcases hx with h|h
    · rw [h];exact Nat.mod_lt _ (by omega)
    · exact dg_lt n _ x h
theorem dg_vV: ∀ l:List Nat,(∀ x∈l,x<65536)→dg l.length (vV l)=l
  | [],_=>rfl
  | x::l,h=>by
    have hx:=h x (List.mem_cons_self)
    rw [List.length_cons,dg,vV,show (x+65536*vV l)%65536=x by omega,show (x+65536*vV l)/65536=vV l by omega,dg_vV l fun y hy=>h y (List.mem_cons_of_mem _ hy)]
theorem vV_dg: ∀ n v,vV (dg n v)=v%65536^n
  | 0,v=>by simp [dg,vV,Nat.mod_one]
  | n+1,v=>by rw [dg,vV,vV_dg,Nat.pow_succ,Nat.mul_comm (65536^n),Nat.mod_mul]
theorem dg_get: ∀ {n v j:Nat},j<n→(dg n v).getD j 0=v/65536^j%65536
  | 0,v,j,h=>by omega
  | n+1,v,0,h=>by rw [dg,List.getD_cons_zero,Nat.pow_zero,Nat.div_one]
  | n+1,v,j+1,h=>by rw [dg,List.getD_cons_succ,dg_get (by omega),Nat.div_div_eq_div_mul,Nat.pow_succ,Nat.mul_comm 65536]
theorem vV_lt: ∀ {l:List Nat},(∀ x∈l,x<65536)→vV l<65536^l.length
  | [],_=>by simp [vV]
  | x::l,h=>by
    have h1:=vV_lt (l:=l) fun y hy=>h y (List.mem_cons_of_mem _ hy)
    have hx:=h x List.mem_cons_self
    rw [vV,List.length_cons,Nat.pow_succ]
    omega
theorem all_getD {l:List Nat} {B:Nat} (hB:0<B):(∀ x∈l,x<B)↔ ∀ j,j<l.length→l.getD j 0<B:=by
  constructor
  · intro h j hj
    rw [List.getD_eq_getElem?_getD,List.getElem?_eq_getElem hj]
    exact h _ (List.getElem_mem hj)
  · intro h x hx
    obtain ⟨j,hj,rfl⟩:=List.mem_iff_getElem.1 hx
    have:=h j hj
    rw [List.getD_eq_getElem?_getD,List.getElem?_eq_getElem hj] at this
    exact this
def InD (l:List Nat) (x:Nat × List Nat × Nat):Prop:=x.1≤16∧x.2.1.length=16∧x.2.2<1152921504606846976∧vV x.2.1+x.2.2*65536^x.1=vV l∧(∀ j,j<x.1→x.2.1.getD j 0<65536)∧(∀ j,x.1≤j→x.2.1.getD j 0=l.getD j 0)
theorem InD.zero {l:List Nat} (h:l.length=16):InD l (0,l,0):=⟨by dsimp only;omega,h,by dsimp only;omega,by dsimp only;rw [Nat.zero_mul,Nat.add_zero],fun j h=>by dsimp only at h;omega,fun j _=>rfl⟩
theorem getD_set_eq {l:List Nat} {k d:Nat} (h:k<l.length):(l.set k d).getD k 0=d:=by simp [h]
theorem getD_set_ne {l:List Nat} {k j d:Nat} (h:k≠j):(l.set k d).getD j 0=l.getD j 0:=by
  rw [List.getD_eq_getElem?_getD,List.getD_eq_getElem?_getD,List.getElem?_set_ne h]
theorem InD.step {l r:List Nat} {k c x t:Nat} (h:InD l (k,r,c)) (hk:k<16) (hl:l.length=16) (hb: ∀ x∈l,x<1152921504606846976) (hx:x=r.getD k 0) (ht:t=x+c):t<2305843009213693952∧InD l (k+1,r.set k (t%65536),t/65536):=by
  obtain ⟨h1,h2,h3,h4,h5,h6⟩:=h
  dsimp only at h1 h2 h3 h4 h5 h6
  have hxb:x<1152921504606846976:=by
    rw [hx,h6 k (Nat.le_refl _)]
    exact (all_getD (by omega)).1 hb k (by omega)
  refine ⟨by omega,by dsimp only;omega,by dsimp only;rw [List.length_set];exact h2,by dsimp only;omega,?_,?_,?_⟩
  · dsimp only
    have hs:=vV_set (l:=r) (j:=k) (d:=t%65536) (by omega)
    rw [← hx] at hs
    rw [← h4,Nat.pow_succ]
    generalize 65536^k=P at *
    have hd:=Nat.div_add_mod t 65536
    generalize t/65536=q at *
    generalize t%65536=m at *
    subst ht
    have e1:P*(65536*q+m)=q*(P*65536)+P*m:=by rw [Nat.mul_add,← Nat.mul_assoc,Nat.mul_comm (P*65536)]
    rw [hd,Nat.mul_add] at e1
    have e2:=Nat.mul_comm P c
    omega
  · dsimp only
    intro j hj
    by_cases he:k=j
    · subst he
      rw [getD_set_eq (by omega)]
      exact Nat.mod_lt _ (by omega)
    · rw [getD_set_ne he]
      exact h5 j (by omega)
  · dsimp only
    intro j hj
    rw [getD_set_ne (by omega)]
    exact h6 j (by omega)
theorem InD.done {l r:List Nat} {c:Nat} (h:InD l (16,r,c)):r=dg 16 (vV l)∧c=vV l/65536^16:=by
  obtain ⟨h1,h2,h3,h4,h5,h6⟩:=h
  dsimp only at h1 h2 h3 h4 h5 h6
  have hd: ∀ x∈r,x<65536:=(all_getD (by omega)).2 fun j hj=>h5 j (by omega)
  have hlt:=vV_lt hd
  have hv:=dg_vV r hd
  rw [h2] at hlt hv
  have e1:vV l%65536^16=vV r:=by rw [← h4,Nat.add_mul_mod_self_right,Nat.mod_eq_of_lt hlt]
  refine ⟨?_,?_⟩
  · have:=vV_dg 16 (vV l)
    rw [e1] at this
    have h7:=dg_vV (dg 16 (vV l)) (dg_lt 16 _)
    rw [dg_len,this,hv] at h7
    exact h7
  · rw [← h4,Nat.add_mul_div_right _ _ (Nat.pow_pos (by omega)),Nat.div_eq_of_lt hlt,Nat.zero_add]
end Go.Proofs.YtdakeodebgggfaaGreatDoor
namespace Go.Proofs.YtdakeodebgggfaaGreatDoor
open Go.RowKit
theorem pow_256:(65536:Nat)^16=115792089237316195423570985008687907853269984665640564039457584007913129639936:=by decide +kernel
theorem pow_240:(65536:Nat)^15=1766847064778384329583297500742918515827483896875618958121606201292619776:=by decide +kernel
theorem pP_lit:pP=57896044618658097711785492504343953926634992332820282019728792003956564819949:=rfl
def nxt (v:Nat):Nat:=v%57896044618658097711785492504343953926634992332820282019728792003956564819968+19*(v/57896044618658097711785492504343953926634992332820282019728792003956564819968)
theorem nxt_mod (v:Nat):nxt v%pP=v%pP:=by
  unfold nxt
  have h:=Nat.div_add_mod v 57896044618658097711785492504343953926634992332820282019728792003956564819968
  generalize v/57896044618658097711785492504343953926634992332820282019728792003956564819968=q at *
  generalize v%57896044618658097711785492504343953926634992332820282019728792003956564819968=m at *
  have e:v=m+19*q+pP*q:=by rw [pP_lit];omega
  rw [e,Nat.add_mul_mod_self_left]
def topL (l:List Nat):Nat:=2*(vV l/65536^16)+(dg 16 (vV l)).getD 15 0/32768
def rndL (l:List Nat):List Nat:=((dg 16 (vV l)).set 15 ((dg 16 (vV l)).getD 15 0%32768)).set 0 (((dg 16 (vV l)).set 15 ((dg 16 (vV l)).getD 15 0%32768)).getD 0 0+19*topL l)
theorem rndL_len (l:List Nat):(rndL l).length=16:=by rw [rndL,List.length_set,List.length_set,dg_len]
theorem top_eq (l:List Nat):topL l=vV l/57896044618658097711785492504343953926634992332820282019728792003956564819968∧vV ((dg 16 (vV l)).set 15 ((dg 16 (vV l)).getD 15 0%32768))=vV l%57896044618658097711785492504343953926634992332820282019728792003956564819968:=by
  have h1:=vV_set (l:=dg 16 (vV l)) (j:=15) (d:=(dg 16 (vV l)).getD 15 0%32768) (by rw [dg_len];omega)
  have h2:=vV_dg 16 (vV l)
  have h3:=Nat.div_add_mod (vV l) (65536^16)
  have h4: ∀ x∈(dg 16 (vV l)).set 15 ((dg 16 (vV l)).getD 15 0%32768),x<65536:=fun x hx=>by
    rcases List.mem_or_eq_of_mem_set hx with h|h
    · exact dg_lt 16 _ x h
    · rw [h];omega
  have h6:vV ((dg 16 (vV l)).set 15 ((dg 16 (vV l)).getD 15 0%32768))<57896044618658097711785492504343953926634992332820282019728792003956564819968:=by
    have h7:(dg 16 (vV l)).set 15 ((dg 16 (vV l)).getD 15 0%32768)=((dg 16 (vV l)).take 15)++[(dg 16 (vV l)).getD 15 0%32768]:=by
      rw [List.set_eq_take_append_cons_drop,if_pos (by rw [dg_len];omega),List.drop_eq_nil_of_le (by rw [dg_len];omega)]
    have h8: ∀ (a:List Nat) (x:Nat),vV (a++[x])=vV a+65536^a.length*x:=fun a x=>by
      induction a with
      | nil=>simp [vV]
      | cons b a ih=>rw [List.cons_append,vV,vV,ih,List.length_cons,Nat.pow_succ,Nat.mul_add,← Nat.mul_assoc,Nat.mul_comm 65536 (65536^a.length)];omega
    have h9:((dg 16 (vV l)).take 15).length=15:=by rw [List.length_take,dg_len];rfl
    have h10:=vV_lt (l:=(dg 16 (vV l)).take 15) fun x hx=>dg_lt 16 _ x (List.mem_of_mem_take hx)
    rw [h7,h8,h9]
    clear h1 h2 h3 h4 h7 h8
    generalize vV (List.take 15 (dg 16 (vV l)))=u at *
    generalize (dg 16 (vV l)).getD 15 0=x at *
    rw [h9,pow_240] at h10
    rw [pow_240]
    have:x%32768<32768:=Nat.mod_lt _ (by omega)
    omega
  unfold topL
  rw [h2] at h1
  rw [pow_256,pow_240] at *
  generalize vV ((dg 16 (vV l)).set 15 ((dg 16 (vV l)).getD 15 0%32768))=u at *
  generalize (dg 16 (vV l)).getD 15 0=x at *
  generalize vV l=v at *
  generalize v/115792089237316195423570985008687907853269984665640564039457584007913129639936=c at *
  generalize v%115792089237316195423570985008687907853269984665640564039457584007913129639936=m at *
  have h5:v=57896044618658097711785492504343953926634992332820282019728792003956564819968*(2*c+x/32768)+u:=by omega
  generalize 2*c+x/32768=t at *
  clear h1 h2 h3 h4
  omega
theorem rnd_val (l:List Nat):vV (rndL l)=nxt (vV l):=by
  obtain ⟨h1,h2⟩:=top_eq l
  unfold rndL nxt
  rw [h1]
  have h3:=vV_set (l:=(dg 16 (vV l)).set 15 ((dg 16 (vV l)).getD 15 0%32768)) (j:=0) (d:=((dg 16 (vV l)).set 15 ((dg 16 (vV l)).getD 15 0%32768)).getD 0 0+19*(vV l/57896044618658097711785492504343953926634992332820282019728792003956564819968)) (by rw [List.length_set,dg_len];omega)
  rw [h2,Nat.pow_zero,Nat.one_mul,Nat.one_mul] at h3
  omega
def FitOk (l:List Nat):Prop:=l.length=16∧(∀ x∈l,x<1152921504606846976)∧vV l<130370302485407109521180524058200202307293977194619920040712988758680403184853549195737432064
theorem rnd_ok {l:List Nat} (h:FitOk l):FitOk (rndL l)∧topL l<2251799813685248:=by
  obtain ⟨h1,h2⟩:=top_eq l
  have ht:topL l<2251799813685248:=by
    rw [h1,Nat.div_lt_iff_lt_mul (by omega)]
    exact h.2.2
  refine ⟨⟨rndL_len l,fun x hx=>?_,?_⟩,ht⟩
  · rcases List.mem_or_eq_of_mem_set (show x∈List.set _ 0 _ from hx) with h3|h3
    · rcases List.mem_or_eq_of_mem_set h3 with h4|h4
      · have:=dg_lt 16 _ x h4;omega
      · rw [h4];omega
    · rw [h3,getD_set_ne (by omega),dg_get (by omega)]
      have:vV l/65536^0%65536<65536:=Nat.mod_lt _ (by omega)
      omega
  · rw [rnd_val,nxt]
    rw [h1] at ht
    generalize vV l/57896044618658097711785492504343953926634992332820282019728792003956564819968=q at *
    have:vV l%57896044618658097711785492504343953926634992332820282019728792003956564819968<57896044618658097711785492504343953926634992332820282019728792003956564819968:=Nat.mod_lt _ (by omega)
    omega
theorem vV_le {B:Nat}: ∀ {l:List Nat},(∀ x∈l,x<B)→vV l+B≤2*B*65536^l.length
  | [],_=>by simp only [vV,List.length_nil,Nat.pow_zero];omega
  | x::l,h=>by
    have h1:=vV_le (l:=l) fun y hy=>h y (List.mem_cons_of_mem _ hy)
    have hx:=h x List.mem_cons_self
    rw [vV,List.length_cons,Nat.pow_succ,← Nat.mul_assoc]
    generalize 2*B*65536^l.length=P at *
    omega
theorem fit_in {l:List Nat} (h1:l.length=16) (h2: ∀ x∈l,x<562949953421312):FitOk l:=by
  refine ⟨h1,fun x hx=>Nat.lt_trans (h2 x hx) (by omega),?_⟩
  have h:=vV_le h2
  rw [h1,pow_256] at h
  omega
theorem nxt_small {v:Nat} (h:v<130370302485407109521180524058200202307293977194619920040712988758680403184853549195737432064):nxt (nxt (nxt v))<57896044618658097711785492504343953926634992332820282019728792003956564819968:=by
  have h1:nxt v<57896044618658097711785492504343953926634992332820282019728792003956564819968+42784196460019712:=by
    unfold nxt
    omega
  generalize nxt v=u at *
  have h2:nxt u<57896044618658097711785492504343953926634992332820282019728792003956564819968:=by
    unfold nxt
    omega
  generalize nxt u=t at *
  unfold nxt
  omega
theorem last_ok {v:Nat} (h:v<57896044618658097711785492504343953926634992332820282019728792003956564819968):((dg 16 (v+19)).getD 15 0<32768→dg 16 v=dg 16 (v%pP))∧(32768≤(dg 16 (v+19)).getD 15 0→(dg 16 (v+19)).set 15 ((dg 16 (v+19)).getD 15 0-32768)=dg 16 (v%pP))∧(dg 16 (v+19)).getD 15 0<65536:=by
  have hg:(dg 16 (v+19)).getD 15 0=(v+19)/1766847064778384329583297500742918515827483896875618958121606201292619776:=by
    rw [dg_get (by omega),pow_240]
    omega
  have hp:=pP_lit
  refine ⟨fun h1=>?_,fun h1=>?_,by omega⟩
  · rw [hg] at h1
    rw [Nat.mod_eq_of_lt (by omega)]
  · have h2:v%pP=v-pP:=by
      rw [hg] at h1
      rw [Nat.mod_eq_sub_mod (by omega),Nat.mod_eq_of_lt (by omega)]
    have hs:=vV_set (l:=dg 16 (v+19)) (j:=15) (d:=(dg 16 (v+19)).getD 15 0-32768) (by rw [dg_len];omega)
    have hd: ∀ x∈(dg 16 (v+19)).set 15 ((dg 16 (v+19)).getD 15 0-32768),x<65536:=fun x hx=>by
      rcases List.mem_or_eq_of_mem_set hx with h|h
      · exact dg_lt 16 _ x h
      · rw [h];omega
    have hr:=dg_vV _ hd
    rw [List.length_set,dg_len] at hr
    have hu:vV ((dg 16 (v+19)).set 15 ((dg 16 (v+19)).getD 15 0-32768))=v%pP:=by
      clear hr hd
      rw [h2]
      rw [vV_dg,pow_256,pow_240,Nat.mod_eq_of_lt (by omega)] at hs
      generalize vV ((dg 16 (v+19)).set 15 ((dg 16 (v+19)).getD 15 0-32768))=u at *
      generalize (dg 16 (v+19)).getD 15 0=x at *
      omega
    rw [hu] at hr
    exact hr.symm
end Go.Proofs.YtdakeodebgggfaaGreatDoor
namespace Go.Proofs.YtdakeodebgggfaaGreatDoor
open Go.RowKit
def nxtN:Nat→Nat→Nat
  | 0,v=>v
  | k+1,v=>nxt (nxtN k v)
theorem nxtN_mod (v:Nat): ∀ k,nxtN k v%pP=v%pP
  | 0=>rfl
  | k+1=>by rw [nxtN,nxt_mod,nxtN_mod v k]
theorem W0:(0:Nat)%18446744073709551616=0:=rfl
theorem fit_m {G:Nat→Option (List D)} (l:List Nat) (hl:l.length=16) (hin: ∀ x∈l,x<562949953421312):Spec Tryz.prog G 100 [.g (l.map nD)] (.one (.g ((dg 16 (vV l%pP)).map nD))):=by
  have hF0:=fit_in hl hin
  have hsmall:=nxt_small hF0.2.2
  have hmod:=nxtN_mod (vV l) 3
  have hv0:vV l=nxtN 0 (vV l):=rfl
  have hn3:nxt (nxt (nxt (vV l)))=nxtN 3 (vV l):=rfl
  rw [hn3] at hsmall
  rw [← hmod]
  generalize hv:vV l=v at hsmall hmod hv0 ⊢
  have hlast:=last_ok hsmall
  generalize hN:nxtN 3 v=v3 at *
  have hdl:=dg_len 16 (v3%pP)
  generalize hD:dg 16 (v3%pP)=DD at *
  clear hmod hn3 hin
  obtain ⟨a1,a2,a3⟩:=cd_facts (l:=l.map nD) (n:=16) (by rw [List.length_map];exact hl)
  refine spec_of Tryz.func100 rfl rfl rfl (by kernel_rfl) rfl fun K=>?_
  (repeat' (first|with_reducible (first|refine zA fun Kn hK=>?_|refine zB (by kernel_rfl) ?_|refine Nx.go ?_|go_step)|fail|with_reducible (first|refine zI ?_|refine zJ ?_|refine zK ?_ ?_|refine zL ?_ ?_|refine zR (by kernel_rfl) ?_)|simp (maxSteps:=9999999) (disch:=omega) only [wq]|(with_reducible refine zM (fun hb=>?_) (fun hb=>?_) <;> (try simp only [hb]))|(with_reducible refine And.intro (by first|omega|(simp;done)|(simp;omega)) ?_)|simp (maxSteps:=9999999) (implicitDefEqProofs:=false) only [go_sem,List.length_map,hl,a1,a2,a3,List.append_nil]|fail))
  refine sound_loopR (fun x:{p:Nat × List Nat // p.1≤3∧FitOk p.2∧vV p.2=nxtN p.1 v}=>⟨[(1,vP 1 0),(2,vP 2 0),(3,vI x.1.1)],[(1,some ⟨61,(x.1.2.map nD).map C.d,true,false⟩),(2,some ⟨61,zeroOf Tryz.prog 61,true,false⟩)]⟩) (fun x=>3-x.1.1) ⟨(0,l),by omega,hF0,hv.trans hv0⟩ [] (by (iterate 2 ((try simp (maxSteps:=9999999) (implicitDefEqProofs:=false) only [go_sem,true_and]);(try simp (maxSteps:=9999999) (disch:=omega) only [wq])));try simp) (fun ⟨⟨i,li⟩,hi,hF,hvi⟩=>?_)
  dsimp only at hi hF hvi
  by_cases hi3:i<3
  · have hb0:decide ((i:Int)<3)=true:=decide_eq_true (by omega)
    (repeat' (first|with_reducible (first|refine zA fun Kn hK=>?_|refine zB (by kernel_rfl) ?_|refine Nx.go ?_|go_step)|fail|with_reducible (first|refine zI ?_|refine zJ ?_|refine zK ?_ ?_|refine zL ?_ ?_|refine zR (by kernel_rfl) ?_)|simp (maxSteps:=9999999) (disch:=omega) only [wq]|(with_reducible refine zM (fun hb=>?_) (fun hb=>?_) <;> (try simp only [hb]))|(with_reducible refine And.intro (by first|omega|(simp;done)|(simp;omega)) ?_)|simp (maxSteps:=9999999) (implicitDefEqProofs:=false) only [go_sem,hb0]|fail))
    refine sound_loopR (fun x:{p:Nat × List Nat × Nat // InD li p}=>⟨[(1,vP 1 0),(2,vP 2 0),(3,vI i),(4,.a (.c (.d (nD x.1.2.2)))),(5,vI x.1.1)],[(1,some ⟨61,(x.1.2.1.map nD).map C.d,true,false⟩),(2,some ⟨61,zeroOf Tryz.prog 61,true,false⟩)]⟩) (fun x=>16-x.1.1) ⟨(0,li,0),InD.zero hF.1⟩ [] (by (iterate 2 ((try simp (maxSteps:=9999999) (implicitDefEqProofs:=false) only [go_sem,true_and,W0]);(try simp (maxSteps:=9999999) (disch:=omega) only [wq])));try simp [nD]) (fun ⟨⟨k,r,c⟩,hI⟩=>?_)
    obtain ⟨hk,hrl,hcb,_⟩:=id hI
    dsimp only at hk hrl hcb
    by_cases hlt:k<16
    · have hb1:decide ((k:Int)<16)=true:=decide_eq_true (by omega)
      have hg1:=numsC_get (l:=r) (k:=k) (by omega)
      obtain ⟨hT1,hst⟩:=InD.step (t:=r.getD k 0+c) hI hlt hF.1 hF.2.1 rfl rfl
      have hT2:(r.getD k 0+c)%18446744073709551616=r.getD k 0+c:=Nat.mod_eq_of_lt (by omega)
      have hg2:=numsC_new (l:=r) (k:=k) (v:=r.getD k 0+c) (by omega)
      generalize hTe:r.getD k 0+c=T at *
      have hq:T/65536%18446744073709551616=T/65536:=Nat.mod_eq_of_lt (by omega)
      have hm:T%65536%18446744073709551616=T%65536:=Nat.mod_eq_of_lt (by omega)
      (repeat' (first|with_reducible (first|refine zA fun Kn hK=>?_|refine zB (by kernel_rfl) ?_|refine Nx.go ?_|go_step)|fail|with_reducible (first|refine zI ?_|refine zJ ?_|refine zK ?_ ?_|refine zL ?_ ?_|refine zR (by kernel_rfl) ?_)|simp (maxSteps:=9999999) (disch:=omega) only [wq]|(with_reducible refine zM (fun hb=>?_) (fun hb=>?_) <;> (try simp only [hb]))|(with_reducible refine And.intro (by first|omega|(simp;done)|(simp;omega)) ?_)|simp (maxSteps:=9999999) (implicitDefEqProofs:=false) only [go_sem,hb1,hg1,hg2,hTe,hT2,hq,hm,wrap_nat,List.set_set,List.length_map,List.length_set,hrl]|fail))
      refine ⟨[],⟨(k+1,r.set k (T%65536),T/65536),hst⟩,?_⟩
      (iterate 2 ((try simp (maxSteps:=9999999) (implicitDefEqProofs:=false) only [go_sem,true_and]);(try simp (maxSteps:=9999999) (disch:=omega) only [wq])))
      try (simp only [ijq,true_and,and_true];first|done|omega|(split <;> omega)|(simp;done)|(simp;omega))
    have hb1:decide ((k:Int)<16)=false:=decide_eq_false (by omega)
    obtain rfl:k=16:=by omega
    obtain ⟨rfl,rfl⟩:=InD.done hI
    dsimp only
    clear hI hcb
    have hlD:=dg_len 16 (vV li)
    obtain ⟨hFn,htp⟩:=rnd_ok hF
    have hrv:=rnd_val li
    rw [hvi] at hrv
    have hg15:=numsC_get (l:=dg 16 (vV li)) (k:=15) (by omega)
    have hxl:(dg 16 (vV li)).getD 15 0<65536:=by rw [dg_get (by omega)];exact Nat.mod_lt _ (by omega)
    have htop:(2*(vV li/65536^16)%18446744073709551616+(dg 16 (vV li)).getD 15 0/32768)%18446744073709551616=topL li:=by
      have h:=htp
      unfold topL at h ⊢
      generalize vV li/65536^16=q at *
      omega
    have hx1:(dg 16 (vV li)).getD 15 0/32768%18446744073709551616=(dg 16 (vV li)).getD 15 0/32768:=Nat.mod_eq_of_lt (by omega)
    have hx2:(dg 16 (vV li)).getD 15 0%32768%18446744073709551616=(dg 16 (vV li)).getD 15 0%32768:=Nat.mod_eq_of_lt (by omega)
    have hrd:rndL li=((dg 16 (vV li)).set 15 ((dg 16 (vV li)).getD 15 0%32768)).set 0 (((dg 16 (vV li)).set 15 ((dg 16 (vV li)).getD 15 0%32768)).getD 0 0+19*topL li):=rfl
    have hd0:((dg 16 (vV li)).set 15 ((dg 16 (vV li)).getD 15 0%32768)).getD 0 0<65536:=by
      rw [getD_set_ne (by omega),dg_get (by omega)]
      exact Nat.mod_lt _ (by omega)
    have hg0:=numsC_get (l:=(dg 16 (vV li)).set 15 ((dg 16 (vV li)).getD 15 0%32768)) (k:=0) (by rw [List.length_set];omega)
    generalize hS:(dg 16 (vV li)).set 15 ((dg 16 (vV li)).getD 15 0%32768)=S1 at *
    have hlS:S1.length=16:=by rw [← hS,List.length_set];exact hlD
    have hsum:(S1.getD 0 0+19*topL li%18446744073709551616)%18446744073709551616=S1.getD 0 0+19*topL li:=by omega
    generalize S1.getD 0 0=s0 at *
    generalize (dg 16 (vV li)).getD 15 0=x15 at *
    generalize vV li/65536^16=q at *
    generalize topL li=tp at *
    generalize rndL li=ln at *
    generalize dg 16 (vV li)=dl at *
    (repeat' (first|with_reducible (first|refine zA fun Kn hK=>?_|refine zB (by kernel_rfl) ?_|refine Nx.go ?_|go_step)|fail|with_reducible (first|refine zI ?_|refine zJ ?_|refine zK ?_ ?_|refine zL ?_ ?_|refine zR (by kernel_rfl) ?_)|simp (maxSteps:=9999999) (disch:=omega) only [wq]|(with_reducible refine zM (fun hb=>?_) (fun hb=>?_) <;> (try simp only [hb]))|(with_reducible refine And.intro (by first|omega|(simp;done)|(simp;omega)) ?_)|simp (maxSteps:=9999999) (implicitDefEqProofs:=false) only [go_sem,hb1,hg15,hg0,htop,hx1,hx2,hS,hsum,wrap_nat,List.length_map,List.length_set,hlD,hlS]|fail))
    refine ⟨[],⟨(i+1,ln),by omega,hFn,hrv⟩,?_⟩
    (iterate 2 ((try simp (maxSteps:=9999999) (implicitDefEqProofs:=false) only [go_sem,hrd]);(try simp (maxSteps:=9999999) (disch:=omega) only [wq])))
    try (simp only [ijq,true_and,and_true];first|done|omega|(split <;> omega)|(simp;done)|(simp;omega))
  have hb0:decide ((i:Int)<3)=false:=decide_eq_false (by omega)
  obtain rfl:i=3:=by omega
  rw [hN] at hvi
  (repeat' (first|with_reducible (first|refine zA fun Kn hK=>?_|refine zB (by kernel_rfl) ?_|refine Nx.go ?_|go_step)|fail|with_reducible (first|refine zI ?_|refine zJ ?_|refine zK ?_ ?_|refine zL ?_ ?_|refine zR (by kernel_rfl) ?_)|simp (maxSteps:=9999999) (disch:=omega) only [wq]|(with_reducible refine zM (fun hb=>?_) (fun hb=>?_) <;> (try simp only [hb]))|(with_reducible refine And.intro (by first|omega|(simp;done)|(simp;omega)) ?_)|simp (maxSteps:=9999999) (implicitDefEqProofs:=false) only [go_sem,hb0]|fail))
  refine sound_loopR (fun x:{p:Nat × List Nat × Nat // InD li p}=>⟨[(1,vP 1 0),(2,vP 2 0),(7,.a (.c (.d (nD x.1.2.2)))),(8,vI x.1.1)],[(1,some ⟨61,(x.1.2.1.map nD).map C.d,true,false⟩),(2,some ⟨61,zeroOf Tryz.prog 61,true,false⟩)]⟩) (fun x=>16-x.1.1) ⟨(0,li,0),InD.zero hF.1⟩ [] (by (iterate 2 ((try simp (maxSteps:=9999999) (implicitDefEqProofs:=false) only [go_sem,true_and,W0]);(try simp (maxSteps:=9999999) (disch:=omega) only [wq])));try simp [nD]) (fun ⟨⟨k,r,c⟩,hI⟩=>?_)
  obtain ⟨hk,hrl,hcb,_⟩:=id hI
  dsimp only at hk hrl hcb
  by_cases hlt:k<16
  · have hb1:decide ((k:Int)<16)=true:=decide_eq_true (by omega)
    have hg1:=numsC_get (l:=r) (k:=k) (by omega)
    obtain ⟨hT1,hst⟩:=InD.step (t:=r.getD k 0+c) hI hlt hF.1 hF.2.1 rfl rfl
    have hT2:(r.getD k 0+c)%18446744073709551616=r.getD k 0+c:=Nat.mod_eq_of_lt (by omega)
    have hg2:=numsC_new (l:=r) (k:=k) (v:=r.getD k 0+c) (by omega)
    generalize hTe:r.getD k 0+c=T at *
    have hq:T/65536%18446744073709551616=T/65536:=Nat.mod_eq_of_lt (by omega)
    have hm:T%65536%18446744073709551616=T%65536:=Nat.mod_eq_of_lt (by omega)
    (repeat' (first|with_reducible (first|refine zA fun Kn hK=>?_|refine zB (by kernel_rfl) ?_|refine Nx.go ?_|go_step)|fail|with_reducible (first|refine zI ?_|refine zJ ?_|refine zK ?_ ?_|refine zL ?_ ?_|refine zR (by kernel_rfl) ?_)|simp (maxSteps:=9999999) (disch:=omega) only [wq]|(with_reducible refine zM (fun hb=>?_) (fun hb=>?_) <;> (try simp only [hb]))|(with_reducible refine And.intro (by first|omega|(simp;done)|(simp;omega)) ?_)|simp (maxSteps:=9999999) (implicitDefEqProofs:=false) only [go_sem,hb1,hg1,hg2,hTe,hT2,hq,hm,wrap_nat,List.set_set,List.length_map,List.length_set,hrl]|fail))
    refine ⟨[],⟨(k+1,r.set k (T%65536),T/65536),hst⟩,?_⟩
    (iterate 2 ((try simp (maxSteps:=9999999) (implicitDefEqProofs:=false) only [go_sem,true_and]);(try simp (maxSteps:=9999999) (disch:=omega) only [wq])))
    try (simp only [ijq,true_and,and_true];first|done|omega|(split <;> omega)|(simp;done)|(simp;omega))
  have hb1:decide ((k:Int)<16)=false:=decide_eq_false (by omega)
  obtain rfl:k=16:=by omega
  obtain ⟨rfl,rfl⟩:=InD.done hI
  dsimp only
  clear hI hcb
  rw [hvi]
  have hl3l:=dg_len 16 v3
  have hl3v:vV (dg 16 v3)=v3:=by rw [vV_dg,pow_256];exact Nat.mod_eq_of_lt (by omega)
  have hd0:(dg 16 v3).getD 0 0<65536:=by rw [dg_get (by omega)];exact Nat.mod_lt _ (by omega)
  have hall:=dg_lt 16 v3
  generalize hl3:dg 16 v3=l3 at *
  have hg0:=numsC_get (l:=l3) (k:=0) (by omega)
  have hsum:(l3.getD 0 0+19)%18446744073709551616=l3.getD 0 0+19:=Nat.mod_eq_of_lt (by omega)
  have hF9:FitOk (l3.set 0 (l3.getD 0 0+19)):=fit_in (by rw [List.length_set];exact hl3l) fun x hx=>by
    rcases List.mem_or_eq_of_mem_set hx with h|h
    · have:=hall x h;omega
    · rw [h];omega
  have hv9:vV (l3.set 0 (l3.getD 0 0+19))=v3+19:=by
    have:=vV_set (l:=l3) (j:=0) (d:=l3.getD 0 0+19) (by omega)
    rw [Nat.pow_zero,Nat.one_mul,Nat.one_mul] at this
    omega
  obtain ⟨b1,b2,b3⟩:=cd_facts (l:=l3.map nD) (n:=16) (by rw [List.length_map];exact hl3l)
  have hl9:=hF9.1
  generalize h9:l3.set 0 (l3.getD 0 0+19)=l9 at *
  (repeat' (first|with_reducible (first|refine zA fun Kn hK=>?_|refine zB (by kernel_rfl) ?_|refine Nx.go ?_|go_step)|fail|with_reducible (first|refine zI ?_|refine zJ ?_|refine zK ?_ ?_|refine zL ?_ ?_|refine zR (by kernel_rfl) ?_)|simp (maxSteps:=9999999) (disch:=omega) only [wq]|(with_reducible refine zM (fun hb=>?_) (fun hb=>?_) <;> (try simp only [hb]))|(with_reducible refine And.intro (by first|omega|(simp;done)|(simp;omega)) ?_)|simp (maxSteps:=9999999) (implicitDefEqProofs:=false) only [go_sem,hb1,hg0,hsum,h9,List.length_map,List.length_set,List.length_replicate,List.drop_replicate,hl3l,b1,b2,b3,List.append_nil]|fail))
  refine sound_loopR (fun x:{p:Nat × List Nat × Nat // InD l9 p}=>⟨[(1,vP 1 0),(2,vP 2 0),(9,vP 9 0),(7,.a (.c (.d (nD x.1.2.2)))),(10,vI x.1.1)],[(1,some ⟨61,(l3.map nD).map C.d,true,false⟩),(2,some ⟨61,zeroOf Tryz.prog 61,true,false⟩),(9,some ⟨61,(x.1.2.1.map nD).map C.d,true,false⟩)]⟩) (fun x=>16-x.1.1) ⟨(0,l9,0),InD.zero hF9.1⟩ [] (by (iterate 2 ((try simp (maxSteps:=9999999) (implicitDefEqProofs:=false) only [go_sem,true_and,W0]);(try simp (maxSteps:=9999999) (disch:=omega) only [wq])));try simp [nD]) (fun ⟨⟨k,r,c⟩,hI⟩=>?_)
  obtain ⟨hk,hrl,hcb,_⟩:=id hI
  dsimp only at hk hrl hcb
  by_cases hlt:k<16
  · have hb1:decide ((k:Int)<16)=true:=decide_eq_true (by omega)
    have hg1:=numsC_get (l:=r) (k:=k) (by omega)
    obtain ⟨hT1,hst⟩:=InD.step (t:=r.getD k 0+c) hI hlt hF9.1 hF9.2.1 rfl rfl
    have hT2:(r.getD k 0+c)%18446744073709551616=r.getD k 0+c:=Nat.mod_eq_of_lt (by omega)
    have hg2:=numsC_new (l:=r) (k:=k) (v:=r.getD k 0+c) (by omega)
    generalize hTe:r.getD k 0+c=T at *
    have hq:T/65536%18446744073709551616=T/65536:=Nat.mod_eq_of_lt (by omega)
    have hm:T%65536%18446744073709551616=T%65536:=Nat.mod_eq_of_lt (by omega)
    (repeat' (first|with_reducible (first|refine zA fun Kn hK=>?_|refine zB (by kernel_rfl) ?_|refine Nx.go ?_|go_step)|fail|with_reducible (first|refine zI ?_|refine zJ ?_|refine zK ?_ ?_|refine zL ?_ ?_|refine zR (by kernel_rfl) ?_)|simp (maxSteps:=9999999) (disch:=omega) only [wq]|(with_reducible refine zM (fun hb=>?_) (fun hb=>?_) <;> (try simp only [hb]))|(with_reducible refine And.intro (by first|omega|(simp;done)|(simp;omega)) ?_)|simp (maxSteps:=9999999) (implicitDefEqProofs:=false) only [go_sem,hb1,hg1,hg2,hTe,hT2,hq,hm,wrap_nat,List.set_set,List.length_map,List.length_set,hrl]|fail))
    refine ⟨[],⟨(k+1,r.set k (T%65536),T/65536),hst⟩,?_⟩
    (iterate 2 ((try simp (maxSteps:=9999999) (implicitDefEqProofs:=false) only [go_sem,true_and]);(try simp (maxSteps:=9999999) (disch:=omega) only [wq])))
    try (simp only [ijq,true_and,and_true];first|done|omega|(split <;> omega)|(simp;done)|(simp;omega))
  have hb1:decide ((k:Int)<16)=false:=decide_eq_false (by omega)
  obtain rfl:k=16:=by omega
  obtain ⟨rfl,rfl⟩:=InD.done hI
  dsimp only
  clear hI hcb
  rw [hv9]
  obtain ⟨e1,e2,e3⟩:=hlast
  have hl9d:=dg_len 16 (v3+19)
  have hg15:=numsC_get (l:=dg 16 (v3+19)) (k:=15) (by omega)
  obtain ⟨d1,d2,d3⟩:=cd_facts (l:=DD.map nD) (n:=16) (by rw [List.length_map];exact hdl)
  generalize (dg 16 (v3+19)).getD 15 0=x15 at *
  generalize dg 16 (v3+19)=t9 at *
  by_cases h15:x15<32768
  · have hb5:decide ((x15:Int)≥32768)=false:=decide_eq_false (by omega)
    obtain rfl:=e1 h15
    (repeat' (first|with_reducible (first|refine zA fun Kn hK=>?_|refine zB (by kernel_rfl) ?_|refine Nx.go ?_|go_step)|fail|with_reducible (first|refine zI ?_|refine zJ ?_|refine zK ?_ ?_|refine zL ?_ ?_|refine zR (by kernel_rfl) ?_)|simp (maxSteps:=9999999) (disch:=omega) only [wq]|(with_reducible refine zM (fun hb=>?_) (fun hb=>?_) <;> (try simp only [hb]))|(with_reducible refine And.intro (by first|omega|(simp;done)|(simp;omega)) ?_)|simp (maxSteps:=9999999) (implicitDefEqProofs:=false) only [go_sem,hb1,hb5,hg15,List.length_map,List.length_set,List.length_replicate,List.drop_replicate,hl9d,hdl,d1,d2,d3,List.append_nil]|fail))
  · have hb5:decide ((x15:Int)≥32768)=true:=decide_eq_true (by omega)
    have e4:=e2 (by omega)
    have hx3:IntKind.u64.wrap ((x15:Int)-32768)=((x15-32768:Nat):Int):=by rw [show (x15:Int)-32768=((x15-32768:Nat):Int) by omega,wrap_nat,Nat.mod_eq_of_lt (by omega)]
    (repeat' (first|with_reducible (first|refine zA fun Kn hK=>?_|refine zB (by kernel_rfl) ?_|refine Nx.go ?_|go_step)|fail|with_reducible (first|refine zI ?_|refine zJ ?_|refine zK ?_ ?_|refine zL ?_ ?_|refine zR (by kernel_rfl) ?_)|simp (maxSteps:=9999999) (disch:=omega) only [wq]|(with_reducible refine zM (fun hb=>?_) (fun hb=>?_) <;> (try simp only [hb]))|(with_reducible refine And.intro (by first|omega|(simp;done)|(simp;omega)) ?_)|simp (maxSteps:=9999999) (implicitDefEqProofs:=false) only [go_sem,hb1,hb5,hg15,hx3,e4,List.length_map,List.length_set,List.length_replicate,List.drop_replicate,hl9d,hdl,d1,d2,d3,List.append_nil]|fail))
end Go.Proofs.YtdakeodebgggfaaGreatDoor
namespace Go.Proofs.YtdakeodebgggfaaGreatDoor
open Go.RowKit
def refC (x:F):List Nat:=dg 16 x.val
theorem refC_len (x:F):(refC x).length=16:=dg_len 16 _
theorem refC_lt (x:F): ∀ y∈refC x,y<65536:=dg_lt 16 _
theorem refC_val (x:F):vV (refC x)=x.val:=by
  rw [refC,vV_dg]
  exact Nat.mod_eq_of_lt (Nat.lt_trans x.isLt (by decide +kernel))
theorem refC_of {v:Nat} (x:F) (h:v%pP=x.val):dg 16 (v%pP)=refC x:=by rw [h,refC]
theorem vV_take: ∀ {b:List Nat} {k:Nat},k<b.length→vV (b.take (k+1))=vV (b.take k)+65536^k*b.getD k 0
  | [],k,h=>by simp at h
  | x::b,0,_=>by simp [vV]
  | x::b,k+1,h=>by
    rw [List.take_succ_cons,List.take_succ_cons,vV,vV,vV_take (by simpa using h),List.getD_cons_succ,Nat.pow_succ,Nat.mul_add,← Nat.mul_assoc,Nat.mul_comm 65536 (65536^k)]
    omega
theorem take16 {l:List Nat} (h:l.length=16):l.take 16=l:=List.take_of_length_le (by omega)
def InS (a b:List Nat) (x:Nat × List Nat):Prop:=x.1≤16∧x.2.length=16∧(∀ y∈x.2,y<131072)∧(∀ j,x.1≤j→x.2.getD j 0=a.getD j 0)∧vV x.2=vV a+vV (b.take x.1)
theorem InS.step {a b r:List Nat} {k:Nat} (h:InS a b (k,r)) (hk:k<16) (la:a.length=16) (lb:b.length=16) (ha: ∀ y∈a,y<65536) (hb: ∀ y∈b,y<65536):r.getD k 0<65536∧b.getD k 0<65536∧InS a b (k+1,r.set k (r.getD k 0+b.getD k 0)):=by
  obtain ⟨h1,h2,h3,h4,h5⟩:=h
  dsimp only at h1 h2 h3 h4 h5
  have hx:=(all_getD (by omega)).1 ha k (by omega)
  have hy:=(all_getD (by omega)).1 hb k (by omega)
  rw [← h4 k (Nat.le_refl _)] at hx
  refine ⟨hx,hy,by dsimp only;omega,by dsimp only;rw [List.length_set];exact h2,fun y hy2=>?_,fun j hj=>?_,?_⟩
  · rcases List.mem_or_eq_of_mem_set hy2 with h|h
    · exact h3 y h
    · rw [h];omega
  · dsimp only at hj ⊢
    rw [getD_set_ne (by omega)]
    exact h4 j (by omega)
  · dsimp only
    have hs:=vV_set (l:=r) (j:=k) (d:=r.getD k 0+b.getD k 0) (by omega)
    rw [vV_take (by omega),Nat.mul_add] at *
    omega
theorem refadd_m {G:Nat→Option (List D)} (x y:F):Spec Tryz.prog G 102 [.g ((refC x).map nD),.g ((refC y).map nD)] (.one (.g ((refC (x+y)).map nD))):=by
  have hfit:=fun (r:List Nat) h1 h2=>fit_m (G:=G) r h1 h2
  have hxy:(vV (refC x)+vV (refC y))%pP=(x+y).val:=by rw [refC_val,refC_val,F.add_val]
  have hlo:=refC_len (x+y)
  have hout:=refC_of _ hxy
  have hla:=refC_len x
  have hlb:=refC_len y
  have hxa:=refC_lt x
  have hxb:=refC_lt y
  generalize refC (x+y)=O at *
  generalize refC x=a at *
  generalize refC y=b at *
  clear hxy
  obtain ⟨a1,a2,a3⟩:=cd_facts (l:=a.map nD) (n:=16) (by rw [List.length_map];exact hla)
  obtain ⟨b1,b2,b3⟩:=cd_facts (l:=b.map nD) (n:=16) (by rw [List.length_map];exact hlb)
  obtain ⟨o1,o2,o3⟩:=cd_facts (l:=O.map nD) (n:=16) (by rw [List.length_map];exact hlo)
  refine spec_of Tryz.func102 rfl rfl rfl (by kernel_rfl) rfl fun K=>?_
  (repeat' (first|with_reducible (first|refine zA fun Kn hK=>?_|refine zB (by kernel_rfl) ?_|refine Nx.go ?_|go_step)|fail|with_reducible (first|refine zI ?_|refine zJ ?_|refine zK ?_ ?_|refine zL ?_ ?_|refine zR (by kernel_rfl) ?_)|simp (maxSteps:=9999999) (disch:=omega) only [wq]|(with_reducible refine zM (fun hb=>?_) (fun hb=>?_) <;> (try simp only [hb]))|(with_reducible refine And.intro (by first|omega|(simp;done)|(simp;omega)) ?_)|simp (maxSteps:=9999999) (implicitDefEqProofs:=false) only [go_sem,List.length_map,hla,hlb,a1,a2,a3,b1,b2,b3,List.append_nil]|fail))
  refine sound_loopR (fun x:{p:Nat × List Nat // InS a b p}=>⟨[(2,vP 2 0),(3,vP 3 0),(4,vP 4 0),(5,vI x.1.1)],[(2,some ⟨61,(x.1.2.map nD).map C.d,true,false⟩),(3,some ⟨61,(b.map nD).map C.d,true,false⟩),(4,some ⟨61,zeroOf Tryz.prog 61,true,false⟩)]⟩) (fun x=>16-x.1.1) ⟨(0,a),by omega,hla,fun y hy=>by have:=hxa y hy;omega,fun _ _=>rfl,rfl⟩ [] (by (iterate 2 ((try simp (maxSteps:=9999999) (implicitDefEqProofs:=false) only [go_sem,true_and]);(try simp (maxSteps:=9999999) (disch:=omega) only [wq])));try simp) (fun ⟨⟨k,r⟩,hI⟩=>?_)
  obtain ⟨hk,hrl,hr3,hr4,hr5⟩:=id hI
  dsimp only at hk hrl hr3 hr4 hr5
  by_cases hlt:k<16
  · have hb1:decide ((k:Int)<16)=true:=decide_eq_true (by omega)
    have hg1:=numsC_get (l:=r) (k:=k) (by omega)
    have hg2:=numsC_get (l:=b) (k:=k) (by omega)
    obtain ⟨hx1,hy1,hst⟩:=InS.step hI hlt hla hlb hxa hxb
    have hT:(r.getD k 0+b.getD k 0)%18446744073709551616=r.getD k 0+b.getD k 0:=Nat.mod_eq_of_lt (by omega)
    (repeat' (first|with_reducible (first|refine zA fun Kn hK=>?_|refine zB (by kernel_rfl) ?_|refine Nx.go ?_|go_step)|fail|with_reducible (first|refine zI ?_|refine zJ ?_|refine zK ?_ ?_|refine zL ?_ ?_|refine zR (by kernel_rfl) ?_)|simp (maxSteps:=9999999) (disch:=omega) only [wq]|(with_reducible refine zM (fun hb=>?_) (fun hb=>?_) <;> (try simp only [hb]))|(with_reducible refine And.intro (by first|omega|(simp;done)|(simp;omega)) ?_)|simp (maxSteps:=9999999) (implicitDefEqProofs:=false) only [go_sem,hb1,hg1,hg2,hT,List.length_map,hrl,hlb]|fail))
    refine ⟨[],⟨(k+1,r.set k (r.getD k 0+b.getD k 0)),hst⟩,?_⟩
    (iterate 2 ((try simp (maxSteps:=9999999) (implicitDefEqProofs:=false) only [go_sem,true_and]);(try simp (maxSteps:=9999999) (disch:=omega) only [wq])))
    try (simp only [ijq,true_and,and_true];first|done|omega|(split <;> omega)|(simp;done)|(simp;omega))
  have hb1:decide ((k:Int)<16)=false:=decide_eq_false (by omega)
  obtain rfl:k=16:=by omega
  have hf:=hfit r hrl fun y hy=>by have:=hr3 y hy;omega
  rw [hr5,take16 hlb,hout] at hf
  obtain ⟨r1,r2,r3⟩:=cd_facts (l:=r.map nD) (n:=16) (by rw [List.length_map];exact hrl)
  (repeat' (first|with_reducible (first|refine zA fun Kn hK=>?_|refine zB (by kernel_rfl) ?_|refine Nx.go ?_|go_step)|(refine ⟨_,hf,?_⟩)|with_reducible (first|refine zI ?_|refine zJ ?_|refine zK ?_ ?_|refine zL ?_ ?_|refine zR (by kernel_rfl) ?_)|simp (maxSteps:=9999999) (disch:=omega) only [wq]|(with_reducible refine zM (fun hb=>?_) (fun hb=>?_) <;> (try simp only [hb]))|(with_reducible refine And.intro (by first|omega|(simp;done)|(simp;omega)) ?_)|simp (maxSteps:=9999999) (implicitDefEqProofs:=false) only [go_sem,hb1,List.length_map,List.length_replicate,List.drop_replicate,hrl,hlo,r1,r2,r3,o1,o2,o3,List.append_nil]|fail))
def pL:List Nat:=[65517,65535,65535,65535,65535,65535,65535,65535,65535,65535,65535,65535,65535,65535,65535,32767]
theorem pL_val:vV pL=pP:=by decide +kernel
def InN (a:List Nat) (x:Nat × List Nat × Nat):Prop:=x.1≤16∧x.2.1.length=16∧x.2.2≤1∧(∀ y∈x.2.1,y<65536)∧(∀ j,x.1≤j→x.2.1.getD j 0=a.getD j 0)∧vV x.2.1+2*vV (a.take x.1)=vV a+vV (pL.take x.1)+x.2.2*65536^x.1
theorem InN.step {a r:List Nat} {k bo t q:Nat} (h:InN a (k,r,bo)) (hk:k<16) (la:a.length=16) (ha: ∀ y∈a,y<65536) (ht:t+r.getD k 0+bo=pL.getD k 0+65536) (hq:q+t/65536=1):InN a (k+1,r.set k (t%65536),q):=by
  obtain ⟨h1,h2,h3,h4,h5,h6⟩:=h
  dsimp only at h1 h2 h3 h4 h5 h6
  have hx:=(all_getD (by omega)).1 ha k (by omega)
  rw [← h5 k (Nat.le_refl _)] at hx
  refine ⟨by dsimp only;omega,by dsimp only;rw [List.length_set];exact h2,by dsimp only;omega,fun y hy2=>?_,fun j hj=>?_,?_⟩
  · rcases List.mem_or_eq_of_mem_set hy2 with h|h
    · exact h4 y h
    · rw [h];exact Nat.mod_lt _ (by omega)
  · dsimp only at hj ⊢
    rw [getD_set_ne (by omega)]
    exact h5 j (by omega)
  · dsimp only
    have hs:=vV_set (l:=r) (j:=k) (d:=t%65536) (by omega)
    rw [vV_take (b:=a) (by omega),vV_take (b:=pL) (by show k<16;exact hk),Nat.pow_succ,← h5 k (Nat.le_refl _)]
    generalize r.getD k 0=x at *
    generalize pL.getD k 0=pk at *
    generalize vV (r.set k (t%65536))=v' at *
    generalize vV r=v at *
    generalize vV (a.take k)=va at *
    generalize vV (pL.take k)=vp at *
    generalize vV a=A at *
    generalize 65536^k=P at *
    have hd:=Nat.div_add_mod t 65536
    generalize t%65536=d at *
    have hc:q=0∨q=1:=by omega
    have hbc:bo=0∨bo=1:=by omega
    have e:d+x+bo=pk+65536*q:=by omega
    have e2:P*d+P*x+P*bo=P*pk+P*65536*q:=by rw [← Nat.mul_add,← Nat.mul_add,e,Nat.mul_add,Nat.mul_assoc]
    have e3:=Nat.mul_comm P bo
    have e4:=Nat.mul_comm (P*65536) q
    omega
theorem InN.done {a r:List Nat} {bo:Nat} (h:InN a (16,r,bo)) (la:a.length=16) (hA:vV a<pP):vV r=pP-vV a:=by
  obtain ⟨h1,h2,h3,h4,h5,h6⟩:=h
  dsimp only at h1 h2 h3 h4 h5 h6
  have hv:=vV_lt h4
  rw [h2] at hv
  rw [take16 la,take16 (l:=pL) rfl,pL_val] at h6
  rw [pow_256] at *
  rw [pP_lit] at *
  have hbc:bo=0∨bo=1:=by omega
  rcases hbc with rfl|rfl <;> omega
theorem negF_val (x:F):(pP-x.val)%pP=(-x).val:=rfl
end Go.Proofs.YtdakeodebgggfaaGreatDoor
namespace Go.Proofs.YtdakeodebgggfaaGreatDoor
open Go.RowKit
theorem refneg_m {G:Nat→Option (List D)} (x:F):Spec Tryz.prog G 94 [.g ((refC x).map nD)] (.one (.g ((refC (-x)).map nD))):=by
  have hfit:=fun (r:List Nat) h1 h2=>fit_m (G:=G) r h1 h2
  have hv:=negF_val x
  rw [← refC_val x] at hv
  have hlo:=refC_len (-x)
  have hout:=refC_of _ hv
  have hla:=refC_len x
  have hxa:=refC_lt x
  have hA:vV (refC x)<pP:=by rw [refC_val];exact x.isLt
  generalize refC (-x)=O at *
  generalize refC x=a at *
  clear hv
  obtain ⟨a1,a2,a3⟩:=cd_facts (l:=a.map nD) (n:=16) (by rw [List.length_map];exact hla)
  obtain ⟨o1,o2,o3⟩:=cd_facts (l:=O.map nD) (n:=16) (by rw [List.length_map];exact hlo)
  obtain ⟨p1,p2,p3⟩:=cd_facts (l:=pL.map nD) (n:=16) rfl
  have hp:[nD 65517,nD 65535,nD 65535,nD 65535,nD 65535,nD 65535,nD 65535,nD 65535,nD 65535,nD 65535,nD 65535,nD 65535,nD 65535,nD 65535,nD 65535,nD 32767]=pL.map nD:=rfl
  have hpl:pL.length=16:=rfl
  have hpg: ∀ k,k<16→pL.getD k 0<65536:=fun k hk=>(all_getD (l:=pL) (by omega)).1 (by decide) k hk
  have hz0:InN a (0,a,0):=⟨Nat.zero_le _,hla,Nat.zero_le _,hxa,fun _ _=>rfl,by simp [vV]⟩
  refine spec_of Tryz.func94 rfl rfl rfl (by kernel_rfl) rfl fun K=>?_
  (repeat' (first|with_reducible (first|refine zA fun Kn hK=>?_|refine zB (by kernel_rfl) ?_|refine Nx.go ?_|go_step)|fail|with_reducible (first|refine zI ?_|refine zJ ?_|refine zK ?_ ?_|refine zL ?_ ?_|refine zR (by kernel_rfl) ?_)|simp (maxSteps:=9999999) (disch:=omega) only [wq]|(with_reducible refine zM (fun hb=>?_) (fun hb=>?_) <;> (try simp only [hb]))|(with_reducible refine And.intro (by first|omega|(simp;done)|(simp;omega)) ?_)|simp (maxSteps:=9999999) (implicitDefEqProofs:=false) only [go_sem,List.length_map,List.length_replicate,List.drop_replicate,hla,hpl,a1,a2,a3,p1,p2,p3,List.append_nil]|fail))
  refine sound_loopR (fun x:{p:Nat × List Nat × Nat // InN a p}=>⟨[(1,vP 1 0),(2,vP 2 0),(3,vP 3 0),(4,.a (.c (.d (nD x.1.2.2)))),(5,vI x.1.1)],[(1,some ⟨61,(x.1.2.1.map nD).map C.d,true,false⟩),(2,some ⟨61,zeroOf Tryz.prog 61,true,false⟩),(3,some ⟨61,(pL.map nD).map C.d,true,false⟩)]⟩) (fun x=>16-x.1.1) ⟨(0,a,0),hz0⟩ [] (by (iterate 2 ((try simp (maxSteps:=9999999) (implicitDefEqProofs:=false) only [go_sem,true_and]);(try simp (maxSteps:=9999999) (disch:=omega) only [wq])));try simp [pL,nD]) (fun ⟨⟨k,r,bo⟩,hI⟩=>?_)
  obtain ⟨hk,hrl,hbo,hr4,hr5,hr6⟩:=id hI
  dsimp only at hk hrl hbo hr4 hr5 hr6
  by_cases hlt:k<16
  · have hb1:decide ((k:Int)<16)=true:=decide_eq_true (by omega)
    have hg1:=numsC_get (l:=r) (k:=k) (by omega)
    have hg2:=numsC_get (l:=pL) (k:=k) (by omega)
    have hpk:=hpg k hlt
    have hx1:=(all_getD (by omega)).1 hr4 k (by omega)
    obtain ⟨t,ht⟩: ∃ t,t+r.getD k 0+bo=pL.getD k 0+65536:=⟨pL.getD k 0+65536-r.getD k 0-bo,by omega⟩
    obtain ⟨q,hq⟩: ∃ q,q+t/65536=1:=⟨1-t/65536,by omega⟩
    have hst:=InN.step hI hlt hla hxa ht hq
    have hT:(((pL.getD k 0+65536)%18446744073709551616+(18446744073709551616-r.getD k 0%18446744073709551616))%18446744073709551616+(18446744073709551616-bo%18446744073709551616))%18446744073709551616=t:=by omega
    have hq1:t/65536%18446744073709551616=t/65536:=Nat.mod_eq_of_lt (by omega)
    have hm1:t%65536%18446744073709551616=t%65536:=Nat.mod_eq_of_lt (by omega)
    have hq2:(1+(18446744073709551616-t/65536%18446744073709551616))%18446744073709551616=q:=by omega
    have hq3:(1+(18446744073709551616-t/65536))%18446744073709551616=q:=by omega
    (repeat' (first|with_reducible (first|refine zA fun Kn hK=>?_|refine zB (by kernel_rfl) ?_|refine Nx.go ?_|go_step)|fail|with_reducible (first|refine zI ?_|refine zJ ?_|refine zK ?_ ?_|refine zL ?_ ?_|refine zR (by kernel_rfl) ?_)|simp (maxSteps:=9999999) (disch:=omega) only [wq]|(with_reducible refine zM (fun hb=>?_) (fun hb=>?_) <;> (try simp only [hb]))|(with_reducible refine And.intro (by first|omega|(simp;done)|(simp;omega)) ?_)|simp (maxSteps:=9999999) (implicitDefEqProofs:=false) only [go_sem,hb1,hg1,hg2,hT,hq1,hm1,hq2,hq3,wrap_nat,List.length_map,hrl,hpl]|fail))
    refine ⟨[],⟨(k+1,r.set k (t%65536),q),hst⟩,?_⟩
    (iterate 2 ((try simp (maxSteps:=9999999) (implicitDefEqProofs:=false) only [go_sem,true_and]);(try simp (maxSteps:=9999999) (disch:=omega) only [wq])))
    try (simp only [ijq,true_and,and_true];first|done|omega|(split <;> omega)|(simp;done)|(simp;omega))
  have hb1:decide ((k:Int)<16)=false:=decide_eq_false (by omega)
  obtain rfl:k=16:=by omega
  have hf:=hfit r hrl fun y hy=>by have:=hr4 y hy;omega
  rw [InN.done hI hla hA,hout] at hf
  obtain ⟨r1,r2,r3⟩:=cd_facts (l:=r.map nD) (n:=16) (by rw [List.length_map];exact hrl)
  (repeat' (first|with_reducible (first|refine zA fun Kn hK=>?_|refine zB (by kernel_rfl) ?_|refine Nx.go ?_|go_step)|(refine ⟨_,hf,?_⟩)|with_reducible (first|refine zI ?_|refine zJ ?_|refine zK ?_ ?_|refine zL ?_ ?_|refine zR (by kernel_rfl) ?_)|simp (maxSteps:=9999999) (disch:=omega) only [wq]|(with_reducible refine zM (fun hb=>?_) (fun hb=>?_) <;> (try simp only [hb]))|(with_reducible refine And.intro (by first|omega|(simp;done)|(simp;omega)) ?_)|simp (maxSteps:=9999999) (implicitDefEqProofs:=false) only [go_sem,hb1,List.length_map,List.length_replicate,List.drop_replicate,hrl,hlo,r1,r2,r3,o1,o2,o3,List.append_nil]|fail))
theorem subF (x y:F):x-y=x+ -y:=by
  refine F.ext ?_
  show (pP-y.val+x.val)%pP=(x.val+(pP-y.val)%pP)%pP
  rw [Nat.add_mod_mod,Nat.add_comm]
theorem refsub_m {G:Nat→Option (List D)} (x y:F):Spec Tryz.prog G 103 [.g ((refC x).map nD),.g ((refC y).map nD)] (.one (.g ((refC (x-y)).map nD))):=by
  have h1:=refneg_m (G:=G) y
  have h2:=refadd_m (G:=G) x (-y)
  rw [subF]
  have hla:=refC_len x
  have hlb:=refC_len y
  have hlc:=refC_len (-y)
  have hlo:=refC_len (x+ -y)
  generalize refC (x+ -y)=O at *
  generalize refC (-y)=c at *
  generalize refC x=a at *
  generalize refC y=b at *
  obtain ⟨a1,a2,a3⟩:=cd_facts (l:=a.map nD) (n:=16) (by rw [List.length_map];exact hla)
  obtain ⟨b1,b2,b3⟩:=cd_facts (l:=b.map nD) (n:=16) (by rw [List.length_map];exact hlb)
  obtain ⟨c1,c2,c3⟩:=cd_facts (l:=c.map nD) (n:=16) (by rw [List.length_map];exact hlc)
  obtain ⟨o1,o2,o3⟩:=cd_facts (l:=O.map nD) (n:=16) (by rw [List.length_map];exact hlo)
  refine spec_of Tryz.func103 rfl rfl rfl (by kernel_rfl) rfl fun K=>?_
  (repeat' (first|with_reducible (first|refine zA fun Kn hK=>?_|refine zB (by kernel_rfl) ?_|refine Nx.go ?_|go_step)|(refine ⟨_,h1,?_⟩)|(refine ⟨_,h2,?_⟩)|with_reducible (first|refine zI ?_|refine zJ ?_|refine zK ?_ ?_|refine zL ?_ ?_|refine zR (by kernel_rfl) ?_)|simp (maxSteps:=9999999) (disch:=omega) only [wq]|(with_reducible refine zM (fun hb=>?_) (fun hb=>?_) <;> (try simp only [hb]))|(with_reducible refine And.intro (by first|omega|(simp;done)|(simp;omega)) ?_)|simp (maxSteps:=9999999) (implicitDefEqProofs:=false) only [go_sem,List.length_map,List.length_replicate,List.drop_replicate,hla,hlb,hlc,hlo,a1,a2,a3,b1,b2,b3,c1,c2,c3,o1,o2,o3,List.append_nil]|fail))
end Go.Proofs.YtdakeodebgggfaaGreatDoor
namespace Go.Proofs.YtdakeodebgggfaaGreatDoor
open Go.RowKit
def InO (a b:List Nat) (x:Nat × List Nat):Prop:=x.1≤16∧x.2.length=32∧(∀ y∈x.2,y≤x.1*4294967296)∧vV x.2=vV (a.take x.1)*vV b
def InP (a b:List Nat) (i:Nat) (x:Nat × List Nat):Prop:=x.1≤16∧x.2.length=32∧(∀ y∈x.2,y≤(i+1)*4294967296)∧(∀ m,i+x.1≤m→x.2.getD m 0≤i*4294967296)∧vV x.2=vV (a.take i)*vV b+a.getD i 0*vV (b.take x.1)*65536^i
theorem getD_le {l:List Nat} {B:Nat} (h: ∀ y∈l,y≤B) (m:Nat):l.getD m 0≤B:=by
  rw [List.getD_eq_getElem?_getD]
  rcases he:l[m]? with _|x
  · exact Nat.zero_le _
  · exact h x (List.mem_of_getElem? he)
theorem InP.zero {a b r:List Nat} {i:Nat} (h:InO a b (i,r)):InP a b i (0,r):=by
  obtain ⟨h1,h2,h3,h4⟩:=h
  dsimp only at h1 h2 h3 h4
  refine ⟨Nat.zero_le _,h2,fun y hy=>?_,fun m _=>getD_le h3 m,?_⟩
  · exact Nat.le_trans (h3 y hy) (Nat.mul_le_mul_right _ (Nat.le_succ i))
  · dsimp only
    rw [h4,List.take_zero,vV,Nat.mul_zero,Nat.zero_mul,Nat.add_zero]
theorem InP.step {a b r:List Nat} {i k p:Nat} (h:InP a b i (k,r)) (hi:i<16) (hk:k<16) (lb:b.length=16) (hp:p=a.getD i 0*b.getD k 0) (hpl:p≤65535*65535):r.getD (i+k) 0≤i*4294967296∧InP a b i (k+1,r.set (i+k) (r.getD (i+k) 0+p)):=by
  obtain ⟨h1,h2,h3,h4,h5⟩:=h
  dsimp only at h1 h2 h3 h4 h5
  have hx:=h4 (i+k) (Nat.le_refl _)
  refine ⟨hx,by dsimp only;omega,by dsimp only;rw [List.length_set];exact h2,fun y hy=>?_,fun m hm=>?_,?_⟩
  · rcases List.mem_or_eq_of_mem_set hy with h|h
    · exact h3 y h
    · rw [h];omega
  · dsimp only at hm ⊢
    rw [getD_set_ne (by omega)]
    exact h4 m (by omega)
  · dsimp only
    have hs:=vV_set (l:=r) (j:=i+k) (d:=r.getD (i+k) 0+p) (by omega)
    rw [vV_take (b:=b) (by omega),Nat.mul_add (a.getD i 0),Nat.add_mul]
    rw [Nat.mul_add] at hs
    have e:a.getD i 0*(65536^k*b.getD k 0)*65536^i=65536^(i+k)*p:=by
      rw [hp,Nat.pow_add]
      generalize a.getD i 0=x
      generalize b.getD k 0=y
      generalize 65536^k=P
      generalize 65536^i=Q
      rw [Nat.mul_comm P y,← Nat.mul_assoc x,Nat.mul_comm (Q*P),Nat.mul_assoc (x*y),Nat.mul_comm P Q]
    rw [e]
    omega
theorem InP.done {a b r:List Nat} {i:Nat} (h:InP a b i (16,r)) (hi:i<16) (la:a.length=16) (lb:b.length=16):InO a b (i+1,r):=by
  obtain ⟨h1,h2,h3,h4,h5⟩:=h
  dsimp only at h1 h2 h3 h4 h5
  refine ⟨by dsimp only;omega,h2,h3,?_⟩
  dsimp only
  rw [h5,take16 lb,vV_take (by omega),Nat.add_mul,Nat.mul_right_comm,Nat.mul_comm (65536^i)]
def InF (T:List Nat) (x:Nat × List Nat):Prop:=x.1≤16∧x.2.length=16∧(∀ y∈x.2,y<562949953421312)∧(∀ m,x.1≤m→x.2.getD m 0=0)∧vV x.2=vV ((T.take 16).take x.1)+38*vV ((T.drop 16).take x.1)
theorem InF.step {T r:List Nat} {k t:Nat} (h:InF T (k,r)) (hk:k<16) (hT:T.length=32) (hb: ∀ y∈T,y≤16*4294967296) (ht:t=T.getD k 0+38*T.getD (k+16) 0):T.getD k 0≤68719476736∧T.getD (k+16) 0≤68719476736∧InF T (k+1,r.set k t):=by
  obtain ⟨h1,h2,h3,h4,h5⟩:=h
  dsimp only at h1 h2 h3 h4 h5
  have hx:=getD_le hb k
  have hy:=getD_le hb (k+16)
  refine ⟨hx,hy,by dsimp only;omega,by dsimp only;rw [List.length_set];exact h2,fun y hy2=>?_,fun m hm=>?_,?_⟩
  · rcases List.mem_or_eq_of_mem_set hy2 with h|h
    · exact h3 y h
    · rw [h];omega
  · dsimp only at hm ⊢
    rw [getD_set_ne (by omega)]
    exact h4 m (by omega)
  · dsimp only
    have hs:=vV_set (l:=r) (j:=k) (d:=t) (by omega)
    have h0:=h4 k (Nat.le_refl _)
    rw [h0,Nat.mul_zero,Nat.add_zero] at hs
    rw [vV_take (b:=T.take 16) (by rw [List.length_take];omega),vV_take (b:=T.drop 16) (by rw [List.length_drop];omega)]
    have e1:(T.take 16).getD k 0=T.getD k 0:=by
      rw [List.getD_eq_getElem?_getD,List.getD_eq_getElem?_getD,List.getElem?_take_of_lt hk]
    have e2:(T.drop 16).getD k 0=T.getD (k+16) 0:=by
      rw [List.getD_eq_getElem?_getD,List.getD_eq_getElem?_getD,List.getElem?_drop,Nat.add_comm]
    rw [e1,e2]
    have e3:65536^k*t=65536^k*T.getD k 0+38*(65536^k*T.getD (k+16) 0):=by
      rw [ht,Nat.mul_add,Nat.mul_left_comm]
    omega
theorem vV_app: ∀ (a b:List Nat),vV (a++b)=vV a+65536^a.length*vV b
  | [],b=>by simp [vV]
  | x::a,b=>by
    rw [List.cons_append,vV,vV,vV_app a b,List.length_cons,Nat.pow_succ,Nat.mul_add,← Nat.mul_assoc,Nat.mul_comm 65536 (65536^a.length)]
    omega
theorem InF.done {T r:List Nat} (h:InF T (16,r)) (hT:T.length=32):vV r%pP=vV T%pP:=by
  obtain ⟨h1,h2,h3,h4,h5⟩:=h
  dsimp only at h5
  have e:vV T=vV (T.take 16)+65536^16*vV (T.drop 16):=by
    have:=vV_app (T.take 16) (T.drop 16)
    rw [List.take_append_drop,List.length_take,hT] at this
    exact this
  have t1:List.take 16 (List.take 16 T)=List.take 16 T:=take16 (by rw [List.length_take];omega)
  have t2:List.take 16 (List.drop 16 T)=List.drop 16 T:=take16 (by rw [List.length_drop];omega)
  rw [h5,t1,t2,e,pow_256]
  generalize vV (T.take 16)=u
  generalize vV (T.drop 16)=w
  have e2:u+115792089237316195423570985008687907853269984665640564039457584007913129639936*w=u+38*w+pP*(2*w):=by rw [pP_lit];omega
  rw [e2,Nat.add_mul_mod_self_left]
theorem zeros_val: ∀ n,vV (List.replicate n 0)=0
  | 0=>rfl
  | n+1=>by rw [List.replicate_succ,vV,zeros_val n]
theorem zeros_getD (n m:Nat):(List.replicate n 0).getD m 0=0:=by
  rw [List.getD_eq_getElem?_getD,List.getElem?_replicate]
  split <;> rfl
theorem refmul_m {G:Nat→Option (List D)} (x y:F):Spec Tryz.prog G 59 [.g ((refC x).map nD),.g ((refC y).map nD)] (.one (.g ((refC (x*y)).map nD))):=by
  have hfit:=fun (r:List Nat) h1 h2=>fit_m (G:=G) r h1 h2
  have hxy:(vV (refC x)*vV (refC y))%pP=(x*y).val:=by rw [refC_val,refC_val,F.mul_val]
  have hlo:=refC_len (x*y)
  have hout:=refC_of _ hxy
  have hla:=refC_len x
  have hlb:=refC_len y
  have hxa:=refC_lt x
  have hxb:=refC_lt y
  generalize refC (x*y)=O at *
  generalize refC x=a at *
  generalize refC y=b at *
  clear hxy
  obtain ⟨a1,a2,a3⟩:=cd_facts (l:=a.map nD) (n:=16) (by rw [List.length_map];exact hla)
  obtain ⟨b1,b2,b3⟩:=cd_facts (l:=b.map nD) (n:=16) (by rw [List.length_map];exact hlb)
  obtain ⟨o1,o2,o3⟩:=cd_facts (l:=O.map nD) (n:=16) (by rw [List.length_map];exact hlo)
  have hz0:InO a b (0,List.replicate 32 0):=⟨Nat.zero_le _,List.length_replicate,fun y hy=>by rw [List.eq_of_mem_replicate hy];exact Nat.zero_le _,by rw [zeros_val,List.take_zero,vV,Nat.zero_mul]⟩
  refine spec_of Tryz.func59 rfl rfl rfl (by kernel_rfl) rfl fun K=>?_
  (repeat' (first|with_reducible (first|refine zA fun Kn hK=>?_|refine zB (by kernel_rfl) ?_|refine Nx.go ?_|go_step)|fail|with_reducible (first|refine zI ?_|refine zJ ?_|refine zK ?_ ?_|refine zL ?_ ?_|refine zR (by kernel_rfl) ?_)|simp (maxSteps:=9999999) (disch:=omega) only [wq]|(with_reducible refine zM (fun hb=>?_) (fun hb=>?_) <;> (try simp only [hb]))|(with_reducible refine And.intro (by first|omega|(simp;done)|(simp;omega)) ?_)|simp (maxSteps:=9999999) (implicitDefEqProofs:=false) only [go_sem,List.length_map,List.length_replicate,List.drop_replicate,List.take_replicate,hla,hlb,a1,a2,a3,b1,b2,b3,List.append_nil]|fail))
  refine sound_loopR (fun x:{p:Nat × List Nat // InO a b p}=>⟨[(2,vP 2 0),(3,vP 3 0),(4,vP 4 0),(5,vP 5 0),(6,vI x.1.1)],[(2,some ⟨61,(a.map nD).map C.d,true,false⟩),(3,some ⟨61,(b.map nD).map C.d,true,false⟩),(4,some ⟨61,zeroOf Tryz.prog 61,true,false⟩),(5,some ⟨139,(x.1.2.map nD).map C.d,true,false⟩)]⟩) (fun x=>16-x.1.1) ⟨(0,List.replicate 32 0),hz0⟩ [] (by (iterate 2 ((try simp (maxSteps:=9999999) (implicitDefEqProofs:=false) only [go_sem,true_and]);(try simp (maxSteps:=9999999) (disch:=omega) only [wq])));try simp [nD]) (fun ⟨⟨i,r⟩,hI⟩=>?_)
  obtain ⟨hi,hrl,hr3,hr4⟩:=id hI
  dsimp only at hi hrl hr3 hr4
  by_cases hlt:i<16
  · have hb1:decide ((i:Int)<16)=true:=decide_eq_true (by omega)
    have hP0:=InP.zero hI
    (repeat' (first|with_reducible (first|refine zA fun Kn hK=>?_|refine zB (by kernel_rfl) ?_|refine Nx.go ?_|go_step)|fail|with_reducible (first|refine zI ?_|refine zJ ?_|refine zK ?_ ?_|refine zL ?_ ?_|refine zR (by kernel_rfl) ?_)|simp (maxSteps:=9999999) (disch:=omega) only [wq]|(with_reducible refine zM (fun hb=>?_) (fun hb=>?_) <;> (try simp only [hb]))|(with_reducible refine And.intro (by first|omega|(simp;done)|(simp;omega)) ?_)|simp (maxSteps:=9999999) (implicitDefEqProofs:=false) only [go_sem,hb1]|fail))
    refine sound_loopR (fun x:{p:Nat × List Nat // InP a b i p}=>⟨[(2,vP 2 0),(3,vP 3 0),(4,vP 4 0),(5,vP 5 0),(6,vI i),(7,vI x.1.1)],[(2,some ⟨61,(a.map nD).map C.d,true,false⟩),(3,some ⟨61,(b.map nD).map C.d,true,false⟩),(4,some ⟨61,zeroOf Tryz.prog 61,true,false⟩),(5,some ⟨139,(x.1.2.map nD).map C.d,true,false⟩)]⟩) (fun x=>16-x.1.1) ⟨(0,r),hP0⟩ [] (by (iterate 2 ((try simp (maxSteps:=9999999) (implicitDefEqProofs:=false) only [go_sem,true_and]);(try simp (maxSteps:=9999999) (disch:=omega) only [wq])));try simp [nD]) (fun ⟨⟨k,r⟩,hI⟩=>?_)
    obtain ⟨hk,hrl,hr3,hr4,hr5⟩:=id hI
    dsimp only at hk hrl hr3 hr4 hr5
    by_cases hlk:k<16
    · have hb2:decide ((k:Int)<16)=true:=decide_eq_true (by omega)
      have hga:=numsC_get (l:=a) (k:=i) (by omega)
      have hgb:=numsC_get (l:=b) (k:=k) (by omega)
      have hgr:=numsC_get (l:=r) (k:=i+k) (by omega)
      have hxi:=(all_getD (by omega)).1 hxa i (by omega)
      have hyk:=(all_getD (by omega)).1 hxb k (by omega)
      have hpl:a.getD i 0*b.getD k 0≤65535*65535:=Nat.mul_le_mul (by omega) (by omega)
      obtain ⟨hrl2,hst⟩:=InP.step hI hlt hlk hlb rfl hpl
      generalize hp:a.getD i 0*b.getD k 0=p at *
      have hT1:p%18446744073709551616=p:=Nat.mod_eq_of_lt (by omega)
      have hT:(r.getD (i+k) 0+p)%18446744073709551616=r.getD (i+k) 0+p:=Nat.mod_eq_of_lt (by omega)
      have hij:((i:Int)+(k:Int)).toNat=i+k:=by omega
      (repeat' (first|with_reducible (first|refine zA fun Kn hK=>?_|refine zB (by kernel_rfl) ?_|refine Nx.go ?_|go_step)|fail|with_reducible (first|refine zI ?_|refine zJ ?_|refine zK ?_ ?_|refine zL ?_ ?_|refine zR (by kernel_rfl) ?_)|simp (maxSteps:=9999999) (disch:=omega) only [wq]|(with_reducible refine zM (fun hb=>?_) (fun hb=>?_) <;> (try simp only [hb]))|(with_reducible refine And.intro (by first|omega|(simp;done)|(simp;omega)) ?_)|simp (maxSteps:=9999999) (implicitDefEqProofs:=false) only [go_sem,hb2,hga,hgb,hgr,hp,hT1,hT,hij,List.length_map,hrl,hla,hlb]|fail))
      refine ⟨[],⟨(k+1,r.set (i+k) (r.getD (i+k) 0+p)),hst⟩,?_⟩
      (iterate 2 ((try simp (maxSteps:=9999999) (implicitDefEqProofs:=false) only [go_sem,true_and]);(try simp (maxSteps:=9999999) (disch:=omega) only [wq])))
      try (simp only [ijq,true_and,and_true];first|done|omega|(split <;> omega)|(simp;done)|(simp;omega))
    · have hb2:decide ((k:Int)<16)=false:=decide_eq_false (by omega)
      obtain rfl:k=16:=by omega
      have hn:=InP.done hI hlt hla hlb
      (repeat' (first|with_reducible (first|refine zA fun Kn hK=>?_|refine zB (by kernel_rfl) ?_|refine Nx.go ?_|go_step)|fail|with_reducible (first|refine zI ?_|refine zJ ?_|refine zK ?_ ?_|refine zL ?_ ?_|refine zR (by kernel_rfl) ?_)|simp (maxSteps:=9999999) (disch:=omega) only [wq]|(with_reducible refine zM (fun hb=>?_) (fun hb=>?_) <;> (try simp only [hb]))|(with_reducible refine And.intro (by first|omega|(simp;done)|(simp;omega)) ?_)|simp (maxSteps:=9999999) (implicitDefEqProofs:=false) only [go_sem,hb2]|fail))
      refine ⟨[],⟨(i+1,r),hn⟩,?_⟩
      (iterate 2 ((try simp (maxSteps:=9999999) (implicitDefEqProofs:=false) only [go_sem,true_and]);(try simp (maxSteps:=9999999) (disch:=omega) only [wq])))
      try (simp only [ijq,true_and,and_true];first|done|omega|(split <;> omega)|(simp;done)|(simp;omega))
  have hb1:decide ((i:Int)<16)=false:=decide_eq_false (by omega)
  obtain rfl:i=16:=by omega
  rw [take16 hla] at hr4
  have hz1:InF r (0,List.replicate 16 0):=⟨Nat.zero_le _,List.length_replicate,fun y hy=>by rw [List.eq_of_mem_replicate hy];omega,fun m _=>zeros_getD _ _,by rw [zeros_val,List.take_zero,List.take_zero];rfl⟩
  (repeat' (first|with_reducible (first|refine zA fun Kn hK=>?_|refine zB (by kernel_rfl) ?_|refine Nx.go ?_|go_step)|fail|with_reducible (first|refine zI ?_|refine zJ ?_|refine zK ?_ ?_|refine zL ?_ ?_|refine zR (by kernel_rfl) ?_)|simp (maxSteps:=9999999) (disch:=omega) only [wq]|(with_reducible refine zM (fun hb=>?_) (fun hb=>?_) <;> (try simp only [hb]))|(with_reducible refine And.intro (by first|omega|(simp;done)|(simp;omega)) ?_)|simp (maxSteps:=9999999) (implicitDefEqProofs:=false) only [go_sem,hb1,List.length_replicate,List.drop_replicate,List.take_replicate,List.append_nil]|fail))
  refine sound_loopR (fun x:{p:Nat × List Nat // InF r p}=>⟨[(4,vP 4 0),(5,vP 5 0),(8,vP 8 0),(9,vI x.1.1)],[(4,some ⟨61,zeroOf Tryz.prog 61,true,false⟩),(5,some ⟨139,(r.map nD).map C.d,true,false⟩),(8,some ⟨61,(x.1.2.map nD).map C.d,true,false⟩)]⟩) (fun x=>16-x.1.1) ⟨(0,List.replicate 16 0),hz1⟩ [] (by (iterate 2 ((try simp (maxSteps:=9999999) (implicitDefEqProofs:=false) only [go_sem,true_and]);(try simp (maxSteps:=9999999) (disch:=omega) only [wq])));try simp [nD]) (fun ⟨⟨k,m⟩,hI2⟩=>?_)
  obtain ⟨hk,hml,hm3,hm4,hm5⟩:=id hI2
  dsimp only at hk hml hm3 hm4 hm5
  by_cases hlk:k<16
  · have hb2:decide ((k:Int)<16)=true:=decide_eq_true (by omega)
    have hg1:=numsC_get (l:=r) (k:=k) (by omega)
    have hg2:=numsC_get (l:=r) (k:=k+16) (by omega)
    obtain ⟨x1,x2,hst⟩:=InF.step hI2 hlk hrl hr3 rfl
    have hT:(r.getD k 0+38*r.getD (k+16) 0%18446744073709551616)%18446744073709551616=r.getD k 0+38*r.getD (k+16) 0:=by omega
    have hij:((k:Int)+16).toNat=k+16:=by omega
    (repeat' (first|with_reducible (first|refine zA fun Kn hK=>?_|refine zB (by kernel_rfl) ?_|refine Nx.go ?_|go_step)|fail|with_reducible (first|refine zI ?_|refine zJ ?_|refine zK ?_ ?_|refine zL ?_ ?_|refine zR (by kernel_rfl) ?_)|simp (maxSteps:=9999999) (disch:=omega) only [wq]|(with_reducible refine zM (fun hb=>?_) (fun hb=>?_) <;> (try simp only [hb]))|(with_reducible refine And.intro (by first|omega|(simp;done)|(simp;omega)) ?_)|simp (maxSteps:=9999999) (implicitDefEqProofs:=false) only [go_sem,hb2,hg1,hg2,hT,hij,List.length_map,hrl,hml]|fail))
    refine ⟨[],⟨(k+1,m.set k (r.getD k 0+38*r.getD (k+16) 0)),hst⟩,?_⟩
    (iterate 2 ((try simp (maxSteps:=9999999) (implicitDefEqProofs:=false) only [go_sem,true_and]);(try simp (maxSteps:=9999999) (disch:=omega) only [wq])))
    try (simp only [ijq,true_and,and_true];first|done|omega|(split <;> omega)|(simp;done)|(simp;omega))
  have hb2:decide ((k:Int)<16)=false:=decide_eq_false (by omega)
  obtain rfl:k=16:=by omega
  have hd:=InF.done hI2 hrl
  rw [hr4] at hd
  have hf:=hfit m hml hm3
  rw [hd,hout] at hf
  obtain ⟨m1,m2,m3⟩:=cd_facts (l:=m.map nD) (n:=16) (by rw [List.length_map];exact hml)
  (repeat' (first|with_reducible (first|refine zA fun Kn hK=>?_|refine zB (by kernel_rfl) ?_|refine Nx.go ?_|go_step)|(refine ⟨_,hf,?_⟩)|with_reducible (first|refine zI ?_|refine zJ ?_|refine zK ?_ ?_|refine zL ?_ ?_|refine zR (by kernel_rfl) ?_)|simp (maxSteps:=9999999) (disch:=omega) only [wq]|(with_reducible refine zM (fun hb=>?_) (fun hb=>?_) <;> (try simp only [hb]))|(with_reducible refine And.intro (by first|omega|(simp;done)|(simp;omega)) ?_)|simp (maxSteps:=9999999) (implicitDefEqProofs:=false) only [go_sem,hb2,List.length_map,List.length_replicate,List.drop_replicate,hml,hlo,m1,m2,m3,o1,o2,o3,List.append_nil]|fail))
end Go.Proofs.YtdakeodebgggfaaGreatDoor
namespace Go.Proofs.YtdakeodebgggfaaGreatDoor
open Go.RowKit
def ofS (n:Nat):Nat→List Nat
  | 0=>List.replicate 16 0
  | k+1=>(ofS n k).set k (n/65536^k%65536)
theorem ofS_len (n:Nat): ∀ k,(ofS n k).length=16
  | 0=>rfl
  | k+1=>by rw [ofS,List.length_set,ofS_len]
theorem dg_zero: ∀ n,dg n 0=List.replicate n 0
  | 0=>rfl
  | n+1=>by rw [dg,List.replicate_succ,Nat.zero_div,dg_zero n]
theorem ofS_4 {n:Nat} (h:n<18446744073709551616):ofS n 4=refC (toF n):=by
  rw [refC,toF_val,Nat.mod_eq_of_lt (Nat.lt_trans h (by decide +kernel))]
  have h4:n/65536/65536/65536/65536=0:=by omega
  rw [show dg 16 n=n%65536::n/65536%65536::n/65536/65536%65536::n/65536/65536/65536%65536::dg 12 (n/65536/65536/65536/65536) from rfl,h4,dg_zero]
  simp only [ofS,Nat.div_div_eq_div_mul,Nat.pow_zero,Nat.div_one]
  rfl
theorem refof_m {G:Nat→Option (List D)} (n:Nat) (h:n<18446744073709551616):Spec Tryz.prog G 58 [.c (nD n)] (.one (.g ((refC (toF n)).map nD))):=by
  rw [← ofS_4 h]
  have hn:nD n=D.v (.int .u64 (n:Int)):=rfl
  rw [hn]
  refine spec_of Tryz.func58 rfl rfl rfl (by kernel_rfl) rfl fun K=>?_
  (repeat' (first|with_reducible (first|refine zA fun Kn hK=>?_|refine zB (by kernel_rfl) ?_|refine Nx.go ?_|go_step)|fail|with_reducible (first|refine zI ?_|refine zJ ?_|refine zK ?_ ?_|refine zL ?_ ?_|refine zR (by kernel_rfl) ?_)|simp (maxSteps:=9999999) (disch:=omega) only [wq]|(with_reducible refine zM (fun hb=>?_) (fun hb=>?_) <;> (try simp only [hb]))|(with_reducible refine And.intro (by first|omega|(simp;done)|(simp;omega)) ?_)|simp (maxSteps:=9999999) (implicitDefEqProofs:=false) only [go_sem,List.length_map,List.length_replicate,List.drop_replicate,List.take_replicate,List.append_nil]|fail))
  refine sound_loopR (fun x:{k:Nat // k≤4}=>⟨[(0,.a (.c (.d (nD (n/65536^x.1))))),(2,vP 2 0),(3,vP 3 0),(4,vI x.1)],[(2,some ⟨61,zeroOf Tryz.prog 61,true,false⟩),(3,some ⟨61,((ofS n x.1).map nD).map C.d,true,false⟩)]⟩) (fun x=>4-x.1) ⟨0,by omega⟩ [] (by (iterate 2 ((try simp (maxSteps:=9999999) (implicitDefEqProofs:=false) only [go_sem,true_and]);(try simp (maxSteps:=9999999) (disch:=omega) only [wq])));try simp [nD,ofS]) (fun ⟨k,hk⟩=>?_)
  have hol:=ofS_len n k
  by_cases hlt:k<4
  · have hb1:decide ((k:Int)<4)=true:=decide_eq_true (by omega)
    have hle:n/65536^k≤n:=Nat.div_le_self _ _
    have hs:n/65536^(k+1)=n/65536^k/65536:=by rw [Nat.pow_succ,Nat.div_div_eq_div_mul]
    have hofs:ofS n (k+1)=(ofS n k).set k (n/65536^k%65536):=rfl
    generalize n/65536^k=z at *
    have hm:z%65536%18446744073709551616=z%65536:=by omega
    have hd:z/65536%18446744073709551616=z/65536:=by omega
    (repeat' (first|with_reducible (first|refine zA fun Kn hK=>?_|refine zB (by kernel_rfl) ?_|refine Nx.go ?_|go_step)|fail|with_reducible (first|refine zI ?_|refine zJ ?_|refine zK ?_ ?_|refine zL ?_ ?_|refine zR (by kernel_rfl) ?_)|simp (maxSteps:=9999999) (disch:=omega) only [wq]|(with_reducible refine zM (fun hb=>?_) (fun hb=>?_) <;> (try simp only [hb]))|(with_reducible refine And.intro (by first|omega|(simp;done)|(simp;omega)) ?_)|simp (maxSteps:=9999999) (implicitDefEqProofs:=false) only [go_sem,hb1,hm,hd,wrap_nat,List.length_map,hol]|fail))
    refine ⟨[],⟨k+1,hlt⟩,?_⟩
    (iterate 2 ((try simp (maxSteps:=9999999) (implicitDefEqProofs:=false) only [go_sem,hofs,hs]);(try simp (maxSteps:=9999999) (disch:=omega) only [wq])))
    try (simp only [ijq,true_and,and_true];first|done|omega|(split <;> omega)|(simp;done)|(simp;omega))
  have hb1:decide ((k:Int)<4)=false:=decide_eq_false (by omega)
  obtain rfl:k=4:=by omega
  obtain ⟨m1,m2,m3⟩:=cd_facts (l:=(ofS n 4).map nD) (n:=16) (by rw [List.length_map];exact hol)
  generalize ofS n 4=m at *
  (repeat' (first|with_reducible (first|refine zA fun Kn hK=>?_|refine zB (by kernel_rfl) ?_|refine Nx.go ?_|go_step)|fail|with_reducible (first|refine zI ?_|refine zJ ?_|refine zK ?_ ?_|refine zL ?_ ?_|refine zR (by kernel_rfl) ?_)|simp (maxSteps:=9999999) (disch:=omega) only [wq]|(with_reducible refine zM (fun hb=>?_) (fun hb=>?_) <;> (try simp only [hb]))|(with_reducible refine And.intro (by first|omega|(simp;done)|(simp;omega)) ?_)|simp (maxSteps:=9999999) (implicitDefEqProofs:=false) only [go_sem,hb1,List.length_map,List.length_replicate,List.drop_replicate,hol,m1,m2,m3,List.append_nil]|fail))
theorem dg_bit {e i:Nat} (h:i<256):(dg 16 e).getD (i/16) 0/2^(i%16)%2=e/2^i%2:=by
  rw [dg_get (by omega),show (65536:Nat)^(i/16)=2^(16*(i/16)) by rw [Nat.pow_mul],show (65536:Nat)=2^(i%16)*2^(16-i%16) by rw [← Nat.pow_add,show i%16+(16-i%16)=16 by omega],Nat.mod_mul_right_div_self,Nat.div_div_eq_div_mul,← Nat.pow_add,show 16*(i/16)+i%16=i by omega]
  obtain ⟨d,hd⟩: ∃ d,16-i%16=d+1:=⟨15-i%16,by omega⟩
  rw [hd,Nat.pow_succ,Nat.mul_comm,Nat.mod_mul_right_mod]
theorem fpow_step (x:F) (e j:Nat):fpow x (e/2^j)=(if e/2^j%2=1 then fpow x (e/2^(j+1))*fpow x (e/2^(j+1))*x else fpow x (e/2^(j+1))*fpow x (e/2^(j+1))):=by
  have h1:e/2^(j+1)=e/2^j/2:=by rw [Nat.pow_succ,Nat.div_div_eq_div_mul]
  rw [h1]
  generalize e/2^j=a
  rw [← fpow_add]
  split
  · rw [← fpow_succ]
    congr 1
    omega
  · congr 1
    omega
theorem pL_set {w:Nat} (h:w<65517):pL.set 0 (65517-w)=dg 16 (pP-w):=by
  have hd: ∀ y∈pL.set 0 (65517-w),y<65536:=fun y hy=>by
    rcases List.mem_or_eq_of_mem_set hy with h|h
    · exact (show ∀ y∈pL,y<65536 by decide) y h
    · rw [h];omega
  have h1:=dg_vV _ hd
  rw [List.length_set] at h1
  have h2:=vV_set (l:=pL) (j:=0) (d:=65517-w) (by decide)
  rw [Nat.pow_zero,Nat.one_mul,Nat.one_mul,pL_val,show pL.getD 0 0=65517 from rfl] at h2
  have h3:vV (pL.set 0 (65517-w))=pP-w:=by rw [pP_lit] at *;omega
  rw [h3] at h1
  exact h1.symm
end Go.Proofs.YtdakeodebgggfaaGreatDoor
