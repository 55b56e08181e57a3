/- Parts of the proof, laid together. -/
import Derived.Test.YtfammdfpgccnfaaGreatDoorG4
import Derived.Lib.BytesEntry
import Derived.Laws.FloatArith
import Derived.Laws.BitsAllLaws
import Derived.Laws.Bits64b
set_option linter.unusedVariables false
set_option linter.unusedSimpArgs false
set_option maxRecDepth 100000
set_option maxHeartbeats 8000000
namespace Go.Proofs.YtfammdfpgccnfaaGreatDoor
theorem long_iff (y:Nat):longB y=true↔y%4=0∧(y%100≠0∨y%400=0):=by simp [longB]
theorem days2 (y:Nat):daysN y 2=if longB y=true then 29 else 28:=by simp [daysN]
theorem aheadN_succ (y:Nat):aheadN (y+1)=aheadN y+337+daysN y 2:=by
 rw [days2]
 have h:=long_iff y
 unfold aheadN
 rw [if_neg (by omega),Nat.add_sub_cancel]
 by_cases h0:y=0
 ·subst h0
  rw [if_pos rfl,if_pos (h.2 (by decide))]
 ·rw [if_neg h0]
  by_cases hl:longB y=true
  ·rw [if_pos hl]
   have:=h.1 hl
   omega
  ·rw [if_neg hl]
   have: ¬ (y%4=0∧(y%100≠0∨y%400=0)):=fun k=>hl (h.2 k)
   omega
theorem sumD_all (y:Nat):sumD y 12=337+daysN y 2:=by simp [sumD,daysN];omega
theorem sumD_mono (y:Nat) {i j:Nat} (h:i≤j):sumD y i≤sumD y j:=by
 induction h with
 | refl=>exact Nat.le_refl _
 | step _ ih=>rw [sumD];omega
theorem ahead_mono {i j:Nat} (h:i≤j):aheadN i≤aheadN j:=by
 induction h with
 | refl=>exact Nat.le_refl _
 | step _ ih=>rw [aheadN_succ];omega
def yearF:Nat→Nat→Nat→Nat
 | 0,y,_=>y
 | n+1,y,left=>if aheadN (y+1)≤left then yearF n (y+1) left else y
theorem yearF_ok (n:Nat): ∀ (y left:Nat),aheadN y≤left→left<aheadN (y+n+1)→aheadN (yearF n y left)≤left∧left<aheadN (yearF n y left+1):=by
 induction n with
 | zero=>exact fun y left h1 h2=>⟨h1,h2⟩
 | succ n ih =>
  intro y left h1 h2
  rw [yearF]
  by_cases h:aheadN (y+1)≤left
  ·rw [if_pos h]
   refine ih (y+1) left h ?_
   rw [Nat.add_right_comm y 1 n]
   exact h2
  ·rw [if_neg h]
   exact ⟨h1,Nat.lt_of_not_le h⟩
theorem year_one {a b left:Nat} (h1:aheadN a≤left) (h2:left<aheadN (a+1)) (h3:aheadN b≤left) (h4:left<aheadN (b+1)):a=b:=by
 rcases Nat.lt_trichotomy a b with h|h|h
 ·have:=ahead_mono (show a+1≤b from h)
  omega
 ·exact h
 ·have:=ahead_mono (show b+1≤a from h)
  omega
def yearN (left:Nat):Nat:=yearF 10000 (left/366) left
theorem ahead_366 (left:Nat):aheadN (left/366)≤left:=by
 have: ∀ y,aheadN y≤366*y:=by
  intro y
  induction y with
  | zero=>decide
  | succ y ih =>
   rw [aheadN_succ,days2]
   split<;>omega
 have:=this (left/366)
 omega
theorem yearN_ok {left:Nat} (h:left<aheadN 10000):aheadN (yearN left)≤left∧left<aheadN (yearN left+1)∧yearN left<10000:=by
 have h1:=yearF_ok 10000 (left/366) left (ahead_366 left) (Nat.lt_of_lt_of_le h (ahead_mono (by omega)))
 refine ⟨h1.1,h1.2,?_⟩
 apply Decidable.byContradiction
 intro hn
 have:=ahead_mono (show 10000≤yearN left by omega)
 have:=h1.1
 unfold yearN at *
 omega
def monF (y:Nat):Nat→Nat→Nat→Nat
 | 0,m,_=>m
 | n+1,m,left=>if daysN y m≤left then monF y n (m+1) (left-daysN y m) else m
theorem monF_ok (y:Nat): ∀ (n m left l0:Nat),1≤m→m+n=12→left+sumD y (m-1)=l0→l0<sumD y 12→1≤monF y n m left∧monF y n m left≤12∧sumD y (monF y n m left-1)≤l0∧l0<sumD y (monF y n m left)
 | 0,m,left,l0,h1,hn,h2,h3=>by
  obtain rfl:m=12:=by omega
  exact ⟨by show 1≤12;decide,Nat.le_refl _,by show sumD y (12-1)≤l0;omega,h3⟩
 | n + 1,m,left,l0,h1,hn,h2,h3=>by
  obtain ⟨j,rfl⟩: ∃ j,m=j+1:=⟨m-1,by omega⟩
  rw [Nat.add_sub_cancel] at h2
  rw [monF]
  split
  ·rename_i h
   exact monF_ok y n (j+1+1) (left-daysN y (j+1)) l0 (by omega) (by omega) (by rw [Nat.add_sub_cancel,sumD];omega) h3
  ·rename_i h
   exact ⟨h1,by omega,by rw [Nat.add_sub_cancel];omega,by rw [sumD];omega⟩
theorem mon_one {y a b l:Nat} (ha:1≤a) (hb:1≤b) (h1:sumD y (a-1)≤l) (h2:l<sumD y a) (h3:sumD y (b-1)≤l) (h4:l<sumD y b):a=b:=by
 rcases Nat.lt_trichotomy a b with h|h|h
 ·have:=sumD_mono y (show a≤b-1 by omega)
  omega
 ·exact h
 ·have:=sumD_mono y (show b≤a-1 by omega)
  omega
def dgW (k:Nat):UInt8:=UInt8.ofNat (48+k%10)
theorem dgW_nat (k:Nat):(dgW k).toNat=48+k%10:=UInt8.toNat_ofNat_of_lt' (by simp only [UInt8.size];omega)
theorem dgW_dg (k:Nat):isDg (dgW k)=true:=by
 rw [isDg,decide_eq_true_iff,dgW_nat]
 omega
theorem dgW_of {c:UInt8} (h:isDg c=true) {k:Nat} (hk:k%10=c.toNat-48):dgW k=c:=by
 have:=of_decide_eq_true h
 rw [← UInt8.toNat_inj,dgW_nat]
 omega
def put2 (n:Nat):List UInt8:=[dgW (n/10),dgW n]
def put4 (n:Nat):List UInt8:=[dgW (n/1000),dgW (n/100),dgW (n/10),dgW n]
theorem num2 (x y:UInt8):numV [x,y]=10*(x.toNat-48)+(y.toNat-48):=by simp [numV]
theorem num4 (x y z u:UInt8):numV [x,y,z,u]=1000*(x.toNat-48)+100*(y.toNat-48)+10*(z.toNat-48)+(u.toNat-48):=by
 simp [numV]
 omega
theorem num_put2 {n:Nat} (h:n<100):numV (put2 n)=n:=by
 rw [put2,num2,dgW_nat,dgW_nat]
 omega
theorem num_put4 {n:Nat} (h:n<10000):numV (put4 n)=n:=by
 rw [put4,num4,dgW_nat,dgW_nat,dgW_nat,dgW_nat]
 omega
theorem put2_num {x y:UInt8} (hx:isDg x=true) (hy:isDg y=true):put2 (numV [x,y])=[x,y]:=by
 have h1:=of_decide_eq_true hx
 have h2:=of_decide_eq_true hy
 rw [put2,num2,dgW_of hx (by omega),dgW_of hy (by omega)]
theorem put4_num {x y z u:UInt8} (hx:isDg x=true) (hy:isDg y=true) (hz:isDg z=true) (hu:isDg u=true):put4 (numV [x,y,z,u])=[x,y,z,u]:=by
 have h1:=of_decide_eq_true hx
 have h2:=of_decide_eq_true hy
 have h3:=of_decide_eq_true hz
 have h4:=of_decide_eq_true hu
 rw [put4,num4,dgW_of hx (by omega),dgW_of hy (by omega),dgW_of hz (by omega),dgW_of hu (by omega)]
def dateT (y m d h mi s:Nat):List UInt8:=put4 y++[45]++put2 m++[45]++put2 d++[95]++put2 h++[58]++put2 mi++[58]++put2 s
def monN (y l:Nat):Nat:=monF y 11 1 l
def dateS (n:Nat):List UInt8:=
 dateT (yearN (n/86400)) (monN (yearN (n/86400)) (n/86400-aheadN (yearN (n/86400)))) (n/86400-aheadN (yearN (n/86400))-sumD (yearN (n/86400)) (monN (yearN (n/86400)) (n/86400-aheadN (yearN (n/86400)))-1)+1) (n%86400/3600) (n%86400/60%60) (n%86400%60)
def maxN:Nat:=aheadN 10000*86400
theorem dateP_T {y m d h mi s:Nat} (hy:y<10000) (hm:m<100) (hd:d<100) (hh:h<100) (hmi:mi<100) (hs:s<100):dateP (dateT y m d h mi s)=match clk3 h mi s with
  | some t=>dayO (aheadN y) y m d t
  | none=>none:=by
 have e45: ¬ (45:UInt8).toNat=48:=by decide
 have e95: ¬ (95:UInt8).toNat=48:=by decide
 have e58: ¬ (58:UInt8).toNat=48:=by decide
 have n1:=num_put4 hy
 have n2:=num_put2 hm
 have n3:=num_put2 hd
 have n4:=num_put2 hh
 have n5:=num_put2 hmi
 have n6:=num_put2 hs
 unfold put2 at n2 n3 n4 n5 n6
 unfold put4 at n1
 simp only [dateP,dateT,clockP,put2,put4,datF,clkF,List.cons_append,List.nil_append,fitsB,fitB_dg,fitB_at _ _ e45,fitB_at _ _ e95,fitB_at _ _ e58,dgW_dg,decide_true,Bool.true_and,if_true,List.drop_succ_cons,List.drop_zero,List.take_succ_cons,List.take_zero,n1,n2,n3,n4,n5,n6]
 all_goals (cases clk3 h mi s<;>rfl)
theorem clk_in {t:Nat} (h:t<86400):clk3 (t/3600) (t/60%60) (t%60)=some t:=by
 rw [clk3,if_neg (by omega)]
 congr 1
 omega
theorem date_put {n:Nat} (h:n<maxN):dateP (dateS n)=some n:=by
 unfold maxN at h
 have hl:n/86400<aheadN 10000:=Nat.div_lt_of_lt_mul (by rw [Nat.mul_comm];exact h)
 obtain ⟨y1,y2,y3⟩:=yearN_ok hl
 rw [dateS]
 generalize yearN (n/86400)=y at *
 have hsum:=sumD_all y
 rw [aheadN_succ] at y2
 obtain ⟨m1,m2,m3,m4⟩:=monF_ok y 11 1 (n/86400-aheadN y) (n/86400-aheadN y) (Nat.le_refl _) rfl rfl (by omega)
 change 1≤monN y (n/86400-aheadN y) at m1
 change monN y (n/86400-aheadN y)≤12 at m2
 change sumD y (monN y (n/86400-aheadN y)-1)≤_ at m3
 change _<sumD y (monN y (n/86400-aheadN y)) at m4
 generalize monN y (n/86400-aheadN y)=m at *
 obtain ⟨j,rfl⟩: ∃ j,m=j+1:=⟨m-1,by omega⟩
 rw [Nat.add_sub_cancel] at *
 rw [sumD] at m4
 have hd:=daysN_le y (j+1)
 rw [dateP_T y3 (by omega) (by omega) (by omega) (by omega) (by omega),clk_in (Nat.mod_lt _ (by decide))]
 show dayO _ _ _ _ _=_
 rw [dayO,if_neg (by omega)]
 congr 1
 rw [Nat.add_sub_cancel,Nat.add_sub_cancel]
 omega
theorem date_get {b:List UInt8} {n:Nat} (h:dateP b=some n):n<maxN∧dateS n=b:=by
 have e45: ¬ (45:UInt8).toNat=48:=by decide
 have e95: ¬ (95:UInt8).toNat=48:=by decide
 have e58: ¬ (58:UInt8).toNat=48:=by decide
 by_cases hf:fitsB b datF=true
 ·have hlen:=fitsB_len hf
  match b,hlen with
  | [a0,a1,a2,a3,a4,a5,a6,a7,a8,a9,a10,b0,b1,b2,b3,b4,b5,b6,b7],_ =>
  rw [dateP,if_pos hf] at h
  simp only [fitsB,datF,fitB_dg,fitB_at _ _ e45,fitB_at _ _ e95,fitB_at _ _ e58,Bool.and_eq_true,decide_eq_true_eq] at hf
  obtain ⟨d0,d1,d2,d3,rfl,d5,d6,rfl,d8,d9,rfl,c0,c1,rfl,c3,c4,rfl,c6,c7,_⟩:=hf
  have hc:fitsB [b0,b1,58,b3,b4,58,b6,b7] clkF=true:=by simp only [fitsB,clkF,fitB_dg,fitB_at _ _ e58,c0,c1,c3,c4,c6,c7,decide_true,Bool.and_self]
  simp only [List.drop_succ_cons,List.drop_zero,List.take_succ_cons,List.take_zero,clockP,hc,if_true] at h
  have p1:=put4_num d0 d1 d2 d3
  have p2:=put2_num d5 d6
  have p3:=put2_num d8 d9
  have p4:=put2_num c0 c1
  have p5:=put2_num c3 c4
  have p6:=put2_num c6 c7
  have q1:numV [a0,a1,a2,a3]<10000:=by
   have:=of_decide_eq_true d0;have:=of_decide_eq_true d1;have:=of_decide_eq_true d2;have:=of_decide_eq_true d3
   rw [num4];omega
  generalize numV [a0,a1,a2,a3]=y at *
  generalize numV [a5,a6]=m at *
  generalize numV [a8,a9]=d at *
  generalize numV [b0,b1]=hh at *
  generalize numV [b3,b4]=mi at *
  generalize numV [b6,b7]=s at *
  have ht:dateT y m d hh mi s=[a0,a1,a2,a3,45,a5,a6,45,a8,a9,95,b0,b1,58,b3,b4,58,b6,b7]:=by
   rw [dateT,p1,p2,p3,p4,p5,p6]
   rfl
  rw [← ht]
  clear ht p1 p2 p3 p4 p5 p6 d0 d1 d2 d3 d5 d6 d8 d9 c0 c1 c3 c4 c6 c7 hc
  unfold clk3 at h
  by_cases hk:23<hh∨59<mi∨59<s
  ·rw [if_pos hk] at h
   cases h
  ·rw [if_neg hk] at h
   dsimp only at h
   rw [dayO] at h
   by_cases hd:m<1∨12<m∨d<1∨daysN y m<d
   ·rw [if_pos hd] at h
    cases h
   ·rw [if_neg hd] at h
    injection h with h
    obtain ⟨j,rfl⟩: ∃ j,m=j+1:=⟨m-1,by omega⟩
    rw [Nat.add_sub_cancel] at h
    have hs1:=sumD_mono y (show j+1≤12 by omega)
    rw [sumD_all] at hs1
    have hs2:sumD y (j+1)=sumD y j+daysN y (j+1):=rfl
    have ha:=aheadN_succ y
    have hmax:=ahead_mono (show y+1≤10000 by omega)
    have e1:n/86400=aheadN y+(d-1)+sumD y j:=by omega
    have e2:n%86400=3600*hh+60*mi+s:=by omega
    have hlt:n/86400<aheadN 10000:=by omega
    obtain ⟨y1,y2,y3⟩:=yearN_ok hlt
    have ey:yearN (n/86400)=y:=year_one y1 y2 (by omega) (by omega)
    refine ⟨by unfold maxN;omega,?_⟩
    rw [dateS,ey]
    have hsum:=sumD_all y
    obtain ⟨m1,m2,m3,m4⟩:=monF_ok y 11 1 (n/86400-aheadN y) (n/86400-aheadN y) (Nat.le_refl _) rfl rfl (by omega)
    have em:monN y (n/86400-aheadN y)=j+1:=mon_one m1 (by omega) m3 m4 (by rw [Nat.add_sub_cancel];omega) (by omega)
    rw [em,Nat.add_sub_cancel]
    congr 1<;>omega
 ·rw [dateP,if_neg hf] at h
  cases h
attribute [irreducible] maxN
structure Wd where
 aft:Bool
 frm:Int
 unt:Bool
 to:Int
deriving DecidableEq
def Wd.none:Wd:=⟨false,0,false,0⟩
def wValid:List UInt8:=[118,97,108,105,100]
def wNB:List UInt8:=[110,111,116,45,98,101,102,111,114,101]
def wNA:List UInt8:=[110,111,116,45,97,102,116,101,114]
def sideW (is:Bool) (n:Int):Bool:=(is&&decide (0≤n∧n<(maxN:Int)))||(!is&&decide (n=0))
def Wd.may (w:Wd):Bool:=sideW w.aft w.frm&&sideW w.unt w.to
def endV (word:List UInt8) (n:Int):Tree:=listT [atomT word,atomT (dateS n.toNat)]
def wdK (w:Wd):List Tree:=(if w.aft then [endV wNB w.frm] else [])++(if w.unt then [endV wNA w.to] else [])
def Wd.val (w:Wd):Tree:=listT (atomT wValid::wdK w)
def endR (v:Tree) (word:List UInt8):Option Nat:=
 if headB v word then (match v.kids with
  | [_,y]=>if y.list||y.hinted then none else dateP y.data
  | _=>none)
 else none
def getR (v:Tree):Option Wd:=
 if headB v wValid then
  let l:=v.kids.drop 1
  let (a,n,l1):=match l with
   | []=>(false,0,[])
   | x::m=>(match endR x wNB with
    | some n=>(true,n,m)
    | none=>(false,0,x::m))
  let (u,k,l2):=match l1 with
   | []=>(false,0,[])
   | x::m=>(match endR x wNA with
    | some n=>(true,n,m)
    | none=>(false,0,x::m))
  match l2 with
  | []=>some ⟨a,(n:Nat),u,(k:Nat)⟩
  | _=>none
 else none
def stepW (w:Wd) (k:Tree):Wd:=match k.kids with
 | [x,y]=>if x.data=wNB then ⟨(dateP y.data).isSome,((dateP y.data).getD 0:Nat),w.unt,w.to⟩
  else if x.data=wNA then ⟨w.aft,w.frm,(dateP y.data).isSome,((dateP y.data).getD 0:Nat)⟩
  else w
 | _=>w
def readW (v:Tree):Wd:=(v.kids.drop 1).foldl stepW Wd.none
theorem side_t {n:Int} (h:sideW true n=true):0≤n∧n<(maxN:Int):=by simpa [sideW] using h
theorem side_f {n:Int} (h:sideW false n=true):n=0:=by simpa [sideW] using h
theorem date_int {n:Int} (h:0≤n∧n<(maxN:Int)):dateP (dateS n.toNat)=some n.toNat:=date_put (by omega)
theorem may_mk (a:Bool) (n:Int) (u:Bool) (k:Int):(Wd.mk a n u k).may=(sideW a n&&sideW u k):=rfl
theorem stepW_mk (w:Wd) (x:List UInt8) (y:Tree):stepW w (listT [atomT x,y])=if x=wNB then ⟨(dateP y.data).isSome,((dateP y.data).getD 0:Nat),w.unt,w.to⟩
  else if x=wNA then ⟨w.aft,w.frm,(dateP y.data).isSome,((dateP y.data).getD 0:Nat)⟩
  else w:=rfl
theorem atom_data (b:List UInt8):(atomT b).data=b:=rfl
theorem step_B (w:Wd) {n:Int} (h:0≤n∧n<(maxN:Int)):stepW w (endV wNB n)=⟨true,n,w.unt,w.to⟩:=by
 have e:((n.toNat:Nat):Int)=n:=by omega
 rw [endV,stepW_mk,if_pos rfl,atom_data,date_int h,Option.getD_some,e]
 rfl
theorem step_A (w:Wd) {n:Int} (h:0≤n∧n<(maxN:Int)):stepW w (endV wNA n)=⟨w.aft,w.frm,true,n⟩:=by
 have e:((n.toNat:Nat):Int)=n:=by omega
 rw [endV,stepW_mk,if_neg (by decide),if_pos rfl,atom_data,date_int h,Option.getD_some,e]
 rfl
theorem readW_val {w:Wd} (h:w.may=true):readW w.val=w:=by
 obtain ⟨a,n,u,k⟩:=w
 rw [Wd.may,Bool.and_eq_true] at h
 obtain ⟨h1,h2⟩:=h
 dsimp only at h1 h2
 show (wdK _).foldl stepW Wd.none=_
 unfold wdK
 dsimp only
 cases a with
 | true =>
  cases u with
  | true =>
   show stepW (stepW Wd.none (endV wNB n)) (endV wNA k)=_
   rw [step_B _ (side_t h1),step_A _ (side_t h2)]
  | false =>
   obtain rfl:=side_f h2
   show stepW Wd.none (endV wNB n)=_
   rw [step_B _ (side_t h1)]
   rfl
 | false =>
  obtain rfl:=side_f h1
  cases u with
  | true =>
   show stepW Wd.none (endV wNA k)=_
   rw [step_A _ (side_t h2)]
   rfl
  | false =>
   obtain rfl:=side_f h2
   rfl
theorem headB_list (l:List Tree) (x:List UInt8) (s:List UInt8):headB (listT (atomT x::l)) s=decide (x=s):=by
 simp only [headB,listT,Tree.list,Tree.kids,Bool.true_and]
 rw [Bool.eq_iff_iff]
 simp [isB,atomT,Tree.list,Tree.hinted,Tree.data]
theorem endR_val {n:Int} (h:0≤n∧n<(maxN:Int)) (word s:List UInt8):endR (endV word n) s=if word=s then some n.toNat else none:=by
 unfold endR endV
 rw [headB_list]
 by_cases hw:word=s
 ·rw [decide_eq_true hw,if_pos rfl,if_pos hw]
  show (if _ then _ else dateP (dateS n.toNat))=_
  rw [date_int h]
  rfl
 ·rw [decide_eq_false hw,if_neg (by simp),if_neg hw]
theorem getR_val {w:Wd} (h:w.may=true):getR w.val=some w:=by
 obtain ⟨a,n,u,k⟩:=w
 rw [Wd.may,Bool.and_eq_true] at h
 obtain ⟨h1,h2⟩:=h
 dsimp only at h1 h2
 unfold getR Wd.val
 rw [headB_list,decide_eq_true rfl,if_pos rfl]
 have hd: ∀ l,(listT (atomT wValid::l)).kids.drop 1=l:=fun _=>rfl
 rw [hd]
 unfold wdK
 dsimp only
 cases a with
 | true =>
  have e:=side_t h1
  have ei:((n.toNat:Nat):Int)=n:=by omega
  cases u with
  | true =>
   have e2:=side_t h2
   have ei2:((k.toNat:Nat):Int)=k:=by omega
   simp only [if_true,List.cons_append,List.nil_append]
   rw [endR_val e,if_pos rfl]
   dsimp only
   rw [endR_val e2,if_pos rfl]
   dsimp only
   rw [ei,ei2]
  | false =>
   obtain rfl:=side_f h2
   simp only [if_true,Bool.false_eq_true,if_false,List.append_nil]
   rw [endR_val e,if_pos rfl]
   dsimp only
   rw [ei]
   rfl
 | false =>
  obtain rfl:=side_f h1
  cases u with
  | true =>
   have e2:=side_t h2
   have ei2:((k.toNat:Nat):Int)=k:=by omega
   simp only [if_true,Bool.false_eq_true,if_false,List.nil_append]
   rw [endR_val e2,if_neg (by decide)]
   dsimp only
   rw [endR_val e2,if_pos rfl]
   dsimp only
   rw [ei2]
   rfl
  | false =>
   obtain rfl:=side_f h2
   rfl
theorem kid_clean' {v x:Tree} (h:v.clean=true) (hx:x∈v.kids):x.clean=true:=by
 rw [Tree.clean_eq,Bool.and_eq_true] at h
 exact List.all_eq_true.1 h.2 x hx
theorem clean_fair' {v:Tree} (h:v.clean=true):v.fair=true:=by
 rw [Tree.clean_eq,Bool.and_eq_true] at h
 exact h.1
theorem headB_of {v:Tree} (hc:v.clean=true) {s:List UInt8} (h:headB v s=true):v=listT (atomT s::v.kids.drop 1):=by
 unfold headB at h
 rw [Bool.and_eq_true] at h
 obtain ⟨h1,h2⟩:=h
 have hl:=fair_listT (clean_fair' hc) h1
 cases hk:v.kids with
 | nil=>rw [hk] at h2;cases h2
 | cons x l =>
  rw [hk] at h2
  have hx:=(isB_iff (clean_fair' (kid_clean' hc (by rw [hk];simp)))).1 h2
  rw [hl,hk,hx]
  rfl
theorem endR_of {v:Tree} (hc:v.clean=true) {s:List UInt8} {n:Nat} (h:endR v s=some n):n<maxN∧v=endV s n:=by
 unfold endR at h
 split at h
 ·rename_i hh
  have hv:=headB_of hc hh
  split at h
  ·rename_i x y hk
   split at h
   ·cases h
   ·rename_i hp
    obtain ⟨h1,h2⟩:=date_get h
    refine ⟨h1,?_⟩
    rw [hv,hk]
    simp only [Bool.or_eq_true,not_or,Bool.not_eq_true] at hp
    have hy:=fair_atomT (clean_fair' (kid_clean' hc (by rw [hk];simp))) hp.1 hp.2
    rw [hy,← h2]
    rfl
  ·cases h
 ·cases h
theorem getR_of {v:Tree} {w:Wd} (hc:v.clean=true) (h:getR v=some w):w.may=true∧w.val=v:=by
 unfold getR at h
 split at h
 ·rename_i hh
  have hv:=headB_of hc hh
  have hm: ∀ x∈v.kids.drop 1,x.clean=true:=fun x hx=>kid_clean' hc (List.mem_of_mem_drop hx)
  rw [hv]
  generalize v.kids.drop 1=l at *
  have key: ∀ (n:Nat),n<maxN→sideW true (n:Int)=true:=fun n hn=>by
   simp only [sideW,Bool.true_and,Bool.not_true,Bool.false_and,Bool.or_false,decide_eq_true_eq]
   omega
  have k0:sideW false ((0:Nat):Int)=true:=by decide
  have k1:sideW false 0=true:=by decide
  cases l with
  | nil =>
   injection h with h
   subst h
   exact ⟨by decide,rfl⟩
  | cons x m =>
   dsimp only at h
   cases hx:endR x wNB with
   | some n =>
    rw [hx] at h
    obtain ⟨a1,rfl⟩:=endR_of (hm x (by simp)) hx
    dsimp only at h
    cases m with
    | nil =>
     injection h with h
     subst h
     exact ⟨by rw [may_mk,key n a1,k0];rfl,rfl⟩
    | cons y m =>
     dsimp only at h
     cases hy:endR y wNA with
     | some k =>
      rw [hy] at h
      obtain ⟨a2,rfl⟩:=endR_of (hm y (by simp)) hy
      dsimp only at h
      cases m with
      | nil =>
       injection h with h
       subst h
       exact ⟨by rw [may_mk,key n a1,key k a2];rfl,rfl⟩
      | cons z m=>cases h
     | none =>
      rw [hy] at h
      cases h
   | none =>
    rw [hx] at h
    dsimp only at h
    cases hy:endR x wNA with
    | some k =>
     rw [hy] at h
     obtain ⟨a2,rfl⟩:=endR_of (hm x (by simp)) hy
     dsimp only at h
     cases m with
     | nil =>
      injection h with h
      subst h
      exact ⟨by rw [may_mk,k0,key k a2];rfl,rfl⟩
     | cons z m=>cases h
    | none =>
     rw [hy] at h
     cases h
 ·cases h
theorem getW_eq {v:Tree} (hc:v.clean=true):(∀ w,getR v=some w→readW v=w∧w.may=true∧w.val=v)∧(getR v=none→ ¬ ((readW v).may=true∧(readW v).val=v)):=by
 refine ⟨fun w h=>?_,fun h ⟨h1,h2⟩=>?_⟩
 ·obtain ⟨a,b⟩:=getR_of hc h
  exact ⟨by rw [← b];exact readW_val a,a,b⟩
 ·have:=getR_val h1
  rw [h2,h] at this
  cases this
def Tg.nodes (t:Tg):Nat:=1+(t.kids.attach.map fun x=>Tg.nodes x.1).sum
termination_by SizeOf.sizeOf t
decreasing_by exact Tg.kid_lt x.2
theorem Tg.nodes_eq (t:Tg):t.nodes=1+(t.kids.map Tg.nodes).sum:=by
 rw [Tg.nodes]
 congr 2
 simp
section
variable (isV:UInt8→List UInt8→Bool)
def Tg.rightD (t:Tg) (deep:Nat):Bool:=t.ok isV&&(decide (deep≤17)&&t.kids.attach.all fun x=>Tg.rightD x.1 (deep+1))
termination_by SizeOf.sizeOf t
decreasing_by exact Tg.kid_lt x.2
theorem Tg.rightD_eq (t:Tg) (deep:Nat):t.rightD isV deep=(t.ok isV&&(decide (deep≤17)&&t.kids.all fun x=>x.rightD isV (deep+1))):=by
 rw [Tg.rightD]
 congr 2
 simp
end
section
variable {isV:UInt8→List UInt8→Bool}
theorem right_of_D: ∀ (t:Tg) (n:Nat),t.rightD isV n=true→t.right isV=true:=by
 refine Tg.ind fun t ih n h=>?_
 rw [Tg.rightD_eq] at h
 simp only [Bool.and_eq_true,List.all_eq_true] at h
 rw [Tg.right_eq,Bool.and_eq_true,List.all_eq_true]
 exact ⟨h.1,fun x hx=>ih x hx (n+1) (h.2.2 x hx)⟩
theorem val_kids {t:Tg} (h:t.right isV=true) (hk:t.kids≠[]): ∃ l,t.val=listT (l++t.kids.map Tg.val):=by
 rw [Tg.right_eq,Bool.and_eq_true] at h
 obtain ⟨k,d,l,o,lo,hi⟩:=t
 obtain ⟨hok,_⟩:=h
 rw [Tg.ok,Bool.and_eq_true,blank_of] at hok
 have hl:l≠[]:=hk
 have he:emptyL l=false:=by cases l<;>simp_all [emptyL]
 rw [val_of]
 show ∃ m,_=listT (m++l.map Tg.val)
 obtain ⟨hb,_⟩:=hok
 by_cases h1:k=1
 ·rw [if_pos h1,he] at hb
  simp at hb
 rw [if_neg h1] at hb
 rw [if_neg h1]
 by_cases h25:k=2∨k=5
 ·rw [if_pos h25,he] at hb
  simp at hb
 rw [if_neg h25] at hb
 have h2: ¬ k=2:=fun e=>h25 (.inl e)
 have h5: ¬ k=5:=fun e=>h25 (.inr e)
 rw [if_neg h2]
 by_cases h4:k=4
 ·rw [if_pos h4]
  exact ⟨[atomT wStar,atomT wSet],rfl⟩
 rw [if_neg h4,if_neg h5]
 by_cases h6:k=6
 ·have h34: ¬ (k=3∨k=4):=by rw [h6];decide
  rw [if_neg h34,he] at hb
  simp at hb
 rw [if_neg h6]
 exact ⟨[],rfl⟩
theorem nodes_pos (v:Tree):1≤v.nodes:=by rw [Tree.nodes_eq];omega
theorem val_nodes: ∀ t:Tg,t.right isV=true→t.nodes≤t.val.nodes:=by
 refine Tg.ind fun t ih h=>?_
 by_cases hk:t.kids=[]
 ·rw [Tg.nodes_eq,hk]
  exact nodes_pos _
 ·obtain ⟨l,hv⟩:=val_kids h hk
  rw [Tg.right_eq,Bool.and_eq_true,List.all_eq_true] at h
  rw [hv,Tg.nodes_eq,Tree.nodes_eq]
  have: ∀ m:List Tg,(∀ x∈m,x.nodes≤x.val.nodes)→(m.map Tg.nodes).sum≤((m.map Tg.val).map Tree.nodes).sum:=by
   intro m
   induction m with
   | nil=>simp
   | cons x m ih2 =>
    intro hm
    have h1:=hm x (by simp)
    have h2:=ih2 fun y hy=>hm y (by simp [hy])
    simp only [List.map_cons,List.sum_cons]
    omega
  have h3:=this t.kids fun x hx=>ih x hx (h.2 x hx)
  simp only [listT,Tree.kids,List.map_append,List.sum_append]
  omega
theorem D_of_right: ∀ (t:Tg) (n:Nat),t.right isV=true→n≤17→t.val.deep+n≤17→t.rightD isV n=true:=by
 refine Tg.ind fun t ih n h hn hd=>?_
 have h':=h
 rw [Tg.right_eq,Bool.and_eq_true,List.all_eq_true] at h
 rw [Tg.rightD_eq,h.1,decide_eq_true hn,Bool.true_and,Bool.true_and,List.all_eq_true]
 intro x hx
 obtain ⟨l,hv⟩:=val_kids h' (fun e=>by rw [e] at hx;cases hx)
 have h1:x.val.deep+1≤t.val.deep:=by
  rw [hv,Tree.deep_eq (listT _),show (listT (l++t.kids.map Tg.val)).list=true from rfl,show (listT (l++t.kids.map Tg.val)).kids=l++t.kids.map Tg.val from rfl,if_pos rfl]
  have:=(most_le (l:=(l++t.kids.map Tg.val).map Tree.deep)).1 (Nat.le_refl _) x.val.deep (List.mem_map.2 ⟨x.val,List.mem_append.2 (.inr (List.mem_map.2 ⟨x,hx,rfl⟩)),rfl⟩)
  omega
 exact ih x hx (n+1) (h.2 x hx) (by omega) (by omega)
theorem atom_clean (b:List UInt8):(atomT b).clean=true:=by
 rw [Tree.clean_eq]
 simp [atomT,Tree.fair,Tree.list,Tree.kids,Tree.hint]
theorem list_clean {l:List Tree} (h: ∀ x∈l,x.clean=true):(listT l).clean=true:=by
 rw [Tree.clean_eq,Bool.and_eq_true,List.all_eq_true]
 exact ⟨by simp [listT,Tree.fair,Tree.list,Tree.hinted,Tree.hint,Tree.data],h⟩
theorem bdT_clean {b:Bd} {w:List UInt8}: ∀ x∈bdT b w,x.clean=true:=fun x hx=>by
 unfold bdT at hx
 split at hx
 ·simp only [List.mem_cons,List.not_mem_nil,or_false] at hx
  rcases hx with rfl|rfl<;>exact atom_clean _
 ·cases hx
theorem val_clean: ∀ t:Tg,t.val.clean=true:=by
 refine Tg.ind fun t ih=>?_
 have hm: ∀ x∈t.kids.map Tg.val,x.clean=true:=fun x hx=>by
  obtain ⟨y,hy,rfl⟩:=List.mem_map.1 hx
  exact ih y hy
 rw [Tg.val_eq]
 repeat' split
 all_goals first|exact atom_clean _|exact list_clean hm|refine list_clean fun x hx=>?_
 all_goals
  simp only [List.mem_cons,List.mem_append,List.not_mem_nil,or_false] at hx
  first
   | (rcases hx with rfl|rfl|hx<;>first|exact atom_clean _|exact hm x hx)
   | (rcases hx with rfl|rfl|rfl|hx|hx<;>first|exact atom_clean _|exact bdT_clean x hx)
   | (rcases hx with rfl|rfl|rfl<;>exact atom_clean _)
   | (subst hx;exact atom_clean _)
end
theorem right_mk (kd:UInt8) (ks:Bool) (d:List UInt8) (ns:List (List UInt8)) (k:Int) (l:List Sb) (deep:Nat):(Sb.mk kd ks d ns k l).right deep =
  if kd=1 then (Sb.mk kd ks d ns k l).plain&&emptyL ns
  else if kd=2 then (Sb.mk kd ks d ns k l).plain&&(Sb.mk kd ks d ns k l).names2
  else if kd=3 then (Sb.mk kd ks d ns k l).ok3 deep&&l.all fun x=>x.right (deep+1)
  else false:=Sb.right_eq _ _
theorem sval_mk (kd:UInt8) (ks:Bool) (d:List UInt8) (ns:List (List UInt8)) (k:Int) (l:List Sb):(Sb.mk kd ks d ns k l).val =
  if kd=1 then keyV ks d
  else if kd=2 then listT (atomT tName::keyV ks d::ns.map atomT)
  else listT (atomT tKofN::atomT (dec k.toNat)::atomT (dec l.length)::l.map Sb.val):=Sb.val_eq _
theorem decs:dec 1=[49]∧dec 2=[50]∧dec 3=[51]∧dec 4=[52]∧dec 5=[53]∧dec 6=[54]∧dec 7=[55]∧dec 8=[56]:=by
 simp [dec]
theorem small_dec {n:Nat} (h1:1≤n) (h8:n≤8):smallT (atomT (dec n))=some n:=by
 obtain ⟨d1,d2,d3,d4,d5,d6,d7,d8⟩:=decs
 match n,h1,h8 with
 | 1,_,_|2,_,_|3,_,_|4,_,_|5,_,_|6,_,_|7,_,_|8,_,_=>simp [smallT,isB_atom,d1,d2,d3,d4,d5,d6,d7,d8]
theorem small_of {v:Tree} (hv:v.fair=true) {n:Nat} (h:smallT v=some n):1≤n∧n≤8∧v=atomT (dec n):=by
 unfold smallT at h
 repeat' split at h
 all_goals first
  | (rename_i hb
     injection h with h
     subst h
     exact ⟨by decide,by decide,(isB_iff hv).1 hb⟩)
  | cases h
theorem lenP_dec {n:Nat} (h1:1≤n) (h8:n≤8):lenP (dec n)=n:=by
 obtain ⟨d1,d2,d3,d4,d5,d6,d7,d8⟩:=decs
 match n,h1,h8 with
 | 1,_,_=>rw [d1];rfl
 | 2,_,_=>rw [d2];rfl
 | 3,_,_=>rw [d3];rfl
 | 4,_,_=>rw [d4];rfl
 | 5,_,_=>rw [d5];rfl
 | 6,_,_=>rw [d6];rfl
 | 7,_,_=>rw [d7];rfl
 | 8,_,_=>rw [d8];rfl
theorem keyV_clean (s:Bool) (d:List UInt8):(keyV s d).clean=true:=by
 have hl: ∀ l:List Tree,(∀ x∈l,x.clean=true)→(listT l).clean=true:=fun l h=>list_clean h
 unfold keyV
 split
 ·exact hl _ fun x hx=>by
   simp only [List.mem_cons,List.not_mem_nil,or_false] at hx
   rcases hx with rfl|rfl|rfl<;>exact atom_clean _
 ·exact hl _ fun x hx=>by
   simp only [List.mem_cons,List.not_mem_nil,or_false] at hx
   rcases hx with rfl|rfl
   ·exact atom_clean _
   ·exact hl _ fun y hy=>by
     simp only [List.mem_cons,List.not_mem_nil,or_false] at hy
     rcases hy with rfl|rfl<;>exact atom_clean _
theorem sval_clean: ∀ s:Sb,s.val.clean=true:=by
 refine Sb.ind fun s ih=>?_
 rw [Sb.val_eq]
 repeat' split
 ·exact keyV_clean _ _
 ·refine list_clean fun x hx=>?_
  simp only [List.mem_cons,List.mem_map] at hx
  rcases hx with rfl|rfl|⟨n,_,rfl⟩
  ·exact atom_clean _
  ·exact keyV_clean _ _
  ·exact atom_clean _
 ·refine list_clean fun x hx=>?_
  simp only [List.mem_cons,List.mem_map] at hx
  rcases hx with rfl|rfl|rfl|⟨n,hn,rfl⟩
  ·exact atom_clean _
  ·exact atom_clean _
  ·exact atom_clean _
  ·exact ih n hn
theorem not_key {x:List UInt8} {l:List Tree} (h1:x≠tHash) (h2:x≠tPub) (s:Bool) (d:List UInt8):listT (atomT x::l)≠keyV s d:=by
 intro h
 unfold keyV at h
 split at h
 ·injection h with _ _ _ _ h
  injection h with h _
  injection h with _ _ _ h _
  exact h1 h
 ·injection h with _ _ _ _ h
  injection h with h _
  injection h with _ _ _ h _
  exact h2 h
theorem getK_none {v:Tree} (h: ∀ s d,v≠keyV s d):getK v=none:=by
 cases hk:getK v with
 | none=>rfl
 | some k=>exact absurd (getK_iff.1 hk).2 (h _ _)
theorem rgetK_none {v:Tree} (hc:v.clean=true) (h: ∀ s d,v≠keyV s d):rgetK v=none:=by
 cases hk:rgetK v with
 | none=>rfl
 | some k=>exact absurd ((rgetK_iff hc).1 hk).2 (h _ _)
theorem plainSb {s:Sb} (h:s.plain=true):s.k=0∧s.kids=[]∧keyMay s.ks s.kd=true:=by
 simpa [Sb.plain,emptyL_iff] using h
theorem names_ok {l:List (List UInt8)} (h:(l.all fun n=> !emptyL n)=true):(l.map atomT).all nameOk=true:=by
 rw [List.all_map,List.all_eq_true] at *
 intro x hx
 have:=h x hx
 simpa [nameOk,atomT,Tree.list,Tree.hinted,Tree.data] using this
theorem ok3S {s:Sb} {deep:Nat} (h:s.ok3 deep=true):deep≤3∧s.ks=false∧s.kd=[]∧s.names=[]∧1≤s.k∧s.k≤(s.kids.length:Int)∧s.kids.length≤8:=by
 simpa [Sb.ok3,emptyL_iff] using h
theorem kid1 (a b:Tree) (l:List Tree):(listT (a::b::l)).kid 1=b:=rfl
theorem kid2 (a b c:Tree) (l:List Tree):(listT (a::b::c::l)).kid 2=c:=rfl
theorem kid0 (a:Tree) (l:List Tree):(listT (a::l)).kid 0=a:=rfl
theorem kidsL (l:List Tree):(listT l).kids=l:=rfl
theorem readS_val: ∀ (s:Sb) (deep:Nat),s.right deep=true→readS s.val deep=s:=by
 refine Sb.ind fun s ih deep h=>?_
 obtain ⟨kd,ks,d,ns,k,l⟩:=s
 rw [right_mk] at h
 rw [sval_mk,readS_eq]
 simp only [Sb.kids] at ih
 by_cases h1:kd=1
 ·rw [if_pos h1,Bool.and_eq_true] at h
  obtain ⟨a1,a2,a3⟩:=plainSb h.1
  simp only [Sb.k,Sb.kids,Sb.ks,Sb.kd] at a1 a2 a3
  have a4:=emptyL_iff.1 h.2
  subst h1 a1 a2 a4
  rw [if_pos rfl,getK_iff.2 ⟨a3,rfl⟩]
 rw [if_neg h1] at h ⊢
 by_cases h2:kd=2
 ·rw [if_pos h2,Bool.and_eq_true] at h
  obtain ⟨a1,a2,a3⟩:=plainSb h.1
  simp only [Sb.k,Sb.kids,Sb.ks,Sb.kd] at a1 a2 a3
  have h3:=h.2
  simp only [Sb.names2,Sb.names,Bool.and_eq_true,Bool.not_eq_true',decide_eq_true_eq] at h3
  subst h2 a1 a2
  rw [if_pos rfl,getK_none (not_key (by decide) (by decide))]
  dsimp only
  have hne:ns≠[]:=fun e=>by rw [e] at h3;simp [emptyL] at h3
  have hpos:=List.length_pos_iff.2 hne
  rw [kidsL,if_neg (by simp only [List.length_cons,List.length_map];omega),kid0,kid1]
  rw [if_pos (show (atomT tName).data=tName from rfl),getK_iff.2 ⟨a3,rfl⟩]
  simp only [Option.getD_some,List.drop_succ_cons,List.drop_zero,List.map_map]
  congr 1
  conv=>rhs;rw [← List.map_id ns]
  rfl
 rw [if_neg h2] at h ⊢
 by_cases h3:kd=3
 ·rw [if_pos h3,Bool.and_eq_true] at h
  obtain ⟨b1,b2,b3,b4,b5,b6,b7⟩:=ok3S h.1
  simp only [Sb.k,Sb.kids,Sb.ks,Sb.kd,Sb.names] at b1 b2 b3 b4 b5 b6 b7
  subst h3 b2 b3 b4
  rw [getK_none (not_key (by decide) (by decide))]
  dsimp only
  rw [kidsL,if_neg (by simp only [List.length_cons,List.length_map];omega),kid0,kid1,if_neg (show ¬ (atomT tKofN).data=tName by decide),if_neg (by omega)]
  rw [show (atomT (dec k.toNat)).data=dec k.toNat from rfl,lenP_dec (by omega) (by omega)]
  simp only [List.drop_succ_cons,List.drop_zero,List.map_map]
  have e1:((k.toNat:Nat):Int)=k:=by omega
  rw [e1]
  congr 1
  conv=>rhs;rw [← List.map_id l]
  refine List.map_congr_left fun x hx=>?_
  exact ih x hx (deep+1) (List.all_eq_true.1 h.2 x hx)
 ·rw [if_neg h3] at h
  cases h
theorem refS_val: ∀ (s:Sb) (deep:Nat),s.right deep=true→refS s.val deep=some s:=by
 refine Sb.ind fun s ih deep h=>?_
 have hcl:=sval_clean s
 obtain ⟨kd,ks,d,ns,k,l⟩:=s
 rw [right_mk] at h
 rw [sval_mk] at hcl
 rw [sval_mk,refS_eq]
 simp only [Sb.kids] at ih
 by_cases h1:kd=1
 ·rw [if_pos h1,Bool.and_eq_true] at h
  obtain ⟨a1,a2,a3⟩:=plainSb h.1
  simp only [Sb.k,Sb.kids,Sb.ks,Sb.kd] at a1 a2 a3
  have a4:=emptyL_iff.1 h.2
  subst h1 a1 a2 a4
  rw [if_pos rfl,(rgetK_iff (keyV_clean _ _)).2 ⟨a3,rfl⟩]
 rw [if_neg h1] at h hcl ⊢
 by_cases h2:kd=2
 ·rw [if_pos h2,Bool.and_eq_true] at h
  rw [if_pos h2] at hcl
  obtain ⟨a1,a2,a3⟩:=plainSb h.1
  simp only [Sb.k,Sb.kids,Sb.ks,Sb.kd] at a1 a2 a3
  have h3:=h.2
  simp only [Sb.names2,Sb.names,Bool.and_eq_true,Bool.not_eq_true',decide_eq_true_eq] at h3
  subst h2 a1 a2
  rw [if_pos rfl,rgetK_none hcl (not_key (by decide) (by decide))]
  dsimp only
  have hne:ns≠[]:=fun e=>by rw [e] at h3;simp [emptyL] at h3
  have hpos:=List.length_pos_iff.2 hne
  have hn8:ns.length≤8:=of_decide_eq_true h3.2.1
  rw [headB_list,decide_eq_true rfl,kidsL,decide_eq_true (by simp only [List.length_cons,List.length_map];omega),Bool.and_self,if_pos rfl,kid1,(rgetK_iff (keyV_clean _ _)).2 ⟨a3,rfl⟩]
  dsimp only
  simp only [List.drop_succ_cons,List.drop_zero,List.map_map]
  rw [if_pos (names_ok h3.2.2)]
  congr 2
  conv=>rhs;rw [← List.map_id ns]
  rfl
 rw [if_neg h2] at h hcl ⊢
 by_cases h3:kd=3
 ·rw [if_pos h3,Bool.and_eq_true] at h
  obtain ⟨b1,b2,b3,b4,b5,b6,b7⟩:=ok3S h.1
  simp only [Sb.k,Sb.kids,Sb.ks,Sb.kd,Sb.names] at b1 b2 b3 b4 b5 b6 b7
  subst h3 b2 b3 b4
  rw [rgetK_none hcl (not_key (by decide) (by decide))]
  dsimp only
  rw [headB_list,headB_list,decide_eq_false (show ¬ tKofN=tName by decide),Bool.false_and,if_neg (by simp),decide_eq_true rfl,kidsL,decide_eq_true (by simp only [List.length_cons,List.length_map];omega),Bool.and_self,if_pos rfl,kid1,kid2,small_dec (by omega) (by omega),small_dec (by omega) (by omega)]
  dsimp only
  rw [if_pos (by simp only [List.length_cons,List.length_map];omega)]
  simp only [List.drop_succ_cons,List.drop_zero]
  rw [allSome_of (fun y hy=>ih y hy (deep+1) (List.all_eq_true.1 h.2 y hy))]
  have e1:((k.toNat:Nat):Int)=k:=by omega
  rw [Option.map_some,e1]
 ·rw [if_neg h3] at h
  cases h
theorem refS_of : ∀ (v:Tree) (deep:Nat) (s:Sb),v.clean=true→refS v deep=some s→s.right deep=true∧s.val=v:=by
 refine Tree.ind fun v ih deep s hc h=>?_
 rw [refS_eq] at h
 cases hk:rgetK v with
 | some k =>
  rw [hk] at h
  injection h with h
  subst h
  obtain ⟨a,b⟩:=(rgetK_iff hc).1 (show rgetK v=some (k.1,k.2) from hk)
  refine ⟨?_,?_⟩
  ·rw [Sb.right_eq]
   simp [Sb.kind,Sb.plain,Sb.k,Sb.kids,Sb.ks,Sb.kd,Sb.names,emptyL,a]
  ·rw [Sb.val_eq,b]
   rfl
 | none =>
  rw [hk] at h
  dsimp only at h
  have hkc: ∀ x∈v.kids,x.clean=true:=fun x hx=>kid_clean hc hx
  split at h
  ·rename_i hn
   rw [Bool.and_eq_true,decide_eq_true_eq] at hn
   have hv:=headB_of hc hn.1
   cases hk1:rgetK (v.kid 1) with
   | none=>rw [hk1] at h;cases h
   | some k =>
    rw [hk1] at h
    dsimp only at h
    split at h
    ·rename_i hall
     injection h with h
     subst h
     match hkd:v.kids,hn.2 with
     | x :: y::m,hlen =>
      have hy:v.kid 1=y:=Tree.kid_at (by rw [hkd];rfl)
      rw [hy] at hk1
      obtain ⟨a,b⟩:=(rgetK_iff (hkc y (by rw [hkd];simp))).1 (show rgetK y=some (k.1,k.2) from hk1)
      rw [hkd] at hall hv
      simp only [List.drop_succ_cons,List.drop_zero] at hall hv ⊢
      simp only [List.length_cons] at hlen
      have hm:m.map (atomT∘Tree.data)=m:=by
       conv=>rhs;rw [← List.map_id m]
       refine List.map_congr_left fun z hz=>?_
       have h1:=List.all_eq_true.1 hall z hz
       simp only [nameOk,Bool.and_eq_true,Bool.not_eq_true'] at h1
       exact (fair_atomT (clean_fair (hkc z (by rw [hkd];simp [hz]))) h1.1 h1.2.1).symm
      refine ⟨?_,?_⟩
      ·rw [Sb.right_eq]
       have hnm:(Sb.mk 2 k.1 k.2 (m.map Tree.data) 0 []).names2=true:=by
        simp only [Sb.names2,Sb.names,Bool.and_eq_true,Bool.not_eq_true',decide_eq_true_eq,List.length_map]
        refine ⟨?_,by omega,?_⟩
        ·cases m with
         | nil=>simp at hlen
         | cons z m=>rfl
        ·rw [List.all_map,List.all_eq_true]
         intro z hz
         have h1:=List.all_eq_true.1 hall z hz
         simp only [nameOk,Bool.and_eq_true] at h1
         exact h1.2.2
       rw [hnm]
       simp [Sb.kind,Sb.plain,Sb.k,Sb.kids,Sb.ks,Sb.kd,Sb.names,emptyL,a]
      ·rw [Sb.val_eq]
       show listT (atomT tName::keyV k.1 k.2::(m.map Tree.data).map atomT)=v
       rw [List.map_map,hm,hv,b]
    ·cases h
  ·split at h
   ·rename_i hn
    rw [Bool.and_eq_true,decide_eq_true_eq] at hn
    have hv:=headB_of hc hn.1
    match hkd:v.kids,hn.2.1 with
    | x :: y :: z::m,hlen =>
     have hy:v.kid 1=y:=Tree.kid_at (by rw [hkd];rfl)
     have hz:v.kid 2=z:=Tree.kid_at (by rw [hkd];rfl)
     rw [hy,hz] at h
     cases ha:smallT y with
     | none=>rw [ha] at h;cases h
     | some a =>
      cases hb:smallT z with
      | none=>rw [ha,hb] at h;cases h
      | some b =>
       rw [ha,hb] at h
       dsimp only at h
       obtain ⟨a1,a2,a3⟩:=small_of (clean_fair (hkc y (by rw [hkd];simp))) ha
       obtain ⟨b1,b2,b3⟩:=small_of (clean_fair (hkc z (by rw [hkd];simp))) hb
       split at h
       ·rename_i hab
        rw [hkd] at h hab hv
        simp only [List.drop_succ_cons,List.drop_zero,List.length_cons] at h hab hv
        obtain ⟨l,hl,rfl⟩:=Option.map_eq_some_iff.1 h
        obtain ⟨c1,c2⟩:=allSome_map hl
        have hsub: ∀ (i:Nat) p q,m[i]?=some p→l[i]?=some q→q.right (deep+1)=true∧q.val=p:=fun i p q hp hq=>by
         obtain ⟨q',hq',e⟩:=c2 i p hp
         rw [hq] at e
         injection e with e
         subst e
         have hm:p∈v.kids:=by rw [hkd];simp [List.mem_of_getElem? hp]
         exact ih p hm (deep+1) q (hkc p hm) hq'
        have hval:=map_back_val' c1 (fun i p q hp hq=>(hsub i p q hp hq).2)
        have hall:l.all (fun x=>x.right (deep+1))=true:=by
         rw [List.all_eq_true]
         intro q hq
         obtain ⟨i,hi,e⟩:=List.mem_iff_getElem.1 hq
         exact (hsub i m[i] q (List.getElem?_eq_getElem (by omega)) (by rw [List.getElem?_eq_getElem hi,e])).1
        refine ⟨?_,?_⟩
        ·rw [right_mk,if_neg (by decide),if_neg (by decide),if_pos rfl]
         have hok:(Sb.mk 3 false [] [] (a:Int) l).ok3 deep=true:=by
          simp [Sb.ok3,Sb.ks,Sb.kd,Sb.names,Sb.k,Sb.kids,emptyL]
          omega
         rw [hok,hall]
         rfl
        ·rw [Sb.val_eq]
         show listT (atomT tKofN::atomT (dec (a:Int).toNat)::atomT (dec l.length)::l.map Sb.val)=v
         rw [hval,hv,a3,b3,Int.toNat_natCast,show l.length=b by omega]
       ·cases h
   ·cases h
where
 map_back_val' {l:List Tree} {m:List Sb} (h1:l.length=m.length) (h2: ∀ (i:Nat) x y,l[i]?=some x→m[i]?=some y→y.val=x):m.map Sb.val=l:=by
  refine List.ext_getElem? fun i=>?_
  rw [List.getElem?_map]
  by_cases hi:i<m.length
  ·rw [List.getElem?_eq_getElem hi,List.getElem?_eq_getElem (by omega:i<l.length)]
   simp only [Option.map_some]
   exact congrArg some (h2 i _ _ (List.getElem?_eq_getElem (by omega)) (List.getElem?_eq_getElem hi))
  ·rw [List.getElem?_eq_none (by omega),List.getElem?_eq_none (by omega)]
   rfl
def Sb.may (s:Sb):Bool:=s.right 1&&s.val.may
noncomputable def getSb (v:Tree):Option Sb:=if v.may then refS v 1 else none
theorem getS_eq (v:Tree):(∀ s,getSb v=some s→readS v 1=s∧s.may=true∧s.val=v)∧(v.may=true→getSb v=none→ ¬ ((readS v 1).may=true∧(readS v 1).val=v)):=by
 unfold getSb
 refine ⟨fun s h=>?_,fun hm h ⟨h1,h2⟩=>?_⟩
 ·split at h
  ·rename_i hm
   have hcl:v.clean=true:=by
    simp only [Tree.may,Bool.and_eq_true] at hm
    exact hm.1.1.1
   obtain ⟨a,b⟩:=refS_of v 1 s hcl h
   exact ⟨by rw [← b];exact readS_val s 1 a,by rw [Sb.may,a,b,hm];rfl,b⟩
  ·cases h
 ·rw [if_pos hm] at h
  rw [Sb.may,Bool.and_eq_true] at h1
  have:=refS_val _ 1 h1.1
  rw [h2,h] at this
  cases this
end Go.Proofs.YtfammdfpgccnfaaGreatDoor
namespace Go.Proofs.YtfammdfpgccnfaaGreatDoor
open Go.RowKit
def numFrom (n:Nat) (l:List UInt8):Nat:=l.foldl (fun n c=>10*n+(c.toNat-48)) n
def allDg (l:List UInt8):Bool:=l.all isDg
theorem numFrom_take {n:Nat} {l:List UInt8} {k:Nat} {x:UInt8} (h:l[k]?=some x):numFrom n (l.take (k+1))=10*numFrom n (l.take k)+(x.toNat-48):=by
 unfold numFrom
 rw [List.take_add_one,h,List.foldl_append]
 rfl
theorem numFrom_lt: ∀ (l:List UInt8) (n k:Nat),(∀ c∈l,isDg c=true)→n<10^k→numFrom n l<10^(k+l.length)
 | [],n,k,_,h=>h
 | c::l,n,k,hd,hn=>by
  have hc:48≤c.toNat∧c.toNat≤57:=of_decide_eq_true (hd c (by simp))
  have h2:=numFrom_lt l (10*n+(c.toNat-48)) (k+1) (fun x hx=>hd x (by simp [hx])) (by rw [Nat.pow_succ];omega)
  have e:k+1+l.length=k+(l.length+1):=by omega
  rw [e] at h2
  exact h2
section
variable {G:Nat→Option (List D)}
theorem ndig_m (n0 k0:Nat) (b:List UInt8) (hn0:n0<10^k0) (hk:k0+b.length≤16):Spec Tryz.prog G 210 [.c (.v (.int .i64 (n0:Int))),.c (.sl b.length (b.map bD))] (.many (if allDg b=true then [iD (numFrom n0 b),.c (.v (.bool (decide (0<b.length))))] else [iD 0,.c (.v (.bool false))])):=by
 have hlen:b.length≤16:=by omega
 unfold iD
 refine spec_of Tryz.func210 rfl rfl rfl (by kernel_rfl) rfl fun K=>?_
 (repeat' (first|with_reducible (first|refine zA fun Kn hK=>?_|refine zU ?_|refine Nx.go ?_|go_step)|with_reducible (first|refine zI ?_|refine zV ?_)|simp (maxSteps:=9^9) (disch:=omega) only [wq]|with_reducible refine zM (fun hb=>?_) (fun hb=>?_)<;>try simp only [hb]|with_reducible refine And.intro (by first|omega|(simp;done)|(simp;omega)) ?_|simp (maxSteps:=9^9) -implicitDefEqProofs only [go_sem,true_and]))
 refine sound_loopR (fun x:{m:Nat // m≤b.length∧(∀ c∈b.take m,isDg c=true)}=>⟨[(0,vI (numFrom n0 (b.take x.1))),(1,vD (.sl b.length (b.map bD))),(8,vD (.sl b.length (b.map bD))),(9,vI b.length),(10,vI x.1)],[]⟩) (fun x=>b.length-x.1) ⟨0,by omega,by simp⟩ [] (by (iterate 2 ((try simp (maxSteps:=9^9) -implicitDefEqProofs only [go_sem,true_and]);(try simp (maxSteps:=9^9) (disch:=omega) only [wq])));try simp [numFrom]) (fun ⟨m,hm,hd⟩=>?_)
 by_cases h:m<b.length
 ·have h1:decide ((m:Int)<(b.length:Int))=true:=decide_eq_true (by omega)
  obtain ⟨x,hx⟩: ∃ x,b[m]?=some x:=⟨_,List.getElem?_eq_getElem (by omega)⟩
  have hg:(b.map bD)[m]?=some (bD x):=by rw [List.getElem?_map,hx];rfl
  by_cases c:isDg x=true
  ·have hc:48≤x.toNat∧x.toNat≤57:=of_decide_eq_true c
   have f1:decide ((x.toNat:Int)<48)=false:=decide_eq_false (by omega)
   have f2:decide ((x.toNat:Int)>57)=false:=decide_eq_false (by omega)
   have hd2: ∀ y∈b.take (m+1),isDg y=true:=by
    intro y hy
    rw [List.take_add_one,hx,List.mem_append] at hy
    rcases hy with hy|hy
    ·exact hd y hy
    ·simp at hy
     rw [hy]
     exact c
   have hv:=numFrom_take (n:=n0) hx
   have hlt:=numFrom_lt (b.take (m+1)) n0 k0 hd2 hn0
   have hp:10^(k0+(b.take (m+1)).length)≤10^16:=Nat.pow_le_pow_right (by omega) (by rw [List.length_take];omega)
   have hs:numFrom n0 (b.take (m+1))<10000000000000000:=Nat.lt_of_lt_of_le hlt hp
   (repeat' (first|with_reducible (first|refine zA fun Kn hK=>?_|refine zU ?_|refine Nx.go ?_|go_step)|with_reducible (first|refine zI ?_|refine zV ?_)|simp (maxSteps:=9^9) (disch:=omega) only [wq]|with_reducible refine zM (fun hb=>?_) (fun hb=>?_)<;>try simp only [hb]|with_reducible refine And.intro (by first|omega|(simp;done)|(simp;omega)) ?_|simp (maxSteps:=9^9) -implicitDefEqProofs only [go_sem,h1,hg,bD,f1,f2,List.length_map]))
   refine ⟨[],⟨m+1,by omega,hd2⟩,?_⟩
   (iterate 2 ((try simp (maxSteps:=9^9) -implicitDefEqProofs only [go_sem,true_and,hv]);(try simp (maxSteps:=9^9) (disch:=omega) only [wq])))
   try (simp only [ijq,true_and,and_true];first|done|omega|(split<;>omega)|(simp;done)|(simp;omega))
   try omega
  ·have e:allDg b=false:=by
    rw [allDg,List.all_eq_false]
    exact ⟨x,List.mem_of_getElem? hx,c⟩
   have hxl:=UInt8.toNat_lt x
   have hc: ¬ (48≤x.toNat∧x.toNat≤57):=fun h=>c (decide_eq_true h)
   have hi: ∀ (u v:List DV),(if allDg b=true then u else v)=v:=fun u v=>if_neg (by rw [e];decide)
   (repeat' (first|with_reducible (first|refine zA fun Kn hK=>?_|refine zU ?_|refine Nx.go ?_|go_step)|with_reducible (first|refine zI ?_|refine zV ?_)|simp (maxSteps:=9^9) (disch:=omega) only [wq]|with_reducible refine zM (fun hb=>?_) (fun hb=>?_)<;>try simp only [hb]|with_reducible refine And.intro (by first|omega|(simp;done)|(simp;omega)) ?_|simp (maxSteps:=9^9) -implicitDefEqProofs only [go_sem,h1,hg,bD,List.length_map]))
   all_goals first
    | (rw [hi];rfl)
    | (exfalso;simp only [decide_eq_true_eq,decide_eq_false_iff_not] at *;omega)
 ·have h1:decide ((m:Int)<(b.length:Int))=false:=decide_eq_false (by omega)
  have e:b.take m=b:=List.take_of_length_le (by omega)
  rw [e] at hd
  have ha:allDg b=true:=List.all_eq_true.2 hd
  have hi: ∀ (u v:List DV),(if allDg b=true then u else v)=u:=fun u v=>if_pos ha
  have h2:decide ((b.length:Int)>0)=decide (0<b.length):=by rw [decide_eq_decide];omega
  (repeat' (first|with_reducible (first|refine zA fun Kn hK=>?_|refine zU ?_|refine Nx.go ?_|go_step)|with_reducible (first|refine zI ?_|refine zV ?_)|simp (maxSteps:=9^9) (disch:=omega) only [wq]|with_reducible refine zM (fun hb=>?_) (fun hb=>?_)<;>try simp only [hb]|with_reducible refine And.intro (by first|omega|(simp;done)|(simp;omega)) ?_|simp (maxSteps:=9^9) -implicitDefEqProofs only [go_sem,h1,e,h2]))
  all_goals (rw [hi])
end
end Go.Proofs.YtfammdfpgccnfaaGreatDoor
namespace Go.Proofs.YtfammdfpgccnfaaGreatDoor
def cutD:List UInt8→List UInt8 × List UInt8 × Bool
 | []=>([],[],false)
 | c::l=>if c=46 then ([],l,true) else (c::(cutD l).1,(cutD l).2.1,(cutD l).2.2)
def numBody (b:List UInt8):Bool:=
 decide ((cutD b).1.length+(cutD b).2.1.length≤15)&&(allDg (cutD b).1&&decide ((cutD b).1≠[]))&&(!(cutD b).2.2||(allDg (cutD b).2.1&&decide ((cutD b).2.1≠[])))
def unsig (b:List UInt8):List UInt8:=match b with
 | []=>[]
 | c::l=>if c=45 then l else c::l
def wInf:List UInt8:=[105,110,102]
def wNan:List UInt8:=[110,97,110]
def numB (b:List UInt8):Bool:=decide (b=wInf)||decide (b=45::wInf)||numBody (unsig b)
theorem cut_len: ∀ l:List UInt8,(cutD l).1.length+(cutD l).2.1.length≤l.length
 | []=>by simp [cutD]
 | c::l=>by
  have:=cut_len l
  rw [cutD]
  split
  ·simp
  ·simp only [List.length_cons];omega
end Go.Proofs.YtfammdfpgccnfaaGreatDoor
namespace Go.Proofs.YtfammdfpgccnfaaGreatDoor
open Go.RowKit
section
variable {G:Nat→Option (List D)}
theorem nanI_m (x:Nat):Spec Tryz.prog G 231 [iD x] (.one (.c (.v (.bool false)))):=by
 have h:((x:Int)==(x:Int))=true:=beq_self_eq_true _
 unfold iD
 refine spec_of Tryz.func231 rfl rfl rfl (by kernel_rfl) rfl fun K=>?_
 (repeat' (first|with_reducible (first|refine zA fun Kn hK=>?_|refine zU ?_|refine Nx.go ?_|go_step)|with_reducible (first|refine zI ?_|refine zV ?_)|simp (maxSteps:=9^9) (disch:=omega) only [wq]|with_reducible refine zM (fun hb=>?_) (fun hb=>?_)<;>try simp only [hb]|with_reducible refine And.intro (by first|omega|(simp;done)|(simp;omega)) ?_|simp (maxSteps:=9^9) -implicitDefEqProofs only [go_sem,h,bne,Bool.not_true]))
theorem cmpI_m (x:Nat):Spec Tryz.prog G 216 [iD x,iD x] (.one (iD 0)):=by
 have h:=nanI_m (G:=G) x
 have h1:decide ((x:Int)<(x:Int))=false:=decide_eq_false (by omega)
 have h2:decide ((x:Int)>(x:Int))=false:=decide_eq_false (by omega)
 unfold iD at *
 refine spec_of Tryz.func216 rfl rfl rfl (by kernel_rfl) rfl fun K=>?_
 (repeat' (first|with_reducible (first|refine zA fun Kn hK=>?_|refine zU ?_|refine Nx.go ?_|go_step)|refine ⟨_,h,?_⟩|with_reducible (first|refine zI ?_|refine zV ?_)|simp (maxSteps:=9^9) (disch:=omega) only [wq]|with_reducible refine zM (fun hb=>?_) (fun hb=>?_)<;>try simp only [hb]|with_reducible refine And.intro (by first|omega|(simp;done)|(simp;omega)) ?_|simp (maxSteps:=9^9) -implicitDefEqProofs only [go_sem,h1,h2]))
 try rfl
theorem nanL_m (x:Nat):Spec Tryz.prog G 226 [iD x] (.one (.c (.v (.bool false)))):=by
 have h:((x:Int)==(x:Int))=true:=beq_self_eq_true _
 unfold iD
 refine spec_of Tryz.func226 rfl rfl rfl (by kernel_rfl) rfl fun K=>?_
 (repeat' (first|with_reducible (first|refine zA fun Kn hK=>?_|refine zU ?_|refine Nx.go ?_|go_step)|with_reducible (first|refine zI ?_|refine zV ?_)|simp (maxSteps:=9^9) (disch:=omega) only [wq]|with_reducible refine zM (fun hb=>?_) (fun hb=>?_)<;>try simp only [hb]|with_reducible refine And.intro (by first|omega|(simp;done)|(simp;omega)) ?_|simp (maxSteps:=9^9) -implicitDefEqProofs only [go_sem,h,bne,Bool.not_true]))
theorem cmpL_m (x:Nat):Spec Tryz.prog G 213 [iD x,iD x] (.one (iD 0)):=by
 have h:=nanL_m (G:=G) x
 have h1:decide ((x:Int)<(x:Int))=false:=decide_eq_false (by omega)
 have h2:decide ((x:Int)>(x:Int))=false:=decide_eq_false (by omega)
 unfold iD at *
 refine spec_of Tryz.func213 rfl rfl rfl (by kernel_rfl) rfl fun K=>?_
 (repeat' (first|with_reducible (first|refine zA fun Kn hK=>?_|refine zU ?_|refine Nx.go ?_|go_step)|refine ⟨_,h,?_⟩|with_reducible (first|refine zI ?_|refine zV ?_)|simp (maxSteps:=9^9) (disch:=omega) only [wq]|with_reducible refine zM (fun hb=>?_) (fun hb=>?_)<;>try simp only [hb]|with_reducible refine And.intro (by first|omega|(simp;done)|(simp;omega)) ?_|simp (maxSteps:=9^9) -implicitDefEqProofs only [go_sem,h1,h2]))
 try rfl
def fnV (f:FuncId):D:= .v (.func (.func f) #[] #[])
theorem numL_m (f:FuncId):Spec Tryz.prog G 195 [.c (fnV f)] (.one (.c (.fn 212 [.ptr [fnV f] 0]))):=by
 unfold fnV
 refine spec_of Tryz.func195 rfl rfl rfl (by kernel_rfl) rfl fun K=>?_
 (repeat' (first|with_reducible (first|refine zA fun Kn hK=>?_|refine zU ?_|refine Nx.go ?_|go_step)|with_reducible (first|refine zI ?_|refine zV ?_)|simp (maxSteps:=9^9) (disch:=omega) only [wq]|with_reducible refine zM (fun hb=>?_) (fun hb=>?_)<;>try simp only [hb]|with_reducible refine And.intro (by first|omega|(simp;done)|(simp;omega)) ?_|simp (maxSteps:=9^9) -implicitDefEqProofs only [go_sem,true_and,List.mapM_cons,List.mapM_nil,Option.bind_eq_bind,Option.bind_some,Option.pure_def]))
theorem byL_m (f:FuncId) (n:Nat) (b:List D) (o:Option Nat) (hf:funcOk Tryz.prog f=true) (h:Spec Tryz.prog G f [.c (.sl n b)] (.many [iD (o.getD 0),.c (.v (.bool o.isSome))])) :
  Spec Tryz.prog G 212 [.c (.sl n b),.c (.sl n b),.c (.ptr [fnV f] 0)] (.many [iD 0,.c (.v (.bool o.isSome))]):=by
 unfold fnV
 rcases o with _|x
 ·unfold iD at *
  refine spec_of Tryz.func212 rfl rfl rfl (by kernel_rfl) rfl fun K=>?_
  (repeat' (first|with_reducible (first|refine zA fun Kn hK=>?_|refine zU ?_|refine Nx.go ?_|go_step)|refine ⟨_,h,?_⟩|with_reducible (first|refine zI ?_|refine zV ?_)|simp (maxSteps:=9^9) (disch:=omega) only [wq]|with_reducible refine zM (fun hb=>?_) (fun hb=>?_)<;>try simp only [hb]|with_reducible refine And.intro (by first|omega|(simp;done)|(simp;omega)) ?_|simp (maxSteps:=9^9) -implicitDefEqProofs only [go_sem,hf]))
  try rfl
 ·have hc:=cmpL_m (G:=G) x
  have e:((x:Int)==(x:Int))=true:=beq_self_eq_true _
  simp only [Option.getD_some,Option.isSome_some] at h
  unfold iD at *
  refine spec_of Tryz.func212 rfl rfl rfl (by kernel_rfl) rfl fun K=>?_
  (repeat' (first|with_reducible (first|refine zA fun Kn hK=>?_|refine zU ?_|refine Nx.go ?_|go_step)|refine ⟨_,h,?_⟩|refine ⟨_,hc,?_⟩|with_reducible (first|refine zI ?_|refine zV ?_)|simp (maxSteps:=9^9) (disch:=omega) only [wq]|with_reducible refine zM (fun hb=>?_) (fun hb=>?_)<;>try simp only [hb]|with_reducible refine And.intro (by first|omega|(simp;done)|(simp;omega)) ?_|simp (maxSteps:=9^9) -implicitDefEqProofs only [go_sem,hf,e,bne,Bool.not_true]))
  try rfl
end
def bareL:List UInt8→List UInt8
 | []=>[]
 | x::l=>if x=0 then bareL l else x::l
theorem bareL_le: ∀ l:List UInt8,(bareL l).length≤l.length
 | []=>Nat.le_refl _
 | x :: l=>by
  rw [bareL]
  split
  ·have:=bareL_le l
   simp only [List.length_cons]
   omega
  ·exact Nat.le_refl _
section
variable {G:Nat→Option (List D)}
theorem orI_m:Spec Tryz.prog G 215 [.c (.sl 2 [.v (.int .i64 0),.v (.int .i64 0)])] (.one (iD 0)):=by
 unfold iD
 refine spec_of Tryz.func215 rfl rfl rfl (by kernel_rfl) rfl fun K=>?_
 (repeat' (first|with_reducible (first|refine zA fun Kn hK=>?_|refine zU ?_|refine Nx.go ?_|go_step)|with_reducible (first|refine zI ?_|refine zV ?_)|simp (maxSteps:=9^9) (disch:=omega) only [wq]|with_reducible refine zM (fun hb=>?_) (fun hb=>?_)<;>try simp only [hb]|with_reducible refine And.intro (by first|omega|(simp;done)|(simp;omega)) ?_|simp (maxSteps:=9^9) -implicitDefEqProofs only [go_sem,true_and]))
 refine sound_loopR (fun x:{k:Nat // k≤2}=>⟨[(0,vD (.sl 2 [.v (.int .i64 0),.v (.int .i64 0)])),(3,vI 0),(6,vD (.sl 2 [.v (.int .i64 0),.v (.int .i64 0)])),(7,vI 2),(8,vI x.1)],[]⟩) (fun x=>2-x.1) ⟨0,by omega⟩ [] (by (iterate 2 ((try simp (maxSteps:=9^9) -implicitDefEqProofs only [go_sem,true_and]);(try simp (maxSteps:=9^9) (disch:=omega) only [wq])));try simp) (fun ⟨k,hk⟩=>?_)
 by_cases h:k<2
 ·have h1:decide ((k:Int)<2)=true:=decide_eq_true (by omega)
  have hg:([.v (.int .i64 0),.v (.int .i64 0)]:List D)[k]?=some (.v (.int .i64 0)):=by
   match k,h with
   | 0,_=>rfl
   | 1,_=>rfl
  (repeat' (first|with_reducible (first|refine zA fun Kn hK=>?_|refine zU ?_|refine Nx.go ?_|go_step)|with_reducible (first|refine zI ?_|refine zV ?_)|simp (maxSteps:=9^9) (disch:=omega) only [wq]|with_reducible refine zM (fun hb=>?_) (fun hb=>?_)<;>try simp only [hb]|with_reducible refine And.intro (by first|omega|(simp;done)|(simp;omega)) ?_|simp (maxSteps:=9^9) -implicitDefEqProofs only [go_sem,h1,hg,bne]))
  refine ⟨[],⟨k+1,by omega⟩,?_⟩
  (iterate 2 ((try simp (maxSteps:=9^9) -implicitDefEqProofs only [go_sem,true_and]);(try simp (maxSteps:=9^9) (disch:=omega) only [wq])))
  try (simp only [ijq,true_and,and_true];first|done|omega|(split<;>omega)|(simp;done)|(simp;omega))
  try omega
 ·have h1:decide ((k:Int)<2)=false:=decide_eq_false (by omega)
  (repeat' (first|with_reducible (first|refine zA fun Kn hK=>?_|refine zU ?_|refine Nx.go ?_|go_step)|with_reducible (first|refine zI ?_|refine zV ?_)|simp (maxSteps:=9^9) (disch:=omega) only [wq]|with_reducible refine zM (fun hb=>?_) (fun hb=>?_)<;>try simp only [hb]|with_reducible refine And.intro (by first|omega|(simp;done)|(simp;omega)) ?_|simp (maxSteps:=9^9) -implicitDefEqProofs only [go_sem,h1]))
  try rfl
theorem trimB_m (b:List UInt8) (hn:b.length≤1000000000):Spec Tryz.prog G 227 [.c (.sl b.length (b.map bD)),.c (.v (.int .u8 0))] (.one (.c (.sl (bareL b).length ((bareL b).map bD)))):=by
 obtain ⟨R,hR⟩: ∃ R,bareL b=R:=⟨_,rfl⟩
 rw [hR]
 refine spec_of Tryz.func227 rfl rfl rfl (by kernel_rfl) rfl fun K=>?_
 (repeat' (first|with_reducible (first|refine zA fun Kn hK=>?_|refine zU ?_|refine Nx.go ?_|go_step)|with_reducible (first|refine zI ?_|refine zV ?_)|simp (maxSteps:=9^9) (disch:=omega) only [wq]|with_reducible refine zM (fun hb=>?_) (fun hb=>?_)<;>try simp only [hb]|with_reducible refine And.intro (by first|omega|(simp;done)|(simp;omega)) ?_|simp (maxSteps:=9^9) -implicitDefEqProofs only [go_sem,true_and]))
 refine sound_loopR (fun x:{l:List UInt8 // bareL l=R∧l.length≤b.length}=>⟨[(0,vD (.sl x.1.length (x.1.map bD))),(1,vD (.v (.int .u8 0)))],[]⟩) (fun x=>x.1.length) ⟨b,hR,Nat.le_refl _⟩ [] (by (iterate 2 ((try simp (maxSteps:=9^9) -implicitDefEqProofs only [go_sem,true_and]);(try simp (maxSteps:=9^9) (disch:=omega) only [wq])));try simp) (fun ⟨l,hl,hle⟩=>?_)
 cases l with
 | nil =>
  have hl':R=[]:=hl.symm
  have h1:decide (((0:Nat):Int)>0)=false:=rfl
  have h2:(((0:Nat):Int)==0)=true:=rfl
  subst hl'
  (repeat' (first|with_reducible (first|refine zA fun Kn hK=>?_|refine zU ?_|refine Nx.go ?_|go_step)|with_reducible (first|refine zI ?_|refine zV ?_)|simp (maxSteps:=9^9) (disch:=omega) only [wq]|with_reducible refine zM (fun hb=>?_) (fun hb=>?_)<;>try simp only [hb]|with_reducible refine And.intro (by first|omega|(simp;done)|(simp;omega)) ?_|simp (maxSteps:=9^9) -implicitDefEqProofs only [go_sem,List.length_nil,h1,h2]))
  try rfl
 | cons x l =>
  have hlc:(x::l).length=l.length+1:=rfl
  rw [hlc] at hle
  have h1:decide (((l.length+1:Nat):Int)>0)=true:=decide_eq_true (by omega)
  have h0:(0:Int)<((l.length+1:Nat):Int):=by omega
  have hx:((x.toNat:Int)==0)=decide (x=0):=by
   rw [Bool.eq_iff_iff]
   simp only [beq_iff_eq,decide_eq_true_eq,← UInt8.toNat_inj,UInt8.toNat_ofNat]
   omega
  have h2:(((l.length+1:Nat):Int)==0)=false:=by rw [beq_eq_false_iff_ne];omega
  have hm:(x::l).map bD=bD x::l.map bD:=rfl
  have ht:(l.map bD).take l.length=l.map bD:=List.take_of_length_le (by rw [List.length_map];omega)
  by_cases c:x=0
  ·rw [decide_eq_true c] at hx
   have hl2:bareL l=R:=by rw [← hl,bareL,if_pos c]
   (repeat' (first|with_reducible (first|refine zA fun Kn hK=>?_|refine zU ?_|refine Nx.go ?_|go_step)|with_reducible (first|refine zI ?_|refine zV ?_)|simp (maxSteps:=9^9) (disch:=omega) only [wq]|with_reducible refine zM (fun hb=>?_) (fun hb=>?_)<;>try simp only [hb]|with_reducible refine And.intro (by first|omega|(simp;done)|(simp;omega)) ?_|simp (maxSteps:=9^9) -implicitDefEqProofs only [go_sem,decide_true,hlc,h1,h0,hx,hm,ht,bD,Nat.add_sub_cancel]))
   refine ⟨[],⟨l,hl2,by omega⟩,?_⟩
   (iterate 2 ((try simp (maxSteps:=9^9) -implicitDefEqProofs only [go_sem,true_and]);(try simp (maxSteps:=9^9) (disch:=omega) only [wq])))
   try (simp only [ijq,true_and,and_true];first|done|omega|(split<;>omega)|(simp;done)|(simp;omega))
   try omega
  ·rw [decide_eq_false c] at hx
   have hl2:bareL (x::l)=x::l:=by rw [bareL,if_neg c]
   (repeat' (first|with_reducible (first|refine zA fun Kn hK=>?_|refine zU ?_|refine Nx.go ?_|go_step)|with_reducible (first|refine zI ?_|refine zV ?_)|simp (maxSteps:=9^9) (disch:=omega) only [wq]|with_reducible refine zM (fun hb=>?_) (fun hb=>?_)<;>try simp only [hb]|with_reducible refine And.intro (by first|omega|(simp;done)|(simp;omega)) ?_|simp (maxSteps:=9^9) -implicitDefEqProofs only [go_sem,decide_true,hlc,h1,h0,hx,hm,h2,bD]))
   rw [← hl,hl2]
   rfl
end
section
variable {G:Nat→Option (List D)}
theorem trim_m (b:List UInt8) (hn:b.length≤1000000000):Spec Tryz.prog G 214 [.c (.sl b.length (b.map bD)),.c (.v (.string ⟨#[0]⟩))] (.one (.c (.sl (bareL b).length ((bareL b).map bD)))):=by
 have T:=trimB_m (G:=G) b hn
 cases b with
 | nil =>
  have h2:(((0:Nat):Int)==0)=true:=rfl
  refine spec_of Tryz.func214 rfl rfl rfl (by kernel_rfl) rfl fun K=>?_
  (repeat' (first|with_reducible (first|refine zA fun Kn hK=>?_|refine zU ?_|refine Nx.go ?_|go_step)|with_reducible (first|refine zI ?_|refine zV ?_)|simp (maxSteps:=9^9) (disch:=omega) only [wq]|with_reducible refine zM (fun hb=>?_) (fun hb=>?_)<;>try simp only [hb]|with_reducible refine And.intro (by first|omega|(simp;done)|(simp;omega)) ?_|simp (maxSteps:=9^9) -implicitDefEqProofs only [go_sem,List.length_nil,h2,decide_true]))
  all_goals try rfl
 | cons x l =>
  have h2:(((l.length+1:Nat):Int)==0)=false:=by rw [beq_eq_false_iff_ne];omega
  have hlc:(x::l).length=l.length+1:=rfl
  rw [hlc] at T ⊢
  generalize (x::l).map bD=L at *
  have s1:((⟨#[0]⟩:ByteArray)==⟨#[]⟩)=false:=by decide +kernel
  have s2:(⟨#[0]⟩:ByteArray).size=1:=rfl
  have s3:(([0]:List UInt8)==[])=false:=rfl
  have s4:(((1:Nat):Int)==1)=true:=rfl
  have s5:decide (((UInt8.toNat 0:Nat):Int)<128)=true:=by decide
  have s6:((UInt8.toNat 0:Nat):Int)=0:=by decide
  refine spec_of Tryz.func214 rfl rfl rfl (by kernel_rfl) rfl fun K=>?_
  (repeat' (first|with_reducible (first|refine zA fun Kn hK=>?_|refine zU ?_|refine Nx.go ?_|go_step)|refine ⟨_,T,?_⟩|with_reducible (first|refine zI ?_|refine zV ?_)|simp (maxSteps:=9^9) (disch:=omega) only [wq]|with_reducible refine zM (fun hb=>?_) (fun hb=>?_)<;>try simp only [hb]|with_reducible refine And.intro (by first|omega|(simp;done)|(simp;omega)) ?_|simp (maxSteps:=9^9) -implicitDefEqProofs only [go_sem,h2,s1,s2,s3,s4,s5,s6,decide_true]))
  all_goals try rfl
end
theorem bytes_back (b:List UInt8):Lib.bytesOf (b.map fun x=>(x.toNat:Int))=b:=by
 induction b with
 | nil=>rfl
 | cons x l ih =>
  simp only [Lib.bytesOf,List.map_cons,List.map_map] at ih ⊢
  rw [ih]
  simp
theorem run_bytes {P:Program} {w:World} {S:Nat→Prop} {A:Option Addr} {n c:Nat} {b:List UInt8} (h:Rep.u8.sl w S A n c b):(Extern.Bytes.bytesOf (.slice A n c)).run P w= .ok ⟨b.toArray⟩ w:=by
 have hl:=h.1
 cases A with
 | none =>
  cases b with
  | nil=>rfl
  | cons x l =>
   obtain ⟨_,_,_,_,hA,_⟩:=Rep.sl_at h (k:=0) (by simp at hl;omega)
   cases hA
 | some a =>
  have key:=Lib.run_loadBytesX (P:=P) w (b.map fun x=>(x.toNat:Int)) a .empty (fun j x hx=>by
   rw [List.getElem?_map,Option.map_eq_some_iff] at hx
   obtain ⟨y,hy,rfl⟩:=hx
   have hj:=(List.getElem?_eq_some_iff.1 hy).1
   obtain ⟨bb,o,z,es,hA,_,hz,hes,hc⟩:=Rep.sl_at h (k:=j) (by omega)
   obtain rfl:es=[.int .u8 (z.toNat:Int)]:=hes
   rw [hy] at hz
   injection hz with hz
   subst hz
   injection hA with hA
   subst hA
   have h1:=hc 0 _ rfl
   have e1:Rep.u8.size=1:=rfl
   rw [e1,Nat.mul_one,Nat.add_zero] at h1
   rw [Addr.add_lit]
   exact h1)
  rw [List.length_map,bytes_back] at key
  rw [show n=b.length by omega]
  show (Extern.Bytes.loadBytes a b.length .empty).run P w=_
  rw [key]
  congr 1
  apply ByteArray.ext
  show (#[]:Array UInt8)++b.toArray=b.toArray
  simp
theorem cmp_self (x:ByteArray):Extern.BytealgCompare.cmp x x=0:=by
 unfold Extern.BytealgCompare.cmp
 have h:((List.range (min x.size x.size)).find? fun i=>x[i]! != x[i]!)=none:=List.find?_eq_none.2 (by simp)
 rw [h]
 simp
theorem cmpB_m {G:Nat→Option (List D)} (b:List UInt8) (hn:b.length≤1000000000):Spec Tryz.prog G 203 [.c (.sl b.length (b.map bD)),.c (.sl b.length (b.map bD))] (.one (iD 0)):=by
 intro w S vs hS hT hA
 obtain ⟨hl,hc⟩:=hA
 match vs,hl with
 | [u, v],_ =>
  obtain ⟨A,c,rfl,hs⟩:=bytes_sl (hc 0 _ _ rfl rfl) rfl
  obtain ⟨A2,c2,rfl,hs2⟩:=bytes_sl (hc 1 _ _ rfl rfl) rfl
  have hx:(callFunc 220 #[.slice A b.length c,.slice A2 b.length c2]).run Tryz.prog w= .ok (.value (.int .i64 0)) w:=by
   rw [run_callFunc_extern Tryz.func220 (by kernel_rfl) (by kernel_rfl) (by kernel_rfl) (e:=Extern.BytealgCompare.compare) (by kernel_rfl)]
   have h0:(Extern.BytealgCompare.compare #[.slice A b.length c,.slice A2 b.length c2]).run Tryz.prog w= .ok (.int .i64 0) w:=by
    show Sem.run _ (do pure (goInt (Extern.BytealgCompare.cmp (← Extern.Bytes.bytesOf (.slice A b.length c)) (← Extern.Bytes.bytesOf (.slice A2 b.length c2))))) w=_
    simp only [Sem.run_bind,run_bytes hs,run_bytes hs2,Result.andThen_ok,cmp_self]
    rfl
   rw [h0]
   rfl
  clear hc hT hS hs hs2
  generalize b.length=n at *
  go_enter Tryz.func203,Tryz.ntmps203
  go_wp2
  go_ret
  exact ⟨Ev.refl _ _,_,rfl,RD.v (.int .i64 0) rfl⟩
def dotAt (c:UInt8):List UInt8→Nat
 | []=>0
 | x::l=>if x=c then 0 else dotAt c l+1
def dotI (c:UInt8) (l:List UInt8):Int:=if dotAt c l<l.length then dotAt c l else -1
theorem find_dot (c:UInt8) (l:List UInt8):((List.range l.length).find? fun i=>l.toArray[i]! ==c)=if dotAt c l<l.length then some (dotAt c l) else none:=by
 induction l with
 | nil=>rfl
 | cons x l ih =>
  rw [List.length_cons,List.range_succ_eq_map,List.find?_cons]
  by_cases h:x=c
  ·subst h
   simp [dotAt]
  ·have e:((x::l).toArray[0]! ==c)=false:=by simp [h]
   rw [e]
   simp only
   rw [List.find?_map]
   have e2:((fun i=>(x::l).toArray[i]! ==c)∘Nat.succ)=fun i=>l.toArray[i]! ==c:=by
    funext i
    simp
   rw [e2,ih,dotAt,if_neg h]
   split
   ·rename_i hl
    rw [if_pos (by omega)]
    rfl
   ·rename_i hl
    rw [if_neg (by omega)]
    rfl
theorem ba_get (a:Array UInt8) (i:Nat):(⟨a⟩:ByteArray)[i]! =a[i]! :=by
 by_cases h:i<a.size
 ·rw [getElem!_pos (⟨a⟩:ByteArray) i h,getElem!_pos a i h]
  rfl
 ·rw [getElem!_neg (⟨a⟩:ByteArray) i h,getElem!_neg a i h]
theorem indexB_m {G:Nat→Option (List D)} (b:List UInt8) (c:UInt8):Spec Tryz.prog G 232 [.c (.sl b.length (b.map bD)),.c (bD c)] (.one (.c (.v (.int .i64 (dotI c b))))):=by
 intro w S vs hS hT hA
 obtain ⟨hl,hc⟩:=hA
 match vs,hl with
 | [u, v],_ =>
  obtain ⟨A,k,rfl,hs⟩:=bytes_sl (hc 0 _ _ rfl rfl) rfl
  obtain rfl:v= .int .u8 (c.toNat:Int):=by
   have h:RD w S (bD c) v:=hc 1 _ _ rfl rfl
   cases h
   rfl
  have hx:(callFunc 239 #[.slice A b.length k,.int .u8 (c.toNat:Int)]).run Tryz.prog w= .ok (.value (.int .i64 (dotI c b))) w:=by
   rw [run_callFunc_extern Tryz.func239 (by kernel_rfl) (by kernel_rfl) (by kernel_rfl) (e:=Extern.BytealgIndexByte.indexByte) (by kernel_rfl)]
   have h0:(Extern.BytealgIndexByte.indexByte #[.slice A b.length k,.int .u8 (c.toNat:Int)]).run Tryz.prog w= .ok (.int .i64 (dotI c b)) w:=by
    show Sem.run _ (do
     let b' ← Extern.Bytes.bytesOf (.slice A b.length k)
     let c' ← Extern.Bytes.asByte (.int .u8 (c.toNat:Int))
     match (List.range b'.size).find? fun i=>b'[i]! ==c' with
     | some i=>pure (goInt i)
     | none=>pure (goInt (-1))) w=_
    simp only [Sem.run_bind,run_bytes hs,Result.andThen_ok]
    have hb:(Extern.Bytes.asByte (.int .u8 (c.toNat:Int))).run Tryz.prog w= .ok c w:=by
     simp [Extern.Bytes.asByte]
    rw [hb]
    simp only [Result.andThen_ok]
    have hf:((List.range (ByteArray.size ⟨b.toArray⟩)).find? fun i=>(⟨b.toArray⟩:ByteArray)[i]! ==c)=if dotAt c b<b.length then some (dotAt c b) else none:=by
     simp only [ba_get]
     exact find_dot c b
    rw [hf,dotI]
    by_cases hd:dotAt c b<b.length
    ·rw [if_pos hd,if_pos hd]
     rfl
    ·rw [if_neg hd,if_neg hd]
     rfl
   rw [h0]
   rfl
  clear hc hT hS hs
  generalize b.length=n at *
  generalize dotI c b=d at *
  generalize (c.toNat:Int)=z at *
  go_enter Tryz.func232,Tryz.ntmps232
  go_wp2
  go_ret
  exact ⟨Ev.refl _ _,_,rfl,RD.v _ rfl⟩
section
variable {G:Nat→Option (List D)}
theorem index1_m (b:List UInt8) (c:UInt8):Spec Tryz.prog G 224 [.c (.sl b.length (b.map bD)),.c (.sl 1 [bD c])] (.one (.c (.v (.int .i64 (dotI c b))))):=by
 have h:=indexB_m (G:=G) b c
 have e0:(((1:Nat):Int)==0)=false:=rfl
 have e1:(((1:Nat):Int)==1)=true:=rfl
 generalize dotI c b=d at *
 generalize b.map bD=L at *
 generalize b.length=n at *
 unfold bD at *
 refine spec_of Tryz.func224 rfl rfl rfl (by kernel_rfl) rfl fun K=>?_
 (repeat' (first|with_reducible (first|refine zA fun Kn hK=>?_|refine zU ?_|refine Nx.go ?_|go_step)|refine ⟨_,h,?_⟩|with_reducible (first|refine zI ?_|refine zV ?_)|simp (maxSteps:=9^9) (disch:=omega) only [wq]|with_reducible refine zM (fun hb=>?_) (fun hb=>?_)<;>try simp only [hb]|with_reducible refine And.intro (by first|omega|(simp;done)|(simp;omega)) ?_|simp (maxSteps:=9^9) -implicitDefEqProofs only [go_sem,e0,e1]))
theorem cut_dot: ∀ b:List UInt8,cutD b=(b.take (dotAt 46 b),b.drop (dotAt 46 b+1),decide (dotAt 46 b<b.length))
 | []=>rfl
 | x :: l=>by
  rw [cutD,dotAt]
  split
  ·simp
  ·rw [cut_dot l]
   simp
theorem cut_m (b:List UInt8) (hb:b.length≤1000000000):Spec Tryz.prog G 209 [.c (.sl b.length (b.map bD)),.c (.sl 1 [bD 46])] (.many [.c (.sl (cutD b).1.length ((cutD b).1.map bD)),.c (.sl (cutD b).2.1.length ((cutD b).2.1.map bD)),.c (.v (.bool (cutD b).2.2))]):=by
 have h:=index1_m (G:=G) b 46
 rw [cut_dot]
 dsimp only
 rw [dotI] at h
 by_cases hd:dotAt 46 b<b.length
 ·rw [if_pos hd] at h
  rw [decide_eq_true hd]
  generalize dotAt 46 b=k at *
  have e1:(b.take k).length=k:=by rw [List.length_take];omega
  have e2:(b.drop (k+1)).length=b.length-(k+1):=List.length_drop
  have e3:(b.take k).map bD=(b.map bD).take k:=List.map_take
  have e4:(b.drop (k+1)).map bD=(b.map bD).drop (k+1):=List.map_drop
  have e5:((b.map bD).drop (k+1)).take (b.length-(k+1))=(b.map bD).drop (k+1):=List.take_of_length_le (by rw [List.length_drop,List.length_map];omega)
  have e6:((k:Int)+((1:Nat):Int)).toNat=k+1:=by omega
  have e7:((b.map bD).take k).length=k:=by rw [List.length_take,List.length_map];omega
  have g:decide ((k:Int)≥0)=true:=decide_eq_true (by omega)
  rw [e1,e2,e3,e4]
  refine spec_of Tryz.func209 rfl rfl rfl (by kernel_rfl) rfl fun K=>?_
  (repeat' (first|with_reducible (first|refine zA fun Kn hK=>?_|refine zU ?_|refine Nx.go ?_|go_step)|refine ⟨_,h,?_⟩|with_reducible (first|refine zI ?_|refine zV ?_)|simp (maxSteps:=9^9) (disch:=omega) only [wq]|with_reducible refine zM (fun hb=>?_) (fun hb=>?_)<;>try simp only [hb]|with_reducible refine And.intro (by first|omega|(simp;done)|(simp;omega)) ?_|simp (maxSteps:=9^9) -implicitDefEqProofs only [go_sem,g,e5,e6,List.length_map]))
  all_goals try rfl
 ·rw [if_neg hd] at h
  rw [decide_eq_false hd]
  have k0:b.take (dotAt 46 b)=b:=List.take_of_length_le (by omega)
  have k1:b.drop (dotAt 46 b+1)=[]:=List.drop_of_length_le (by omega)
  have g:decide ((-1:Int)≥0)=false:=rfl
  rw [k0,k1]
  refine spec_of Tryz.func209 rfl rfl rfl (by kernel_rfl) rfl fun K=>?_
  (repeat' (first|with_reducible (first|refine zA fun Kn hK=>?_|refine zU ?_|refine Nx.go ?_|go_step)|refine ⟨_,h,?_⟩|with_reducible (first|refine zI ?_|refine zV ?_)|simp (maxSteps:=9^9) (disch:=omega) only [wq]|with_reducible refine zM (fun hb=>?_) (fun hb=>?_)<;>try simp only [hb]|with_reducible refine And.intro (by first|omega|(simp;done)|(simp;omega)) ?_|simp (maxSteps:=9^9) -implicitDefEqProofs only [go_sem,g,List.length_map,List.map_nil,List.length_nil]))
  all_goals try rfl
theorem pre1_m (b:List UInt8) (hb:b.length≤1000000000):Spec Tryz.prog G 208 [.c (.sl b.length (b.map bD)),.c (.sl 1 [bD 45])] (.many [.c (.sl (unsig b).length ((unsig b).map bD)),.c (.v (.bool (decide (b.head?=some 45))))]):=by
 cases b with
 | nil =>
  have h:Spec Tryz.prog G 223 [.c (.sl 0 []),.c (.sl 1 [bD 45])] (.one (.c (.v (.bool false)))):=by
   have g:decide (((0:Nat):Int)≥((1:Nat):Int))=false:=rfl
   unfold bD
   refine spec_of Tryz.func223 rfl rfl rfl (by kernel_rfl) rfl fun K=>?_
   (repeat' (first|with_reducible (first|refine zA fun Kn hK=>?_|refine zU ?_|refine Nx.go ?_|go_step)|with_reducible (first|refine zI ?_|refine zV ?_)|simp (maxSteps:=9^9) (disch:=omega) only [wq]|with_reducible refine zM (fun hb=>?_) (fun hb=>?_)<;>try simp only [hb]|with_reducible refine And.intro (by first|omega|(simp;done)|(simp;omega)) ?_|simp (maxSteps:=9^9) -implicitDefEqProofs only [go_sem,g]))
  have e:decide ((([]:List UInt8)).head?=some 45)=false:=rfl
  rw [e]
  unfold bD at *
  refine spec_of Tryz.func208 rfl rfl rfl (by kernel_rfl) rfl fun K=>?_
  (repeat' (first|with_reducible (first|refine zA fun Kn hK=>?_|refine zU ?_|refine Nx.go ?_|go_step)|refine ⟨_,h,?_⟩|with_reducible (first|refine zI ?_|refine zV ?_)|simp (maxSteps:=9^9) (disch:=omega) only [wq]|with_reducible refine zM (fun hb=>?_) (fun hb=>?_)<;>try simp only [hb]|with_reducible refine And.intro (by first|omega|(simp;done)|(simp;omega)) ?_|simp (maxSteps:=9^9) -implicitDefEqProofs only [go_sem,List.map_nil,List.length_nil]))
  all_goals try rfl
 | cons x l =>
  have he:=equal_m (G:=G) [x] [45]
  have hxe:(([x]:List UInt8)==[45])=decide (x=45):=by
   rw [Bool.eq_iff_iff]
   simp
  rw [hxe] at he
  have h:Spec Tryz.prog G 223 [.c (.sl (x::l).length ((x::l).map bD)),.c (.sl 1 [bD 45])] (.one (.c (.v (.bool (decide (x=45)))))):=by
   have g:decide ((((x::l).length:Nat):Int)≥((1:Nat):Int))=true:=decide_eq_true (by simp only [List.length_cons];omega)
   have e1:((x::l).map bD).take 1=[bD x]:=rfl
   have hn1:1≤(x::l).length:=by simp
   generalize (x::l).length=n at *
   generalize (x::l).map bD=L at *
   generalize decide (x=45)=q at *
   unfold bytesD bD at *
   refine spec_of Tryz.func223 rfl rfl rfl (by kernel_rfl) rfl fun K=>?_
   (repeat' (first|with_reducible (first|refine zA fun Kn hK=>?_|refine zU ?_|refine Nx.go ?_|go_step)|refine ⟨_,he,?_⟩|with_reducible (first|refine zI ?_|refine zV ?_)|simp (maxSteps:=9^9) (disch:=omega) only [wq]|with_reducible refine zM (fun hb=>?_) (fun hb=>?_)<;>try simp only [hb]|with_reducible refine And.intro (by first|omega|(simp;done)|(simp;omega)) ?_|simp (maxSteps:=9^9) -implicitDefEqProofs only [go_sem,g,e1]))
  have e:decide ((x::l).head?=some 45)=decide (x=45):=by simp
  rw [e]
  by_cases hx:x=45
  ·subst hx
   have hu:unsig (45::l)=l:=by simp [unsig]
   rw [hu]
   simp only [decide_true] at *
   have e2:(((45:UInt8)::l).map bD).drop 1=l.map bD:=rfl
   have e3:(l.map bD).take l.length=l.map bD:=List.take_of_length_le (by simp)
   have e4:((45:UInt8)::l).length-1=l.length:=rfl
   generalize hL:(((45:UInt8)::l).map bD)=L at *
   have hn:((45:UInt8)::l).length=l.length+1:=rfl
   rw [hn] at *
   unfold bD at h
   refine spec_of Tryz.func208 rfl rfl rfl (by kernel_rfl) rfl fun K=>?_
   (repeat' (first|with_reducible (first|refine zA fun Kn hK=>?_|refine zU ?_|refine Nx.go ?_|go_step)|refine ⟨_,h,?_⟩|with_reducible (first|refine zI ?_|refine zV ?_)|simp (maxSteps:=9^9) (disch:=omega) only [wq]|with_reducible refine zM (fun hb=>?_) (fun hb=>?_)<;>try simp only [hb]|with_reducible refine And.intro (by first|omega|(simp;done)|(simp;omega)) ?_|simp (maxSteps:=9^9) -implicitDefEqProofs only [go_sem,e2,e3,e4,Nat.add_sub_cancel,List.length_map,bD]))
   all_goals try rfl
  ·have hu:unsig (x::l)=x::l:=by simp [unsig,hx]
   rw [hu]
   rw [decide_eq_false hx] at *
   generalize (x::l).length=n at *
   generalize (x::l).map bD=L at *
   unfold bD at *
   refine spec_of Tryz.func208 rfl rfl rfl (by kernel_rfl) rfl fun K=>?_
   (repeat' (first|with_reducible (first|refine zA fun Kn hK=>?_|refine zU ?_|refine Nx.go ?_|go_step)|refine ⟨_,h,?_⟩|with_reducible (first|refine zI ?_|refine zV ?_)|simp (maxSteps:=9^9) (disch:=omega) only [wq]|with_reducible refine zM (fun hb=>?_) (fun hb=>?_)<;>try simp only [hb]|with_reducible refine And.intro (by first|omega|(simp;done)|(simp;omega)) ?_|simp (maxSteps:=9^9) -implicitDefEqProofs only [go_sem,List.length_map]))
   all_goals try rfl
end
end Go.Proofs.YtfammdfpgccnfaaGreatDoor
namespace Go.Proofs.YtfammdfpgccnfaaGreatDoor
open Ieee
def fOk (w:Nat):Prop:=(double.read w).isNaN=false
theorem write_ok {d:Datum} (h:d.isNaN=false):fOk (double.write d):=by
 have key: ∀ (neg:Bool) (r:Nat),r≤double.infRung→fOk (double.word neg r):=by
  intro neg r hr
  have e1:double.infRung=9218868437227405312:=by decide
  have e2:double.signWeight=9223372036854775808:=by decide
  have e3:double.binade=4503599627370496:=by decide
  have hm:double.word neg r%double.signWeight=r:=by
   rw [Format.word,e2]
   rw [e1] at hr
   cases neg<;>simp only [Bool.false_eq_true, ↓reduceIte]<;>omega
  unfold fOk Format.read
  simp only [hm]
  split
  ·rfl
  ·split
   ·rfl
   ·rw [if_pos (by omega)]
    rfl
 cases d with
 | number neg mag place =>
  unfold Format.write Format.nearest
  dsimp only
  split
  ·exact key _ _ (Nat.zero_le _)
  ·exact key _ _ (Nat.min_le_right _ _)
 | infinity neg=>exact key _ _ (Nat.le_refl _)
 | nan neg f=>cases h
theorem order_self {w:Nat} (h:fOk w):double.order w w=some .eq:=by
 unfold fOk at h
 unfold Format.order
 generalize double.read w=d at *
 cases d with
 | number s m i=>simp [Datum.order]
 | infinity s=>simp [Datum.order]
 | nan _ _=>cases h
theorem div_ok {x y:Nat} {s:Bool} {n:Nat} {j:Int} (hx:fOk x) (hy:double.read y= .number s n j) (hn:n≠0): ∃ r,double.div x y=some r∧fOk r:=by
 unfold fOk at hx
 unfold Format.div
 rw [hy]
 generalize double.read x=d at *
 cases d with
 | number t m i=>exact ⟨_,by simp only [Datum.quotient,if_neg hn];rfl,write_ok rfl⟩
 | infinity t=>exact ⟨_,by simp only [Datum.quotient];rfl,write_ok rfl⟩
 | nan _ _=>cases hx
theorem int_ok (n:Int):fOk (floatOfInt .f64 n):=write_ok (d:= .number (n<0) n.natAbs 0) rfl
theorem fOk_mod {v w:Nat} (h:v%9223372036854775808=w%9223372036854775808) (hw:fOk w):fOk v:=by
 have e2:double.signWeight=9223372036854775808:=by decide
 unfold fOk Format.read at *
 simp only [e2] at *
 rw [h]
 generalize w%9223372036854775808=r at *
 split
 ·rfl
 ·split
  ·rfl
  ·split
   ·rfl
   ·rename_i h1 h2 h3
    rw [if_neg h1,if_neg h2,if_neg h3] at hw
    exact hw
def tenP:List Nat:=[4607182418800017408,4621819117588971520,4636737291354636288,4652007308841189376,4666723172467343360,4681608360884174848,4696837146684686336,4711630319722168320,4726483295884279808,4741671816366391296,4756540486875873280,4771362005757984768,4786511204640096256,4801453603149578240,4816244402031689728,4831355200913801216]
theorem tenP_step: ∀ k,k<15→double.mul (tenP.getD k 0) 4621819117588971520=some (tenP.getD (k+1) 0):=by decide +kernel
theorem tenP_num: ∀ k,k≤15→ ∃ n j,double.read (tenP.getD k 0)= .number false n j∧n≠0:=by
 have h: ∀ k,k≤15→(match double.read (tenP.getD k 0) with| .number false n _=>decide (n≠0)|_=>false)=true:=by decide +kernel
 intro k hk
 have:=h k hk
 split at this
 ·rename_i n j e
  exact ⟨n,j,e,by simpa using this⟩
 ·cases this
end Go.Proofs.YtfammdfpgccnfaaGreatDoor
namespace Go.Proofs.YtfammdfpgccnfaaGreatDoor
open Go.RowKit
def fD (n:Nat):D:= .v (.float .f64 n)
theorem run_from (z:Int) (w:World):(callFunc 222 #[.int .u64 z]).run Tryz.prog w= .ok (.value (.float .f64 z.toNat)) w:=by
 rw [run_callFunc_extern Tryz.func222 (by kernel_rfl) (by kernel_rfl) (by kernel_rfl) (e:=Extern.MathFloatBits.float64frombits) (by kernel_rfl)]
 rfl
theorem run_bits (n:Nat) (w:World):(callFunc 225 #[.float .f64 n]).run Tryz.prog w= .ok (.value (.int .u64 n)) w:=by
 rw [run_callFunc_extern Tryz.func225 (by kernel_rfl) (by kernel_rfl) (by kernel_rfl) (e:=Extern.MathFloatBits.float64bits) (by kernel_rfl)]
 rfl
section
variable {G:Nat→Option (List D)}
theorem nan_m:Spec Tryz.prog G 207 [] (.one (.c (fD 9221120237041090561))):=by
 intro w S vs hS hT hA
 obtain ⟨hl,hc⟩:=hA
 match vs,hl with
 | [],_ =>
  have hx:=run_from 9221120237041090561 w
  clear hc hT hS
  go_enter Tryz.func207,Tryz.ntmps207
  go_wp2
  go_ret
  exact ⟨Ev.refl _ _,_,rfl,RD.v _ rfl⟩
theorem inf_m (z:Int) (r:Nat) (hz:z=1∧r=9218868437227405312∨z= -1∧r=18442240474082181120):Spec Tryz.prog G 206 [.c (.v (.int .i64 z))] (.one (.c (fD r))):=by
 intro w S vs hS hT hA
 obtain ⟨hl,hc⟩:=hA
 match vs,hl with
 | [u],_ =>
  obtain rfl:u= .int .i64 z:=by
   have h:RD w S (.v (.int .i64 z)) u:=hc 0 _ _ rfl rfl
   cases h
   rfl
  have hx:=run_from 9218868437227405312 w
  have hy:=run_from 18442240474082181120 w
  clear hc hT hS
  rcases hz with ⟨rfl,rfl⟩|⟨rfl,rfl⟩
  all_goals
   go_enter Tryz.func206,Tryz.ntmps206
   go_wp2
   go_ret
   exact ⟨Ev.refl _ _,_,rfl,RD.v _ rfl⟩
def sgF (n:Nat):Nat:=n%9223372036854775808+9223372036854775808
theorem sg_ok {n:Nat} (h:fOk n):fOk (sgF n):=fOk_mod (by unfold sgF;omega) h
theorem sg_bits (n:Nat) (hn:n<18446744073709551616):(bits .or .u64 (bits .andNot .u64 n 9223372036854775808) (bits .and .u64 13830554455654793216 9223372036854775808)).toNat=sgF n:=by
 have e1:bits .and .u64 13830554455654793216 9223372036854775808=((9223372036854775808:Nat):Int):=by decide
 have e2:bits .andNot .u64 (n:Int) 9223372036854775808=((n%9223372036854775808:Nat):Int):=by
  have h:=u64_andNot_nat n 9223372036854775808 hn (by decide)
  have h2:n &&& (2^63-1)=n%2^63:=Nat.and_two_pow_sub_one_eq_mod n 63
  rw [show (18446744073709551615-9223372036854775808:Nat)=2^63-1 by decide,h2] at h
  exact h
 rw [e1,e2,bits_or_u64_nat _ _ (by omega) (by decide)]
 have h3:=Nat.shiftLeft_add_eq_or_of_lt (b:=n%9223372036854775808) (i:=63) (by simpa using Nat.mod_lt n (by decide)) 1
 rw [Nat.shiftLeft_eq] at h3
 rw [Int.toNat_natCast,Nat.or_comm,sgF,Nat.add_comm]
 exact h3.symm
theorem sign_m (n:Nat) (hn:n<18446744073709551616):Spec Tryz.prog G 211 [.c (fD n),.c (fD 13830554455654793216)] (.one (.c (fD (sgF n)))):=by
 intro w S vs hS hT hA
 obtain ⟨hl,hc⟩:=hA
 match vs,hl with
 | [u,v],_ =>
  obtain rfl:u= .float .f64 n:=by
   have h:RD w S (fD n) u:=hc 0 _ _ rfl rfl
   cases h
   rfl
  obtain rfl:v= .float .f64 13830554455654793216:=by
   have h:RD w S (fD 13830554455654793216) v:=hc 1 _ _ rfl rfl
   cases h
   rfl
  have hx:=fun m=>run_bits m w
  have hf:=fun z=>run_from z w
  clear hc hT hS
  go_enter Tryz.func211,Tryz.ntmps211
  go_wp2
  go_ret
  refine ⟨Ev.refl _ _,_,rfl,?_⟩
  show DRd w _ _ (.float .f64 (bits .or .u64 (bits .andNot .u64 n 9223372036854775808) (bits .and .u64 13830554455654793216 9223372036854775808)).toNat)
  rw [sg_bits n hn]
  exact RD.v _ rfl
end
theorem run_ten {k:Nat} (h:k<15) (w:World) (t:TypeId):(binOp .mul t (.float .f64 (tenP.getD k 0)) (.float .f64 4621819117588971520)).run Tryz.prog w= .ok (.float .f64 (tenP.getD (k+1) 0)) w:=run_float_arith w .mul t .f64 _ _ _ (tenP_step k h)
theorem run_i2f (n:Int) (w:World) (s t:TypeId) (hs:(Tryz.prog.underlying s).isSome=true) (ht:Tryz.prog.underlying t=some (.float .f64)):(convert s t (.int .i64 n)).run Tryz.prog w= .ok (.float .f64 (floatOfInt .f64 n)) w:=run_convert_int_float w s t .i64 .f64 n hs ht
theorem run_quo {x k:Nat} {r:Nat} (h:Ieee.double.div x (tenP.getD k 0)=some r) (w:World) (t:TypeId):(binOp .quo t (.float .f64 x) (.float .f64 (tenP.getD k 0))).run Tryz.prog w= .ok (.float .f64 r) w:=run_float_arith w .quo t .f64 _ _ _ h
section
variable {G:Nat→Option (List D)}
structure GetH (G:Nat→Option (List D)) (b u w p:List UInt8) (s mn:Bool):Prop where
 t1:(b==wInf)=false
 t2:(b==45::wInf)=false
 t3:(b==wNan)=false
 h1:Spec Tryz.prog G 208 [.c (.sl b.length (b.map bD)),.c (.sl 1 [bD 45])] (.many [.c (.sl u.length (u.map bD)),.c (.v (.bool mn))])
 h2:Spec Tryz.prog G 209 [.c (.sl u.length (u.map bD)),.c (.sl 1 [bD 46])] (.many [.c (.sl w.length (w.map bD)),.c (.sl p.length (p.map bD)),.c (.v (.bool s))])
 l:w.length+p.length≤1000000000
theorem get_long {b u w p:List UInt8} {s mn:Bool} (h:GetH G b u w p s mn) (hl:decide ((w.length:Int)+(p.length:Int)>15)=true):Spec Tryz.prog G 194 [.c (.sl b.length (b.map bD))] (.many [.c (fD 0),.c (.v (.bool false))]):=by
 obtain ⟨t1,t2,t3,h1,h2,l⟩:=h
 unfold wInf wNan fD at *
 generalize u.map bD=U at *
 generalize u.length=un at *
 refine spec_of Tryz.func194 rfl rfl rfl (by kernel_rfl) rfl fun K=>?_
 (repeat' (first|with_reducible (first|refine zA fun Kn hK=>?_|refine zU ?_|refine Nx.go ?_|go_step)|refine ⟨none,?_⟩|refine ⟨_,h1,?_⟩|refine ⟨_,h2,?_⟩|with_reducible (first|refine zI ?_|refine zV ?_)|simp (maxSteps:=9^9) (disch:=omega) only [wq]|with_reducible refine zM (fun hb=>?_) (fun hb=>?_)<;>try simp only [hb]|with_reducible refine And.intro (by first|omega|(simp;done)|(simp;omega)) ?_|simp (maxSteps:=9^9) -implicitDefEqProofs only [go_sem,t1,t2,t3,hl,bD]))
theorem get_bad {b u w p:List UInt8} {s mn q1 q2:Bool} {n m:Int} (h:GetH G b u w p s mn) (hl:decide ((w.length:Int)+(p.length:Int)>15)=false)
  (g1:Spec Tryz.prog G 210 [.c (.v (.int .i64 0)),.c (.sl w.length (w.map bD))] (.many [.c (.v (.int .i64 n)),.c (.v (.bool q1))]))
  (g2:s=true→q1=true→Spec Tryz.prog G 210 [.c (.v (.int .i64 n)),.c (.sl p.length (p.map bD))] (.many [.c (.v (.int .i64 m)),.c (.v (.bool q2))])) (hq:(q1&&(!s||q2))=false) :
  Spec Tryz.prog G 194 [.c (.sl b.length (b.map bD))] (.many [.c (fD 0),.c (.v (.bool false))]):=by
 obtain ⟨t1,t2,t3,h1,h2,l⟩:=h
 unfold wInf wNan fD at *
 generalize u.map bD=U at *
 generalize u.length=un at *
 cases q1 with
 | false =>
  cases s
  all_goals
   refine spec_of Tryz.func194 rfl rfl rfl (by kernel_rfl) rfl fun K=>?_
   (repeat' (first|with_reducible (first|refine zA fun Kn hK=>?_|refine zU ?_|refine Nx.go ?_|go_step)|refine ⟨none,?_⟩|refine ⟨_,h1,?_⟩|refine ⟨_,h2,?_⟩|refine ⟨_,g1,?_⟩|with_reducible (first|refine zI ?_|refine zV ?_)|simp (maxSteps:=9^9) (disch:=omega) only [wq]|with_reducible refine zM (fun hb=>?_) (fun hb=>?_)<;>try simp only [hb]|with_reducible refine And.intro (by first|omega|(simp;done)|(simp;omega)) ?_|simp (maxSteps:=9^9) -implicitDefEqProofs only [go_sem,t1,t2,t3,hl,bD]))
 | true =>
  cases s with
  | false=>simp at hq
  | true =>
   have g2:=g2 rfl rfl
   cases q2 with
   | true=>simp at hq
   | false =>
    refine spec_of Tryz.func194 rfl rfl rfl (by kernel_rfl) rfl fun K=>?_
    (repeat' (first|with_reducible (first|refine zA fun Kn hK=>?_|refine zU ?_|refine Nx.go ?_|go_step)|refine ⟨none,?_⟩|refine ⟨_,h1,?_⟩|refine ⟨_,h2,?_⟩|refine ⟨_,g1,?_⟩|refine ⟨_,g2,?_⟩|with_reducible (first|refine zI ?_|refine zV ?_)|simp (maxSteps:=9^9) (disch:=omega) only [wq]|with_reducible refine zM (fun hb=>?_) (fun hb=>?_)<;>try simp only [hb]|with_reducible refine And.intro (by first|omega|(simp;done)|(simp;omega)) ?_|simp (maxSteps:=9^9) -implicitDefEqProofs only [go_sem,t1,t2,t3,hl,bD]))
theorem get_good {b u w p:List UInt8} {s mn:Bool} {n m:Int} {r:Nat} (h:GetH G b u w p s mn) (hl:decide ((w.length:Int)+(p.length:Int)>15)=false) (hp:p.length≤15)
  (g1:Spec Tryz.prog G 210 [.c (.v (.int .i64 0)),.c (.sl w.length (w.map bD))] (.many [.c (.v (.int .i64 n)),.c (.v (.bool true))]))
  (g2:s=true→Spec Tryz.prog G 210 [.c (.v (.int .i64 n)),.c (.sl p.length (p.map bD))] (.many [.c (.v (.int .i64 m)),.c (.v (.bool true))])) (hs:s=false→p=[]∧m=n)
  (hr:Ieee.double.div (floatOfInt .f64 m) (tenP.getD p.length 0)=some r) (hw:r<18446744073709551616) :
  Spec Tryz.prog G 194 [.c (.sl b.length (b.map bD))] (.many [.c (fD (if mn then sgF r else r)),.c (.v (.bool true))]):=by
 obtain ⟨t1,t2,t3,h1,h2,l⟩:=h
 have hi:=fun (n:Int) (w:World) (s:TypeId) hs=>run_i2f n w s 186 hs Tryz.underlying186
 have hz:tenP.getD 0 0=4607182418800017408:=rfl
 have hg:=sign_m (G:=G) r hw
 unfold wInf wNan fD at *
 generalize u.map bD=U at *
 generalize u.length=un at *
 cases s with
 | false =>
  obtain ⟨rfl,rfl⟩:=hs rfl
  have hl':decide ((w.length:Int)+((0:Nat):Int)>15)=false:=hl
  have c0:decide ((0:Int)<((0:Nat):Int))=false:=rfl
  have hq:=fun (W:World) t=>run_quo (k:=0) hr W t
  clear hr
  cases mn
  all_goals
   refine spec_of Tryz.func194 rfl rfl rfl (by kernel_rfl) rfl fun K=>?_
   (repeat' (first|with_reducible (first|refine zA fun Kn hK=>?_|refine zU ?_|refine Nx.go ?_|go_step)|refine ⟨none,?_⟩|refine ⟨_,h1,?_⟩|refine ⟨_,h2,?_⟩|refine ⟨_,g1,?_⟩|(refine ⟨.float .f64 (floatOfInt .f64 m),⟨rfl,fun w=>hi m w _ rfl⟩,?_⟩)|with_reducible (first|refine zI ?_|refine zV ?_)|simp (maxSteps:=9^9) (disch:=omega) only [wq]|with_reducible refine zM (fun hb=>?_) (fun hb=>?_)<;>try simp only [hb]|with_reducible refine And.intro (by first|omega|(simp;done)|(simp;omega)) ?_|simp (maxSteps:=9^9) -implicitDefEqProofs only [go_sem,t1,t2,t3,hl',bD,List.map_nil,List.length_nil]))
   refine sound_loopN 1 ?_
   (repeat' (first|with_reducible (first|refine zA fun Kn hK=>?_|refine zU ?_|refine Nx.go ?_|go_step)|(refine ⟨.float .f64 r,⟨rfl,fun w=>hq w _⟩,?_⟩)|refine ⟨_,hg,?_⟩|with_reducible (first|refine zI ?_|refine zV ?_)|simp (maxSteps:=9^9) (disch:=omega) only [wq]|with_reducible refine zM (fun hb=>?_) (fun hb=>?_)<;>try simp only [hb]|with_reducible refine And.intro (by first|omega|(simp;done)|(simp;omega)) ?_|simp (maxSteps:=9^9) -implicitDefEqProofs only [go_sem,c0]))
   try rfl
 | true =>
  have g2:=g2 rfl
  cases mn
  all_goals
   refine spec_of Tryz.func194 rfl rfl rfl (by kernel_rfl) rfl fun K=>?_
   (repeat' (first|with_reducible (first|refine zA fun Kn hK=>?_|refine zU ?_|refine Nx.go ?_|go_step)|refine ⟨none,?_⟩|refine ⟨_,h1,?_⟩|refine ⟨_,h2,?_⟩|refine ⟨_,g1,?_⟩|refine ⟨_,g2,?_⟩|(refine ⟨.float .f64 (floatOfInt .f64 m),⟨rfl,fun w=>hi m w _ rfl⟩,?_⟩)|with_reducible (first|refine zI ?_|refine zV ?_)|simp (maxSteps:=9^9) (disch:=omega) only [wq]|with_reducible refine zM (fun hb=>?_) (fun hb=>?_)<;>try simp only [hb]|with_reducible refine And.intro (by first|omega|(simp;done)|(simp;omega)) ?_|simp (maxSteps:=9^9) -implicitDefEqProofs only [go_sem,t1,t2,t3,hl,bD]))
  ·refine sound_loopR (fun x:{k:Nat // k≤p.length}=>⟨[(4,vB false),(10,.a (.c (.d (.v (.float .f64 (floatOfInt .f64 m)))))),(11,.a (.c (.d (.v (.float .f64 (tenP.getD x.1 0)))))),(64,vI p.length),(65,vI x.1)],[]⟩) (fun x=>p.length-x.1) ⟨0,Nat.zero_le _⟩ [] (by (iterate 2 ((try simp (maxSteps:=9^9) -implicitDefEqProofs only [go_sem,hz]);(try simp (maxSteps:=9^9) (disch:=omega) only [wq])));try simp [hz]) (fun ⟨k,hk⟩=>?_)
   by_cases hlt:k<p.length
   ·have hb:decide ((k:Int)<(p.length:Int))=true:=decide_eq_true (by omega)
    (repeat' (first|with_reducible (first|refine zA fun Kn hK=>?_|refine zU ?_|refine Nx.go ?_|go_step)|(refine ⟨.float .f64 (tenP.getD (k+1) 0),⟨rfl,fun w=>run_ten (by omega) w _⟩,?_⟩)|with_reducible (first|refine zI ?_|refine zV ?_)|simp (maxSteps:=9^9) (disch:=omega) only [wq]|with_reducible refine zM (fun hb=>?_) (fun hb=>?_)<;>try simp only [hb]|with_reducible refine And.intro (by first|omega|(simp;done)|(simp;omega)) ?_|simp (maxSteps:=9^9) -implicitDefEqProofs only [go_sem,hb]))
    refine ⟨[],⟨k+1,hlt⟩,?_⟩
    (iterate 2 ((try simp (maxSteps:=9^9) -implicitDefEqProofs only [go_sem,hb]);(try simp (maxSteps:=9^9) (disch:=omega) only [wq])))
    try (simp only [ijq,true_and,and_true];first|done|omega|(split<;>omega)|(simp;done)|(simp;omega))
   ·have hb:decide ((k:Int)<(p.length:Int))=false:=decide_eq_false (by omega)
    obtain rfl:k=p.length:=by omega
    (repeat' (first|with_reducible (first|refine zA fun Kn hK=>?_|refine zU ?_|refine Nx.go ?_|go_step)|(refine ⟨.float .f64 r,⟨rfl,fun w=>run_quo hr w _⟩,?_⟩)|refine ⟨_,hg,?_⟩|with_reducible (first|refine zI ?_|refine zV ?_)|simp (maxSteps:=9^9) (disch:=omega) only [wq]|with_reducible refine zM (fun hb=>?_) (fun hb=>?_)<;>try simp only [hb]|with_reducible refine And.intro (by first|omega|(simp;done)|(simp;omega)) ?_|simp (maxSteps:=9^9) -implicitDefEqProofs only [go_sem,hb]))
    try rfl
  ·refine sound_loopR (fun x:{k:Nat // k≤p.length}=>⟨[(4,vB true),(10,.a (.c (.d (.v (.float .f64 (floatOfInt .f64 m)))))),(11,.a (.c (.d (.v (.float .f64 (tenP.getD x.1 0)))))),(64,vI p.length),(65,vI x.1)],[]⟩) (fun x=>p.length-x.1) ⟨0,Nat.zero_le _⟩ [] (by (iterate 2 ((try simp (maxSteps:=9^9) -implicitDefEqProofs only [go_sem,hz]);(try simp (maxSteps:=9^9) (disch:=omega) only [wq])));try simp [hz]) (fun ⟨k,hk⟩=>?_)
   by_cases hlt:k<p.length
   ·have hb:decide ((k:Int)<(p.length:Int))=true:=decide_eq_true (by omega)
    (repeat' (first|with_reducible (first|refine zA fun Kn hK=>?_|refine zU ?_|refine Nx.go ?_|go_step)|(refine ⟨.float .f64 (tenP.getD (k+1) 0),⟨rfl,fun w=>run_ten (by omega) w _⟩,?_⟩)|with_reducible (first|refine zI ?_|refine zV ?_)|simp (maxSteps:=9^9) (disch:=omega) only [wq]|with_reducible refine zM (fun hb=>?_) (fun hb=>?_)<;>try simp only [hb]|with_reducible refine And.intro (by first|omega|(simp;done)|(simp;omega)) ?_|simp (maxSteps:=9^9) -implicitDefEqProofs only [go_sem,hb]))
    refine ⟨[],⟨k+1,hlt⟩,?_⟩
    (iterate 2 ((try simp (maxSteps:=9^9) -implicitDefEqProofs only [go_sem,hb]);(try simp (maxSteps:=9^9) (disch:=omega) only [wq])))
    try (simp only [ijq,true_and,and_true];first|done|omega|(split<;>omega)|(simp;done)|(simp;omega))
   ·have hb:decide ((k:Int)<(p.length:Int))=false:=decide_eq_false (by omega)
    obtain rfl:k=p.length:=by omega
    (repeat' (first|with_reducible (first|refine zA fun Kn hK=>?_|refine zU ?_|refine Nx.go ?_|go_step)|(refine ⟨.float .f64 r,⟨rfl,fun w=>run_quo hr w _⟩,?_⟩)|refine ⟨_,hg,?_⟩|with_reducible (first|refine zI ?_|refine zV ?_)|simp (maxSteps:=9^9) (disch:=omega) only [wq]|with_reducible refine zM (fun hb=>?_) (fun hb=>?_)<;>try simp only [hb]|with_reducible refine And.intro (by first|omega|(simp;done)|(simp;omega)) ?_|simp (maxSteps:=9^9) -implicitDefEqProofs only [go_sem,hb]))
    try rfl
end
section
variable {G:Nat→Option (List D)}
theorem alpha_m (b:List UInt8) (hn:b.length≤1000000000):Spec Tryz.prog G 192 [.c (.sl b.length (b.map bD)),.c (.sl b.length (b.map bD))] (.many [iD 0,.c (.v (.bool true))]):=by
 have h:=cmpB_m (G:=G) b hn
 generalize b.map bD=L at *
 generalize b.length=n at *
 unfold iD at *
 refine spec_of Tryz.func192 rfl rfl rfl (by kernel_rfl) rfl fun K=>?_
 (repeat' (first|with_reducible (first|refine zA fun Kn hK=>?_|refine zU ?_|refine Nx.go ?_|go_step)|refine ⟨_,h,?_⟩|with_reducible (first|refine zI ?_|refine zV ?_)|simp (maxSteps:=9^9) (disch:=omega) only [wq]|with_reducible refine zM (fun hb=>?_) (fun hb=>?_)<;>try simp only [hb]|with_reducible refine And.intro (by first|omega|(simp;done)|(simp;omega)) ?_|simp (maxSteps:=9^9) -implicitDefEqProofs only [go_sem,true_and]))
 try rfl
theorem binary_m (b:List UInt8) (hn:b.length≤1000000000):Spec Tryz.prog G 196 [.c (.sl b.length (b.map bD)),.c (.sl b.length (b.map bD))] (.many [iD 0,.c (.v (.bool true))]):=by
 have h1:=trim_m (G:=G) b hn
 have hb:(bareL b).length≤1000000000:=Nat.le_trans (bareL_le b) hn
 have h2:=cmpB_m (G:=G) (bareL b) hb
 have h3:=cmpI_m (G:=G) (bareL b).length
 have h4:=orI_m (G:=G)
 generalize (bareL b).map bD=L' at *
 generalize (bareL b).length=n' at *
 generalize b.map bD=L at *
 generalize b.length=n at *
 unfold iD at *
 have z0:((0:Nat):Int)=0:=rfl
 rw [z0] at h4
 refine spec_of Tryz.func196 rfl rfl rfl (by kernel_rfl) rfl fun K=>?_
 (repeat' (first|with_reducible (first|refine zA fun Kn hK=>?_|refine zU ?_|refine Nx.go ?_|go_step)|refine ⟨none,?_⟩|refine ⟨_,h1,?_⟩|refine ⟨_,h2,?_⟩|refine ⟨_,h3,?_⟩|refine ⟨_,h4,?_⟩|with_reducible (first|refine zI ?_|refine zV ?_)|simp (maxSteps:=9^9) (disch:=omega) only [wq]|with_reducible refine zM (fun hb=>?_) (fun hb=>?_)<;>try simp only [hb]|with_reducible refine And.intro (by first|omega|(simp;done)|(simp;omega)) ?_|simp (maxSteps:=9^9) -implicitDefEqProofs only [go_sem,z0]))
 try rfl
end
def ofD (o:UInt8):D:=
 if o=1 then fnV 192
 else if o=2 then .fn 204 [.ptr [fnV 194] 0]
 else if o=3 then .fn 212 [.ptr [fnV 139] 0]
 else if o=4 then fnV 196
 else if o=5 then .fn 212 [.ptr [fnV 120] 0]
 else .v .nilFunc
section
variable {G:Nat→Option (List D)}
theorem numF_m (f:FuncId):Spec Tryz.prog G 193 [.c (fnV f)] (.one (.c (.fn 204 [.ptr [fnV f] 0]))):=by
 unfold fnV
 refine spec_of Tryz.func193 rfl rfl rfl (by kernel_rfl) rfl fun K=>?_
 (repeat' (first|with_reducible (first|refine zA fun Kn hK=>?_|refine zU ?_|refine Nx.go ?_|go_step)|with_reducible (first|refine zI ?_|refine zV ?_)|simp (maxSteps:=9^9) (disch:=omega) only [wq]|with_reducible refine zM (fun hb=>?_) (fun hb=>?_)<;>try simp only [hb]|with_reducible refine And.intro (by first|omega|(simp;done)|(simp;omega)) ?_|simp (maxSteps:=9^9) -implicitDefEqProofs only [go_sem,true_and,List.mapM_cons,List.mapM_nil,Option.bind_eq_bind,Option.bind_some,Option.pure_def]))
theorem of_m (o:UInt8):Spec Tryz.prog G 185 [.c (bD o)] (.one (.c (ofD o))):=by
 have n2:=numF_m (G:=G) 194
 have n3:=numL_m (G:=G) 139
 have n5:=numL_m (G:=G) 120
 have eq: ∀ k:Nat,k<256→((o.toNat:Int)==(k:Int))=decide (o=UInt8.ofNat k):=fun k hk=>by
  rw [Bool.eq_iff_iff]
  simp only [beq_iff_eq,decide_eq_true_eq,← UInt8.toNat_inj,UInt8.toNat_ofNat']
  omega
 have e1:((o.toNat:Int)==1)=decide (o=1):=eq 1 (by decide)
 have e2:((o.toNat:Int)==2)=decide (o=2):=eq 2 (by decide)
 have e3:((o.toNat:Int)==3)=decide (o=3):=eq 3 (by decide)
 have e4:((o.toNat:Int)==4)=decide (o=4):=eq 4 (by decide)
 have e5:((o.toNat:Int)==5)=decide (o=5):=eq 5 (by decide)
 unfold fnV at n2 n3 n5
 unfold ofD fnV bD
 generalize hp1:decide (o=1)=p1 at *
 generalize hp2:decide (o=2)=p2 at *
 generalize hp3:decide (o=3)=p3 at *
 generalize hp4:decide (o=4)=p4 at *
 generalize hp5:decide (o=5)=p5 at *
 refine spec_of Tryz.func185 rfl rfl rfl (by kernel_rfl) rfl fun K=>?_
 (repeat' (first|with_reducible (first|refine zA fun Kn hK=>?_|refine zU ?_|refine Nx.go ?_|go_step)|refine ⟨_,n2,?_⟩|refine ⟨_,n3,?_⟩|refine ⟨_,n5,?_⟩|with_reducible (first|refine zI ?_|refine zV ?_)|simp (maxSteps:=9^9) (disch:=omega) only [wq]|with_reducible refine zM (fun hb=>?_) (fun hb=>?_)<;>try simp only [hb]|with_reducible refine And.intro (by first|omega|(simp;done)|(simp;omega)) ?_|simp (maxSteps:=9^9) -implicitDefEqProofs only [go_sem,e1,e2,e3,e4,e5]))
 all_goals simp_all
end
section
variable (numB:List UInt8→Bool)
def isVP (o:UInt8) (b:List UInt8):Bool:=
 if o=1 then true else if o=2 then numB b else if o=3 then (clockP b).isSome else if o=4 then true else if o=5 then (dateP b).isSome else false
end
section
variable {G:Nat→Option (List D)} {numB:List UInt8→Bool}
theorem fo1:funcOk Tryz.prog 192=true:=by kernel_rfl
theorem fo2:funcOk Tryz.prog 204=true:=by kernel_rfl
theorem fo3:funcOk Tryz.prog 212=true:=by kernel_rfl
theorem fo4:funcOk Tryz.prog 196=true:=by kernel_rfl
theorem compare_m (H2: ∀ b:List UInt8,b.length≤1000000000→Spec Tryz.prog G 204 [.c (.sl b.length (b.map bD)),.c (.sl b.length (b.map bD)),.c (.ptr [fnV 194] 0)] (.many [iD 0,.c (.v (.bool (numB b)))]))
  (o:UInt8) (b:List UInt8) (hn:b.length≤1000000000):Spec Tryz.prog G 217 [.c (bD o),.c (.sl b.length (b.map bD)),.c (.sl b.length (b.map bD))] (.many [iD 0,.c (.v (.bool (isVP numB o b)))]):=by
 have ho:=of_m (G:=G) o
 have h1:=alpha_m (G:=G) b hn
 have h2:=H2 b hn
 have h3:=byL_m (G:=G) 139 b.length (b.map bD) (clockP b) (by kernel_rfl) (clock_m b _ rfl hn)
 have h4:=binary_m (G:=G) b hn
 have h5:=byL_m (G:=G) 120 b.length (b.map bD) (dateP b) (by kernel_rfl) (date_m b _ rfl hn)
 unfold isVP
 unfold ofD at ho
 generalize clockP b=oc at *
 generalize dateP b=od at *
 generalize numB b=nb at *
 generalize b.map bD=L at *
 generalize b.length=n at *
 unfold iD bD fnV at *
 have f1:=fo1
 have f2:=fo2
 have f3:=fo3
 have f4:=fo4
 by_cases c1:o=1
 ·rw [if_pos c1] at ho ⊢
  refine spec_of Tryz.func217 rfl rfl rfl (by kernel_rfl) rfl fun K=>?_
  (repeat' (first|with_reducible (first|refine zA fun Kn hK=>?_|refine zU ?_|refine Nx.go ?_|go_step)|refine ⟨_,ho,?_⟩|refine ⟨_,h1,?_⟩|with_reducible (first|refine zI ?_|refine zV ?_)|simp (maxSteps:=9^9) (disch:=omega) only [wq]|with_reducible refine zM (fun hb=>?_) (fun hb=>?_)<;>try simp only [hb]|with_reducible refine And.intro (by first|omega|(simp;done)|(simp;omega)) ?_|simp (maxSteps:=9^9) -implicitDefEqProofs only [go_sem,f1]))
  try rfl
 rw [if_neg c1] at ho ⊢
 by_cases c2:o=2
 ·rw [if_pos c2] at ho ⊢
  refine spec_of Tryz.func217 rfl rfl rfl (by kernel_rfl) rfl fun K=>?_
  (repeat' (first|with_reducible (first|refine zA fun Kn hK=>?_|refine zU ?_|refine Nx.go ?_|go_step)|refine ⟨_,ho,?_⟩|refine ⟨_,h2,?_⟩|with_reducible (first|refine zI ?_|refine zV ?_)|simp (maxSteps:=9^9) (disch:=omega) only [wq]|with_reducible refine zM (fun hb=>?_) (fun hb=>?_)<;>try simp only [hb]|with_reducible refine And.intro (by first|omega|(simp;done)|(simp;omega)) ?_|simp (maxSteps:=9^9) -implicitDefEqProofs only [go_sem,f2,List.map_cons,List.map_nil]))
  try rfl
 rw [if_neg c2] at ho ⊢
 by_cases c3:o=3
 ·rw [if_pos c3] at ho ⊢
  refine spec_of Tryz.func217 rfl rfl rfl (by kernel_rfl) rfl fun K=>?_
  (repeat' (first|with_reducible (first|refine zA fun Kn hK=>?_|refine zU ?_|refine Nx.go ?_|go_step)|refine ⟨_,ho,?_⟩|refine ⟨_,h3,?_⟩|with_reducible (first|refine zI ?_|refine zV ?_)|simp (maxSteps:=9^9) (disch:=omega) only [wq]|with_reducible refine zM (fun hb=>?_) (fun hb=>?_)<;>try simp only [hb]|with_reducible refine And.intro (by first|omega|(simp;done)|(simp;omega)) ?_|simp (maxSteps:=9^9) -implicitDefEqProofs only [go_sem,f3,List.map_cons,List.map_nil]))
  try rfl
 rw [if_neg c3] at ho ⊢
 by_cases c4:o=4
 ·rw [if_pos c4] at ho ⊢
  refine spec_of Tryz.func217 rfl rfl rfl (by kernel_rfl) rfl fun K=>?_
  (repeat' (first|with_reducible (first|refine zA fun Kn hK=>?_|refine zU ?_|refine Nx.go ?_|go_step)|refine ⟨_,ho,?_⟩|refine ⟨_,h4,?_⟩|with_reducible (first|refine zI ?_|refine zV ?_)|simp (maxSteps:=9^9) (disch:=omega) only [wq]|with_reducible refine zM (fun hb=>?_) (fun hb=>?_)<;>try simp only [hb]|with_reducible refine And.intro (by first|omega|(simp;done)|(simp;omega)) ?_|simp (maxSteps:=9^9) -implicitDefEqProofs only [go_sem,f4]))
  try rfl
 rw [if_neg c4] at ho ⊢
 by_cases c5:o=5
 ·rw [if_pos c5] at ho ⊢
  refine spec_of Tryz.func217 rfl rfl rfl (by kernel_rfl) rfl fun K=>?_
  (repeat' (first|with_reducible (first|refine zA fun Kn hK=>?_|refine zU ?_|refine Nx.go ?_|go_step)|refine ⟨_,ho,?_⟩|refine ⟨_,h5,?_⟩|with_reducible (first|refine zI ?_|refine zV ?_)|simp (maxSteps:=9^9) (disch:=omega) only [wq]|with_reducible refine zM (fun hb=>?_) (fun hb=>?_)<;>try simp only [hb]|with_reducible refine And.intro (by first|omega|(simp;done)|(simp;omega)) ?_|simp (maxSteps:=9^9) -implicitDefEqProofs only [go_sem,f3,List.map_cons,List.map_nil]))
  try rfl
 rw [if_neg c5] at ho ⊢
 refine spec_of Tryz.func217 rfl rfl rfl (by kernel_rfl) rfl fun K=>?_
 (repeat' (first|with_reducible (first|refine zA fun Kn hK=>?_|refine zU ?_|refine Nx.go ?_|go_step)|refine ⟨_,ho,?_⟩|with_reducible (first|refine zI ?_|refine zV ?_)|simp (maxSteps:=9^9) (disch:=omega) only [wq]|with_reducible refine zM (fun hb=>?_) (fun hb=>?_)<;>try simp only [hb]|with_reducible refine And.intro (by first|omega|(simp;done)|(simp;omega)) ?_|simp (maxSteps:=9^9) -implicitDefEqProofs only [go_sem,true_and]))
 try rfl
end
theorem fcmp {x:Nat} (h:fOk x):(FloatKind.f64.format.order x x==some Ordering.eq)=true∧(FloatKind.f64.format.order x x==some Ordering.lt)=false∧(FloatKind.f64.format.order x x==some Ordering.gt)=false:=by
 have e:FloatKind.f64.format.order x x=some .eq:=order_self h
 rw [e]
 exact ⟨rfl,rfl,rfl⟩
theorem fcmp_nan:(FloatKind.f64.format.order 9221120237041090561 9221120237041090561==some Ordering.eq)=false:=by decide +kernel
theorem cut_nil (u:List UInt8) (h:(cutD u).2.2=false):(cutD u).2.1=[]:=by
 induction u with
 | nil=>rfl
 | cons c l ih =>
  rw [cutD] at h ⊢
  split
  ·rename_i hc
   rw [if_pos hc] at h
   cases h
  ·rename_i hc
   rw [if_neg hc] at h
   exact ih h
section
variable {G:Nat→Option (List D)}
theorem digits_ok {k0 n0:Nat} {l:List UInt8} (hn:n0<10^k0) (hk:k0+l.length≤16): ∃ n:Int,(allDg l=true→n=numFrom n0 l)∧Spec Tryz.prog G 210 [.c (.v (.int .i64 (n0:Int))),.c (.sl l.length (l.map bD))] (.many [.c (.v (.int .i64 n)),.c (.v (.bool (allDg l&&decide (l≠[]))))]):=by
 have h:=ndig_m (G:=G) n0 k0 l hn hk
 have e:decide (0<l.length)=decide (l≠[]):=by
  rw [decide_eq_decide]
  simp [List.length_pos_iff]
 by_cases hd:allDg l=true
 ·rw [if_pos hd,e] at h
  rw [hd]
  exact ⟨_,fun _=>rfl,h⟩
 ·rw [if_neg hd] at h
  rw [Bool.not_eq_true] at hd
  rw [hd]
  exact ⟨0,(fun h=>by cases h),h⟩
theorem numinf_m {b:List UInt8} {z:Int} {r:Nat} (hz:z=1∧r=9218868437227405312∧b=wInf∨z= -1∧r=18442240474082181120∧b=45::wInf):Spec Tryz.prog G 194 [.c (.sl b.length (b.map bD))] (.many [.c (fD r),.c (.v (.bool true))]):=by
 have h:=inf_m (G:=G) z r (by rcases hz with ⟨h1,h2,_⟩|⟨h1,h2,_⟩<;>simp [h1,h2])
 unfold fD at *
 rcases hz with ⟨rfl,rfl,hb⟩|⟨rfl,rfl,hb⟩
 ·have t1:(b==[105,110,102])=true:=by rw [hb];rfl
  clear hb
  refine spec_of Tryz.func194 rfl rfl rfl (by kernel_rfl) rfl fun K=>?_
  (repeat' (first|with_reducible (first|refine zA fun Kn hK=>?_|refine zU ?_|refine Nx.go ?_|go_step)|refine ⟨_,h,?_⟩|with_reducible (first|refine zI ?_|refine zV ?_)|simp (maxSteps:=9^9) (disch:=omega) only [wq]|with_reducible refine zM (fun hb=>?_) (fun hb=>?_)<;>try simp only [hb]|with_reducible refine And.intro (by first|omega|(simp;done)|(simp;omega)) ?_|simp (maxSteps:=9^9) -implicitDefEqProofs only [go_sem,t1]))
 ·have t1:(b==[105,110,102])=false:=by rw [hb];rfl
  have t2:(b==[45,105,110,102])=true:=by rw [hb];rfl
  clear hb
  refine spec_of Tryz.func194 rfl rfl rfl (by kernel_rfl) rfl fun K=>?_
  (repeat' (first|with_reducible (first|refine zA fun Kn hK=>?_|refine zU ?_|refine Nx.go ?_|go_step)|refine ⟨_,h,?_⟩|with_reducible (first|refine zI ?_|refine zV ?_)|simp (maxSteps:=9^9) (disch:=omega) only [wq]|with_reducible refine zM (fun hb=>?_) (fun hb=>?_)<;>try simp only [hb]|with_reducible refine And.intro (by first|omega|(simp;done)|(simp;omega)) ?_|simp (maxSteps:=9^9) -implicitDefEqProofs only [go_sem,t1,t2]))
theorem numnan_m {b:List UInt8} (hb:b=wNan):Spec Tryz.prog G 194 [.c (.sl b.length (b.map bD))] (.many [.c (fD 9221120237041090561),.c (.v (.bool true))]):=by
 have h:=nan_m (G:=G)
 unfold fD at *
 have t1:(b==[105,110,102])=false:=by rw [hb];rfl
 have t2:(b==[45,105,110,102])=false:=by rw [hb];rfl
 have t3:(b==[110,97,110])=true:=by rw [hb];rfl
 clear hb
 refine spec_of Tryz.func194 rfl rfl rfl (by kernel_rfl) rfl fun K=>?_
 (repeat' (first|with_reducible (first|refine zA fun Kn hK=>?_|refine zU ?_|refine Nx.go ?_|go_step)|refine ⟨_,h,?_⟩|with_reducible (first|refine zI ?_|refine zV ?_)|simp (maxSteps:=9^9) (disch:=omega) only [wq]|with_reducible refine zM (fun hb=>?_) (fun hb=>?_)<;>try simp only [hb]|with_reducible refine And.intro (by first|omega|(simp;done)|(simp;omega)) ?_|simp (maxSteps:=9^9) -implicitDefEqProofs only [go_sem,t1,t2,t3]))
theorem numget_m (b:List UInt8) (hn:b.length≤1000000000) (hnan:b≠wNan): ∃ r,fOk r∧Spec Tryz.prog G 194 [.c (.sl b.length (b.map bD))] (.many [.c (fD r),.c (.v (.bool (numB b)))]):=by
 by_cases h1:b=wInf
 ·refine ⟨9218868437227405312,by unfold fOk;decide +kernel,?_⟩
  have e:numB b=true:=by simp [numB,h1]
  rw [e]
  exact numinf_m (.inl ⟨rfl,rfl,h1⟩)
 by_cases h2:b=45::wInf
 ·refine ⟨18442240474082181120,by unfold fOk;decide +kernel,?_⟩
  have e:numB b=true:=by simp [numB,h2]
  rw [e]
  exact numinf_m (.inr ⟨rfl,rfl,h2⟩)
 have e:numB b=numBody (unsig b):=by simp [numB,h1,h2]
 rw [e]
 have hu:(unsig b).length≤b.length:=by
  unfold unsig
  cases b with
  | nil=>simp
  | cons c l=>dsimp only;split<;>simp
 have hc:=cut_len (unsig b)
 have H:GetH G b (unsig b) (cutD (unsig b)).1 (cutD (unsig b)).2.1 (cutD (unsig b)).2.2 (decide (b.head?=some 45)):=
  ⟨by simpa using h1,by simpa using h2,by simpa using hnan,pre1_m b hn,cut_m _ (by omega),by omega⟩
 have hz:=cut_nil (unsig b)
 unfold numBody
 generalize (cutD (unsig b)).1=w at *
 generalize (cutD (unsig b)).2.1=p at *
 generalize (cutD (unsig b)).2.2=s at *
 by_cases hl:w.length+p.length≤15
 ·rw [decide_eq_true hl,Bool.true_and]
  have hl':decide ((w.length:Int)+(p.length:Int)>15)=false:=decide_eq_false (by omega)
  obtain ⟨n,hn1,g1⟩:=digits_ok (G:=G) (k0:=0) (n0:=0) (l:=w) (by decide) (by omega)
  by_cases hq:(allDg w&&decide (w≠[]))=true
  ·have hw:allDg w=true:=by
    rw [Bool.and_eq_true] at hq
    exact hq.1
   have hnn:=hn1 hw
   have hlt:=numFrom_lt w 0 0 (fun c hc=>List.all_eq_true.1 hw c hc) (by decide)
   rw [Nat.zero_add] at hlt
   obtain ⟨m,hm1,g2⟩:=digits_ok (G:=G) (k0:=w.length) (n0:=numFrom 0 w) (l:=p) hlt (by omega)
   rw [← hnn] at g2
   rw [hq] at g1 ⊢
   rw [Bool.true_and]
   by_cases hs:(!s||(allDg p&&decide (p≠[])))=true
   ·rw [hs]
    obtain ⟨N,J,hr,hne⟩:=tenP_num p.length (by omega)
    cases s with
    | false =>
     have hp:=hz rfl
     obtain ⟨r,hdv,hrk⟩:=div_ok (int_ok n) hr hne
     have hb:=Ieee.Format.div_lt _ hdv
     exact ⟨_,by split;exact sg_ok hrk;exact hrk,get_good (m:=n) H hl' (by omega) g1 (fun h=>by cases h) (fun _=>⟨hp,rfl⟩) hdv hb⟩
    | true =>
     have hs2:(allDg p&&decide (p≠[]))=true:=by simpa using hs
     rw [hs2] at g2
     obtain ⟨r,hdv,hrk⟩:=div_ok (int_ok m) hr hne
     have hb:=Ieee.Format.div_lt _ hdv
     exact ⟨_,by split;exact sg_ok hrk;exact hrk,get_good (m:=m) H hl' (by omega) g1 (fun _=>g2) (fun h=>by cases h) hdv hb⟩
   ·rw [Bool.not_eq_true] at hs
    rw [hs]
    refine ⟨0,by unfold fOk;decide +kernel,get_bad H hl' g1 (fun _ _=>g2) ?_⟩
    rw [hs]
    rfl
  ·rw [Bool.not_eq_true] at hq
   rw [hq] at g1 ⊢
   refine ⟨0,by unfold fOk;decide +kernel,get_bad (m:=0) (q2:=false) H hl' g1 (fun _ h=>by cases h) rfl⟩
 ·rw [decide_eq_false hl]
  exact ⟨0,by unfold fOk;decide +kernel,get_long H (decide_eq_true (by omega))⟩
theorem nanF_m {x:Nat} (h:fOk x):Spec Tryz.prog G 221 [.c (fD x)] (.one (.c (.v (.bool false)))):=by
 have h1:=(fcmp h).1
 unfold fD
 refine spec_of Tryz.func221 rfl rfl rfl (by kernel_rfl) rfl fun K=>?_
 (repeat' (first|with_reducible (first|refine zA fun Kn hK=>?_|refine zU ?_|refine Nx.go ?_|go_step)|(refine ⟨.bool false,⟨rfl,fun w=>rfl⟩,?_⟩)|with_reducible (first|refine zI ?_|refine zV ?_)|simp (maxSteps:=9^9) (disch:=omega) only [wq]|with_reducible refine zM (fun hb=>?_) (fun hb=>?_)<;>try simp only [hb]|with_reducible refine And.intro (by first|omega|(simp;done)|(simp;omega)) ?_|simp (maxSteps:=9^9) -implicitDefEqProofs only [go_sem,h1]))
theorem cmpF_m {x:Nat} (h:fOk x):Spec Tryz.prog G 205 [.c (fD x),.c (fD x)] (.one (iD 0)):=by
 have h0:=nanF_m (G:=G) h
 obtain ⟨h1,h2,h3⟩:=fcmp h
 unfold fD iD at *
 refine spec_of Tryz.func205 rfl rfl rfl (by kernel_rfl) rfl fun K=>?_
 (repeat' (first|with_reducible (first|refine zA fun Kn hK=>?_|refine zU ?_|refine Nx.go ?_|go_step)|refine ⟨_,h0,?_⟩|(refine ⟨.bool false,⟨rfl,fun w=>rfl⟩,?_⟩)|with_reducible (first|refine zI ?_|refine zV ?_)|simp (maxSteps:=9^9) (disch:=omega) only [wq]|with_reducible refine zM (fun hb=>?_) (fun hb=>?_)<;>try simp only [hb]|with_reducible refine And.intro (by first|omega|(simp;done)|(simp;omega)) ?_|simp (maxSteps:=9^9) -implicitDefEqProofs only [go_sem,h1,h2,h3]))
 try rfl
theorem byF_m (b:List UInt8) (hn:b.length≤1000000000):Spec Tryz.prog G 204 [.c (.sl b.length (b.map bD)),.c (.sl b.length (b.map bD)),.c (.ptr [fnV 194] 0)] (.many [iD 0,.c (.v (.bool (numB b)))]):=by
 have hf:funcOk Tryz.prog 194=true:=by kernel_rfl
 unfold fnV
 by_cases hb:b=wNan
 ·have h:=numnan_m (G:=G) hb
  have e:numB b=false:=by rw [hb];decide
  rw [e]
  have h1:=fcmp_nan
  generalize b.map bD=L at *
  generalize b.length=n at *
  unfold iD fD at *
  refine spec_of Tryz.func204 rfl rfl rfl (by kernel_rfl) rfl fun K=>?_
  (repeat' (first|with_reducible (first|refine zA fun Kn hK=>?_|refine zU ?_|refine Nx.go ?_|go_step)|refine ⟨_,h,?_⟩|(refine ⟨.bool true,⟨rfl,fun w=>rfl⟩,?_⟩)|with_reducible (first|refine zI ?_|refine zV ?_)|simp (maxSteps:=9^9) (disch:=omega) only [wq]|with_reducible refine zM (fun hb=>?_) (fun hb=>?_)<;>try simp only [hb]|with_reducible refine And.intro (by first|omega|(simp;done)|(simp;omega)) ?_|simp (maxSteps:=9^9) -implicitDefEqProofs only [go_sem,hf,h1]))
  try rfl
 ·obtain ⟨r,hr,h⟩:=numget_m (G:=G) b hn hb
  generalize numB b=q at *
  generalize b.map bD=L at *
  generalize b.length=n at *
  have hc:=cmpF_m (G:=G) hr
  have h1:=(fcmp hr).1
  unfold iD fD at *
  cases q
  all_goals
   refine spec_of Tryz.func204 rfl rfl rfl (by kernel_rfl) rfl fun K=>?_
   (repeat' (first|with_reducible (first|refine zA fun Kn hK=>?_|refine zU ?_|refine Nx.go ?_|go_step)|refine ⟨_,h,?_⟩|refine ⟨_,hc,?_⟩|(refine ⟨.bool false,⟨rfl,fun w=>rfl⟩,?_⟩)|with_reducible (first|refine zI ?_|refine zV ?_)|simp (maxSteps:=9^9) (disch:=omega) only [wq]|with_reducible refine zM (fun hb=>?_) (fun hb=>?_)<;>try simp only [hb]|with_reducible refine And.intro (by first|omega|(simp;done)|(simp;omega)) ?_|simp (maxSteps:=9^9) -implicitDefEqProofs only [go_sem,hf,h1]))
   try rfl
end
section
variable {G:Nat→Option (List D)}
end
section
variable {G:Nat→Option (List D)}
end
section
variable {G:Nat→Option (List D)}
end
section
variable {G:Nat→Option (List D)}
end
section
variable {G:Nat→Option (List D)}
end
end Go.Proofs.YtfammdfpgccnfaaGreatDoor
namespace Go.Proofs.YtfammdfpgccnfaaGreatDoor
open Go.RowKit Ieee
section
variable {P:Program}
end
section
variable {G:Nat→Option (List D)}
end
end Go.Proofs.YtfammdfpgccnfaaGreatDoor
namespace Go.Proofs.YtfammdfpgccnfaaGreatDoor
open Go.RowKit
section
variable {G:Nat→Option (List D)} {numB:List UInt8→Bool}
theorem is_w (o:UInt8) (n:Nat) (L:List D) (q:Bool) (h:Spec Tryz.prog G 217 [.c (bD o),.c (.sl n L),.c (.sl n L)] (.many [iD 0,.c (.v (.bool q))])):Spec Tryz.prog G 197 [.c (bD o),.c (.sl n L)] (.one (.c (.v (.bool q)))):=by
 unfold iD bD at *
 refine spec_of Tryz.func197 rfl rfl rfl (by kernel_rfl) rfl fun K=>?_
 (repeat' (first|with_reducible (first|refine zA fun Kn hK=>?_|refine zU ?_|refine Nx.go ?_|go_step)|refine ⟨_,h,?_⟩|with_reducible (first|refine zI ?_|refine zV ?_)|simp (maxSteps:=9^9) (disch:=omega) only [wq]|with_reducible refine zM (fun hb=>?_) (fun hb=>?_)<;>try simp only [hb]|with_reducible refine And.intro (by first|omega|(simp;done)|(simp;omega)) ?_|simp (maxSteps:=9^9) -implicitDefEqProofs only [go_sem,true_and]))
def bdD (b:Bd):List D:=[.v (.bool b.is),.v (.bool b.opn),.sl b.txt.length (b.txt.map bD)]
theorem end_w (o:UInt8) (b:Bd) (q:Bool) (hn:b.txt.length≤1000000000) (h:b.is=true→Spec Tryz.prog G 197 [.c (bD o),.c (.sl b.txt.length (b.txt.map bD))] (.one (.c (.v (.bool q))))):Spec Tryz.prog G 186 [.c (bD o),.g (bdD b)] (.one (.c (.v (.bool (if b.is then q else !b.opn&&decide (b.txt.length=0)))))):=by
 obtain ⟨i,p,t⟩:=b
 have e:((t.length:Int)==0)=decide (t.length=0):=nbeq t.length 0
 unfold bdD bD at *
 dsimp only at *
 generalize t.map _=L at *
 generalize t.length=n at *
 cases i with
 | false =>
  cases p<;>(generalize decide (n=0)=z at *)
  ·refine spec_of Tryz.func186 rfl rfl rfl (by kernel_rfl) rfl fun K=>?_
   (repeat' (first|with_reducible (first|refine zA fun Kn hK=>?_|refine zU ?_|refine Nx.go ?_|go_step)|with_reducible (first|refine zI ?_|refine zV ?_)|simp (maxSteps:=9^9) (disch:=omega) only [wq]|with_reducible refine zM (fun hb=>?_) (fun hb=>?_)<;>try simp only [hb]|with_reducible refine And.intro (by first|omega|(simp;done)|(simp;omega)) ?_|simp (maxSteps:=9^9) -implicitDefEqProofs only [go_sem,e]))
   try rfl
  ·refine spec_of Tryz.func186 rfl rfl rfl (by kernel_rfl) rfl fun K=>?_
   (repeat' (first|with_reducible (first|refine zA fun Kn hK=>?_|refine zU ?_|refine Nx.go ?_|go_step)|with_reducible (first|refine zI ?_|refine zV ?_)|simp (maxSteps:=9^9) (disch:=omega) only [wq]|with_reducible refine zM (fun hb=>?_) (fun hb=>?_)<;>try simp only [hb]|with_reducible refine And.intro (by first|omega|(simp;done)|(simp;omega)) ?_|simp (maxSteps:=9^9) -implicitDefEqProofs only [go_sem,e]))
   try rfl
 | true =>
  have h:=h rfl
  refine spec_of Tryz.func186 rfl rfl rfl (by kernel_rfl) rfl fun K=>?_
  (repeat' (first|with_reducible (first|refine zA fun Kn hK=>?_|refine zU ?_|refine Nx.go ?_|go_step)|refine ⟨_,h,?_⟩|with_reducible (first|refine zI ?_|refine zV ?_)|simp (maxSteps:=9^9) (disch:=omega) only [wq]|with_reducible refine zM (fun hb=>?_) (fun hb=>?_)<;>try simp only [hb]|with_reducible refine And.intro (by first|omega|(simp;done)|(simp;omega)) ?_|simp (maxSteps:=9^9) -implicitDefEqProofs only [go_sem,e]))
  try rfl
end
section
variable {G:Nat→Option (List D)}
theorem mayR_w (o:UInt8) (lo hi:Bd) (p q:Bool) (h1:Spec Tryz.prog G 186 [.c (bD o),.g (bdD lo)] (.one (.c (.v (.bool p))))) (h2:Spec Tryz.prog G 186 [.c (bD o),.g (bdD hi)] (.one (.c (.v (.bool q))))) (F:D) (hF:ofD o=F) (hk:(∃ f,F=fnV f)∨ ∃ f cs,F= .fn f cs) :
  Spec Tryz.prog G 179 [.g (bD o::(bdD lo++bdD hi))] (.one (.c (.v (.bool (p&&q))))):=by
 have ho:=of_m (G:=G) o
 rw [hF] at ho
 unfold bdD bD fnV at *
 rcases hk with ⟨f,rfl⟩|⟨f,cs,rfl⟩
 ·refine spec_of Tryz.func179 rfl rfl rfl (by kernel_rfl) rfl fun K=>?_
  (repeat' (first|with_reducible (first|refine zA fun Kn hK=>?_|refine zU ?_|refine Nx.go ?_|go_step)|refine ⟨_,ho,?_⟩|refine ⟨_,h1,?_⟩|refine ⟨_,h2,?_⟩|with_reducible (first|refine zI ?_|refine zV ?_)|simp (maxSteps:=9^9) (disch:=omega) only [wq]|with_reducible refine zM (fun hb=>?_) (fun hb=>?_)<;>try simp only [hb]|with_reducible refine And.intro (by first|omega|(simp;done)|(simp;omega)) ?_|simp (maxSteps:=9^9) -implicitDefEqProofs only [go_sem,Bool.not_false]))
  all_goals simp_all
 ·refine spec_of Tryz.func179 rfl rfl rfl (by kernel_rfl) rfl fun K=>?_
  (repeat' (first|with_reducible (first|refine zA fun Kn hK=>?_|refine zU ?_|refine Nx.go ?_|go_step)|refine ⟨_,ho,?_⟩|refine ⟨_,h1,?_⟩|refine ⟨_,h2,?_⟩|with_reducible (first|refine zI ?_|refine zV ?_)|simp (maxSteps:=9^9) (disch:=omega) only [wq]|with_reducible refine zM (fun hb=>?_) (fun hb=>?_)<;>try simp only [hb]|with_reducible refine And.intro (by first|omega|(simp;done)|(simp;omega)) ?_|simp (maxSteps:=9^9) -implicitDefEqProofs only [go_sem,Bool.not_false]))
  all_goals simp_all
theorem mayR_n (o:UInt8) (lo hi:Bd) (hF:ofD o= .v .nilFunc):Spec Tryz.prog G 179 [.g (bD o::(bdD lo++bdD hi))] (.one (.c (.v (.bool false)))):=by
 have ho:=of_m (G:=G) o
 rw [hF] at ho
 unfold bdD bD at *
 refine spec_of Tryz.func179 rfl rfl rfl (by kernel_rfl) rfl fun K=>?_
 (repeat' (first|with_reducible (first|refine zA fun Kn hK=>?_|refine zU ?_|refine Nx.go ?_|go_step)|refine ⟨_,ho,?_⟩|with_reducible (first|refine zI ?_|refine zV ?_)|simp (maxSteps:=9^9) (disch:=omega) only [wq]|with_reducible refine zM (fun hb=>?_) (fun hb=>?_)<;>try simp only [hb]|with_reducible refine And.intro (by first|omega|(simp;done)|(simp;omega)) ?_|simp (maxSteps:=9^9) -implicitDefEqProofs only [go_sem,Bool.not_true]))
 all_goals try rfl
end
def isV (o:UInt8) (b:List UInt8):Bool:=isVP numB o b
section
variable {G:Nat→Option (List D)}
theorem is_m (o:UInt8) (b:List UInt8) (hn:b.length≤1000000000):Spec Tryz.prog G 197 [.c (bD o),.c (.sl b.length (b.map bD))] (.one (.c (.v (.bool (isV o b))))):=
 is_w o _ _ _ (compare_m (fun b hn=>byF_m b hn) o b hn)
theorem mayE_eq (o:UInt8) (b:Bd):(if b.is then isV o b.txt else !b.opn&&decide (b.txt.length=0))=mayE isV o b:=by
 unfold mayE
 congr 2
 cases b.txt<;>simp [emptyL]
theorem may11_m (o:UInt8) (lo hi:Bd) (h1:lo.txt.length≤1000000000) (h2:hi.txt.length≤1000000000):Spec Tryz.prog G 179 [.g (bD o::(bdD lo++bdD hi))] (.one (.c (.v (.bool (mayR isV o lo hi))))):=by
 have e1:=end_w (G:=G) o lo (isV o lo.txt) h1 fun _=>is_m o lo.txt h1
 have e2:=end_w (G:=G) o hi (isV o hi.txt) h2 fun _=>is_m o hi.txt h2
 rw [mayE_eq] at e1 e2
 unfold mayR
 by_cases c:1≤o.toNat∧o.toNat≤5
 ·rw [decide_eq_true c,Bool.true_and]
  refine mayR_w o lo hi _ _ e1 e2 _ rfl ?_
  have key: ∀ k:UInt8,o≠k→o.toNat≠k.toNat:=fun k hk e=>hk (UInt8.toNat_inj.1 e)
  unfold ofD
  split
  ·exact .inl ⟨_,rfl⟩
  split
  ·exact .inr ⟨_,_,rfl⟩
  split
  ·exact .inr ⟨_,_,rfl⟩
  split
  ·exact .inl ⟨_,rfl⟩
  split
  ·exact .inr ⟨_,_,rfl⟩
  rename_i k1 k2 k3 k4 k5
  have:=key 1 k1
  have:=key 2 k2
  have:=key 3 k3
  have:=key 4 k4
  have:=key 5 k5
  simp at *
  omega
 ·rw [decide_eq_false c,Bool.false_and]
  refine mayR_n o lo hi ?_
  unfold ofD
  rw [if_neg (fun e=>c (by rw [e];decide)),if_neg (fun e=>c (by rw [e];decide)),if_neg (fun e=>c (by rw [e];decide)),if_neg (fun e=>c (by rw [e];decide)),if_neg (fun e=>c (by rw [e];decide))]
end
def tagC (t:Tg):List D:=[bD t.kind,bytesD t.data,.sl t.kids.length (t.kids.attach.map fun x=>tagC x.1).flatten,bD t.ord,.v (.bool t.lo.is),.v (.bool t.lo.opn),bytesD t.lo.txt,.v (.bool t.hi.is),.v (.bool t.hi.opn),bytesD t.hi.txt]
termination_by SizeOf.sizeOf t
decreasing_by exact Tg.kid_lt x.2
theorem tagC_eq (t:Tg):tagC t=[bD t.kind,bytesD t.data,.sl t.kids.length (t.kids.flatMap tagC),bD t.ord,.v (.bool t.lo.is),.v (.bool t.lo.opn),bytesD t.lo.txt,.v (.bool t.hi.is),.v (.bool t.hi.opn),bytesD t.hi.txt]:=by
 rw [tagC]
 simp [List.flatMap]
@[go_sem] def tagK (t:Tg):List C:=[.d (bD t.kind),.d (bytesD t.data),.d (.sl t.kids.length (t.kids.flatMap tagC)),.d (bD t.ord),.d (.v (.bool t.lo.is)),.d (.v (.bool t.lo.opn)),.d (bytesD t.lo.txt),.d (.v (.bool t.hi.is)),.d (.v (.bool t.hi.opn)),.d (bytesD t.hi.txt)]
@[go_sem] theorem tagC_len (t:Tg):(tagC t).length=10:=by rw [tagC_eq];rfl
@[go_sem] theorem tagC_take (t:Tg):((tagC t).map C.d).take 10=(tagC t).map C.d:=List.take_of_length_le (by rw [List.length_map,tagC_len];exact Nat.le_refl _)
@[go_sem] theorem tagC_flen (l:List Tg):(l.flatMap tagC).length=l.length*10:=flat_len tagC_len l
@[go_sem] def rgD (o:UInt8) (lo hi:Bd):List D:=[bD o,.v (.bool lo.is),.v (.bool lo.opn),bytesD lo.txt,.v (.bool hi.is),.v (.bool hi.opn),bytesD hi.txt]
def bdSame (x y:Bd):Bool:=x.is==y.is&&x.opn==y.opn&&x.txt==y.txt
def rgSame (o:UInt8) (lo hi:Bd) (o':UInt8) (lo' hi':Bd):Bool:=o==o'&&bdSame lo lo'&&bdSame hi hi'
theorem bdSame_iff {x y:Bd}:bdSame x y=true↔x=y:=by
 cases x;cases y
 simp [bdSame,and_assoc]
def rgGreat (lo hi:Bd):Bool:=decide (200<(lo.txt.length:Int))||decide (200<(hi.txt.length:Int))
theorem Tg.nodes_wt: ∀ t:Tg,t.nodes≤t.wt:=Tg.ind fun t ih=>by
 rw [Tg.nodes_eq,Tg.wt_eq]
 have: ∀ l:List Tg,(∀ x∈l,x.nodes≤x.wt)→(l.map Tg.nodes).sum≤(l.map Tg.wt).sum:=by
  intro l
  induction l with
  | nil=>simp
  | cons x l ih =>
   intro h
   have h0:=h x (by simp)
   have:=ih fun y hy=>h y (by simp [hy])
   simp only [List.map_cons,List.sum_cons]
   omega
 have:=this t.kids ih
 omega
section
variable {G:Nat→Option (List D)}
theorem u8_beq (x y:UInt8):(((x.toNat:Int))==(y.toNat:Int))=(x==y):=by
 rw [Bool.eq_iff_iff]
 simp only [beq_iff_eq,← UInt8.toNat_inj]
 omega
theorem rggreat_m (o:UInt8) (lo hi:Bd):Spec Tryz.prog G 75 [.g (rgD o lo hi)] (.one (.c (.v (.bool (rgGreat lo hi))))):=by
 unfold rgGreat
 unfold rgD bD
 cases d1:decide (200<(lo.txt.length:Int))<;>cases d2:decide (200<(hi.txt.length:Int))
 all_goals
  refine spec_of Tryz.func75 rfl rfl rfl (by kernel_rfl) rfl fun K=>?_
  (repeat' (first|with_reducible (first|refine zA fun Kn hK=>?_|refine zU ?_|refine Nx.go ?_|go_step)|with_reducible (first|refine zI ?_|refine zV ?_)|simp (maxSteps:=9^9) (disch:=omega) only [wq]|with_reducible refine zM (fun hb=>?_) (fun hb=>?_)<;>try simp only [hb]|with_reducible refine And.intro (by first|omega|(simp;done)|(simp;omega)) ?_|simp (maxSteps:=9^9) -implicitDefEqProofs only [go_sem,gt_iff_lt,d1,d2]))
  all_goals try rfl
theorem count_m: ∀ t:Tg,∀ cs:List D,tagC t=cs→t.wt≤1000000000→Spec Tryz.prog G 76 [.g cs] (.one (.c (.v (.int .i64 t.nodes)))):=Tg.ind fun t ih cs hcs hw=>by
 subst hcs
 refine spec_of Tryz.func76 rfl rfl rfl (by kernel_rfl) rfl fun K=>?_
 rw [tagC_eq]
 (repeat' (first|with_reducible (first|refine zA fun Kn hK=>?_|refine zU ?_|refine Nx.go ?_|go_step)|with_reducible (first|refine zI ?_|refine zV ?_)|simp (maxSteps:=9^9) (disch:=omega) only [wq]|with_reducible refine zM (fun hb=>?_) (fun hb=>?_)<;>try simp only [hb]|with_reducible refine And.intro (by first|omega|(simp;done)|(simp;omega)) ?_|simp (maxSteps:=9^9) -implicitDefEqProofs only [go_sem,true_and]))
 refine sound_loopR (fun x:{k:Nat // k≤t.kids.length}=>⟨[(1,vP 1 0),(3,vI (1+((t.kids.take x.1).map Tg.nodes).sum:Nat)),(7,vI t.kids.length),(8,vI x.1)],[(1,some ⟨35,tagK t,true,false⟩)]⟩) (fun x=>t.kids.length-x.1) ⟨0,by omega⟩ [] ?_ (fun ⟨k,hk⟩=>?_)
 ·simp (maxSteps:=9^9) -implicitDefEqProofs only [go_sem]
  simp
 by_cases hlt:k<t.kids.length
 ·obtain ⟨x,hx⟩: ∃ x,t.kids[k]?=some x:=⟨_,List.getElem?_eq_getElem hlt⟩
  have hb:decide ((k:Int)<(t.kids.length:Int))=true:=by simpa using hlt
  have h1:=sum_at Tg.nodes hx
  have h2:=sum_upto (l:=t.kids) (k:=k+1) Tg.nodes
  have h3:=t.nodes_wt
  have h4:=t.nodes_eq
  have h5:=t.wt_kids
  (repeat' (first|with_reducible (first|refine zA fun Kn hK=>?_|refine zU ?_|refine Nx.go ?_|go_step)|(refine ⟨_,ih x (List.mem_of_getElem? hx) _ rfl (by have:=Tg.wt_kid (List.mem_of_getElem? hx);omega),?_⟩)|with_reducible (first|refine zI ?_|refine zV ?_)|simp (maxSteps:=9^9) (disch:=omega) only [wq]|with_reducible refine zM (fun hb=>?_) (fun hb=>?_)<;>try simp only [hb]|with_reducible refine And.intro (by first|omega|(simp;done)|(simp;omega)) ?_|simp (maxSteps:=9^9) -implicitDefEqProofs only [go_sem,hb,flat_at tagC_len hx]))
  refine ⟨[],⟨k+1,hlt⟩,?_⟩
  (iterate 2 ((try simp (maxSteps:=9^9) -implicitDefEqProofs only [go_sem,hb]);(try simp (maxSteps:=9^9) (disch:=omega) only [wq])))
  (simp only [ijq,true_and,and_true];first|done|omega|(split<;>omega)|(simp;done)|(simp;omega))
 ·have hb:decide ((k:Int)<(t.kids.length:Int))=false:=by simpa using hlt
  obtain rfl:k=t.kids.length:=by omega
  (repeat' (first|with_reducible (first|refine zA fun Kn hK=>?_|refine zU ?_|refine Nx.go ?_|go_step)|with_reducible (first|refine zI ?_|refine zV ?_)|simp (maxSteps:=9^9) (disch:=omega) only [wq]|with_reducible refine zM (fun hb=>?_) (fun hb=>?_)<;>try simp only [hb]|with_reducible refine And.intro (by first|omega|(simp;done)|(simp;omega)) ?_|simp (maxSteps:=9^9) -implicitDefEqProofs only [go_sem,hb,List.take_length]))
  rw [t.nodes_eq]
end
def Tg.great (t:Tg) (k:Nat):Bool:=decide ((60:Int)<k)||decide ((700:Int)<t.kids.length)||decide ((5000:Int)<t.data.length)||rgGreat t.lo t.hi||(t.kids.attach.any fun x=>Tg.great x.1 (k+1))||(((k:Int)==0)&&decide ((1000:Int)<t.nodes))
termination_by SizeOf.sizeOf t
decreasing_by exact Tg.kid_lt x.2
theorem Tg.great_eq (t:Tg) (k:Nat):t.great k=(decide ((60:Int)<k)||decide ((700:Int)<t.kids.length)||decide ((5000:Int)<t.data.length)||rgGreat t.lo t.hi||t.kids.any (fun x=>Tg.great x (k+1))||(((k:Int)==0)&&decide ((1000:Int)<t.nodes))):=by
 rw [Tg.great]
 congr 2
 simp
section
variable {G:Nat→Option (List D)}
theorem great12_m: ∀ t:Tg,∀ (cs:List D) (k:Nat),tagC t=cs→t.wt≤1000000000→k≤61→Spec Tryz.prog G 36 [.g cs,.c (.v (.int .i64 k))] (.one (.c (.v (.bool (t.great k))))):=Tg.ind fun t ih cs d hcs hw hd=>by
 subst hcs
 have hg:=rggreat_m (G:=G) t.ord t.lo t.hi
 have hn:=count_m (G:=G) t _ rfl hw
 refine spec_of Tryz.func36 rfl rfl rfl (by kernel_rfl) rfl fun K=>?_
 rw [tagC_eq] at hn ⊢
 unfold rgD bD bytesD at *
 refine zA fun Kn hK=>?_
 refine zU ?_
 (iterate 2 ((try simp (maxSteps:=9^9) -implicitDefEqProofs only [go_sem,true_and]);(try simp (maxSteps:=9^9) (disch:=omega) only [wq])))
 refine hK _ ?_;clear hK;clear Kn
 refine zA fun Kn hK=>?_
 have hL : (decide ((60:Int)<d)||decide ((700:Int)<t.kids.length)||decide ((5000:Int)<t.data.length)||rgGreat t.lo t.hi)=false→ ∀ s,LessL (renK []) ⟨[(1,vI d),(2,vP 2 0)],[(2,some ⟨35,tagK t,true,false⟩)]⟩ (Fr0 Tryz.f36.ntmps) s→Kn s:=by
  intro hf s hl
  refine hK _ (sound_lessR _ _ hl ?_)
  clear hK hl
  (repeat' (first|with_reducible (first|refine zA fun Kn hK=>?_|refine zU ?_|refine Nx.go ?_|go_step)|with_reducible (first|refine zI ?_|refine zV ?_)|simp (maxSteps:=9^9) (disch:=omega) only [wq]|with_reducible refine zM (fun hb=>?_) (fun hb=>?_)<;>try simp only [hb]|with_reducible refine And.intro (by first|omega|(simp;done)|(simp;omega)) ?_|simp (maxSteps:=9^9) -implicitDefEqProofs only [go_sem,bD]))
  refine sound_loopR (fun x:{k:Nat // k≤t.kids.length∧(t.kids.take k).any (fun x=>x.great (d+1))=false}=>⟨[(1,vI d),(2,vP 2 0),(27,vI t.kids.length),(28,vI x.1)],[(2,some ⟨35,tagK t,true,false⟩)]⟩) (fun x=>t.kids.length-x.1) ⟨0,by simp⟩ [] (by (iterate 2 ((try simp (maxSteps:=9^9) -implicitDefEqProofs only [go_sem,bD]);(try simp (maxSteps:=9^9) (disch:=omega) only [wq])));try simp) (fun ⟨k,hk,hall⟩=>?_)
  have h5:=t.wt_kids
  have h6:d≤60:=by
   simp only [Bool.or_eq_false_iff,decide_eq_false_iff_not] at hf
   omega
  by_cases hlt:k<t.kids.length
  ·obtain ⟨x,hx⟩: ∃ x,t.kids[k]?=some x:=⟨_,List.getElem?_eq_getElem hlt⟩
   have hb:decide ((k:Int)<(t.kids.length:Int))=true:=by simpa using hlt
   have hm:=List.mem_of_getElem? hx
   (repeat' (first|with_reducible (first|refine zA fun Kn hK=>?_|refine zU ?_|refine Nx.go ?_|go_step)|(refine ⟨_,ih x hm _ (d+1) rfl (by have:=Tg.wt_kid hm;omega) (by omega),?_⟩)|with_reducible (first|refine zI ?_|refine zV ?_)|simp (maxSteps:=9^9) (disch:=omega) only [wq]|with_reducible refine zM (fun hb=>?_) (fun hb=>?_)<;>try simp only [hb]|with_reducible refine And.intro (by first|omega|(simp;done)|(simp;omega)) ?_|simp (maxSteps:=9^9) -implicitDefEqProofs only [go_sem,hb,flat_at tagC_len hx]))
   ·rw [t.great_eq]
    have:t.kids.any (fun x=>x.great (d+1))=true:=List.any_eq_true.2 ⟨x,hm,by simp_all⟩
    rw [this]
    simp
   ·refine ⟨[],⟨k+1,hlt,?_⟩,?_⟩
    ·rw [List.take_add_one,hx]
     simp_all
    ·(iterate 2 ((try simp (maxSteps:=9^9) -implicitDefEqProofs only [go_sem,bD]);(try simp (maxSteps:=9^9) (disch:=omega) only [wq])))
     (simp only [ijq,true_and,and_true];first|done|omega|(split<;>omega)|(simp;done)|(simp;omega))
  ·have hb:decide ((k:Int)<(t.kids.length:Int))=false:=by simpa using hlt
   obtain rfl:k=t.kids.length:=by omega
   (repeat' (first|with_reducible (first|refine zA fun Kn hK=>?_|refine zU ?_|refine Nx.go ?_|go_step)|refine ⟨_,hn,?_⟩|with_reducible (first|refine zI ?_|refine zV ?_)|simp (maxSteps:=9^9) (disch:=omega) only [wq]|with_reducible refine zM (fun hb=>?_) (fun hb=>?_)<;>try simp only [hb]|with_reducible refine And.intro (by first|omega|(simp;done)|(simp;omega)) ?_|simp (maxSteps:=9^9) -implicitDefEqProofs only [go_sem,hb,bD]))
   all_goals
    rw [List.take_length] at hall
    rw [t.great_eq,hf,hall]
    simp only [hb]
    rfl
 clear hK
 (repeat' (first|with_reducible (first|refine zA fun Kn hK=>?_|refine zU ?_|refine Nx.go ?_|go_step)|refine ⟨_,hg,?_⟩|(refine hL (by simp only [*];rfl) _ ?_)|with_reducible (first|refine zI ?_|refine zV ?_)|simp (maxSteps:=9^9) (disch:=omega) only [wq]|with_reducible refine zM (fun hb=>?_) (fun hb=>?_)<;>try simp only [hb]|with_reducible refine And.intro (by first|omega|(simp;done)|(simp;omega)) ?_|simp (maxSteps:=9^9) -implicitDefEqProofs only [go_sem,gt_iff_lt,bD]))
 all_goals (clear ih;first|(simp only [*];done)|(rw [t.great_eq];simp only [*];rfl)|(rw [t.great_eq];simp only [*];simp;done))
theorem rgSame_iff {o o':UInt8} {a b a' b':Bd}:rgSame o a b o' a' b'=true↔o=o'∧a=a'∧b=b':=by
 simp only [rgSame,Bool.and_eq_true,bdSame_iff,beq_iff_eq,and_assoc]
end
theorem plain_same (t:Tg):t.plain=rgSame t.ord t.lo t.hi 0 Bd.none Bd.none:=by
 rw [Bool.eq_iff_iff,rgSame_iff]
 simp [Tg.plain]
theorem len0_empty {α:Type} (l:List α):((l.length:Int)==0)=emptyL l:=by
 cases l with
 | nil=>rfl
 | cons a l =>
  rw [show emptyL (a::l)=false from rfl,beq_eq_false_iff_ne]
  simp
  omega
section
variable {G:Nat→Option (List D)}
end
section
variable {G:Nat→Option (List D)}
end
end Go.Proofs.YtfammdfpgccnfaaGreatDoor
