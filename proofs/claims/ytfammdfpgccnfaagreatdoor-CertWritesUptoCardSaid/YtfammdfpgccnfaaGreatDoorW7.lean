/- Parts of the proof, laid together. -/
import Derived.Test.YtfammdfpgccnfaaGreatDoorW6
import Derived.Defers
import Derived.Recover
import Derived.Laws.Pointers
import Derived.Deep.RegionWith
import Derived.BigQuiet
set_option linter.unusedVariables false
set_option linter.unusedSimpArgs false
set_option maxRecDepth 100000
set_option maxHeartbeats 8000000
namespace Go.Proofs.YtfammdfpgccnfaaGreatDoor
open Go.RowKit
@[go_sem] def wdC (w:Wd):List D:=[.v (.bool w.aft),.v (.int .i64 w.frm),.v (.bool w.unt),.v (.int .i64 w.to)]
theorem maxN_val:maxN=315569520000:=by
 unfold maxN
 rfl
section
variable {G:Nat→Option (List D)}
theorem side_m (is:Bool) (n:Int):Spec Tryz.prog G 131 [.c (.v (.bool is)),.c (.v (.int .i64 n))] (.one (.c (.v (.bool (sideW is n))))):=by
 have hd:=datePut_m (G:=G) n
 have e:(n==0)=decide (n=0):=Bool.beq_eq_decide_eq _ _
 unfold sideW
 unfold dateIn at hd
 generalize decide (0≤n∧n<(maxN:Int))=q at *
 generalize decide (n=0)=z at *
 generalize (if q=true then dateS n.toNat else [])=s at *
 cases is<;>cases q<;>cases z
 all_goals
  refine spec_of Tryz.func131 rfl rfl rfl (by kernel_rfl) rfl fun K=>?_
  (repeat' (first|with_reducible (first|refine zA fun Kn hK=>?_|refine zU ?_|refine Nx.go ?_|go_step)|refine ⟨_,hd,?_⟩|with_reducible (first|refine zI ?_|refine zV ?_)|simp (maxSteps:=9^9) (disch:=omega) only [wq]|with_reducible refine zM (fun hb=>?_) (fun hb=>?_)<;>try simp only [hb]|with_reducible refine And.intro (by first|omega|(simp;done)|(simp;omega)) ?_|simp (maxSteps:=9^9) -implicitDefEqProofs only [go_sem,e,decide_true]))
  all_goals rfl
theorem wmay_m (w:Wd):Spec Tryz.prog G 114 [.g (wdC w)] (.one (.c (.v (.bool w.may)))):=by
 have s1:=side_m (G:=G) w.aft w.frm
 have s2:=side_m (G:=G) w.unt w.to
 unfold Wd.may
 generalize sideW w.aft w.frm=q1 at *
 generalize sideW w.unt w.to=q2 at *
 unfold wdC
 cases q1
 all_goals
  refine spec_of Tryz.func114 rfl rfl rfl (by kernel_rfl) rfl fun K=>?_
  (repeat' (first|with_reducible (first|refine zA fun Kn hK=>?_|refine zU ?_|refine Nx.go ?_|go_step)|refine ⟨_,s1,?_⟩|refine ⟨_,s2,?_⟩|with_reducible (first|refine zI ?_|refine zV ?_)|simp (maxSteps:=9^9) (disch:=omega) only [wq]|with_reducible refine zM (fun hb=>?_) (fun hb=>?_)<;>try simp only [hb]|with_reducible refine And.intro (by first|omega|(simp;done)|(simp;omega)) ?_|simp (maxSteps:=9^9) -implicitDefEqProofs only [go_sem,decide_true]))
  all_goals rfl
theorem wend_m (word:List UInt8) (n:Int) (hl:word.length≤1000) (h:0≤n∧n<(maxN:Int)):Spec Tryz.prog G 115 [.c (.v (.string ⟨word.toArray⟩)),.c (.v (.int .i64 n))] (.one (.g (treeC (endV word n)))):=by
 have hm:=maxN_val
 have hd:=datePut_m (G:=G) n
 unfold dateIn at hd
 rw [decide_eq_true h,if_pos rfl] at hd
 have a1:=atom_m (G:=G) word (by omega)
 have a2:=atom_m (G:=G) (dateS n.toNat) (by rw [dateS_len];omega)
 unfold endV
 generalize dateS n.toNat=s at *
 have e1:=treeC_mk false false [] word []
 have e2:=treeC_mk false false [] s []
 rw [e1] at a1
 rw [e2] at a2
 have hlist:=list_m' (G:=G) [atomT word,atomT s] rfl rfl (by simp)
 simp only [List.flatMap_cons,List.flatMap_nil,atomT,e1,e2,List.cons_append,List.nil_append,List.length_cons,List.length_nil] at hlist
 rw [listT,treeC_mk]
 rw [listT,treeC_mk] at hlist
 simp only [atomT]
 unfold bytesD at *
 simp only [List.flatMap_nil,List.length_nil,List.map_nil] at *
 refine spec_of Tryz.func115 rfl rfl rfl (by kernel_rfl) rfl fun K=>?_
 (repeat' (first|with_reducible (first|refine zA fun Kn hK=>?_|refine zU ?_|refine Nx.go ?_|go_step)|refine ⟨none,?_⟩|refine ⟨_,hd,?_⟩|refine ⟨_,a1,?_⟩|refine ⟨_,a2,?_⟩|refine ⟨_,hlist,?_⟩|with_reducible (first|refine zI ?_|refine zV ?_)|simp (maxSteps:=9^9) (disch:=omega) only [wq]|with_reducible refine zM (fun hb=>?_) (fun hb=>?_)<;>try simp only [hb]|with_reducible refine And.intro (by first|omega|(simp;done)|(simp;omega)) ?_|simp (maxSteps:=9^9) -implicitDefEqProofs only [go_sem,List.length_map,List.length_cons,List.length_nil,decide_true]))
 all_goals trace_state
end
def wputD (w:Wd):DR:=if w.may=true then .many [.g (treeC w.val),.c (.v (.int .i64 0))] else .many [.g zeroC,.c (.v (.int .i64 11))]
section
variable {G:Nat→Option (List D)}
theorem wput_m (w:Wd):Spec Tryz.prog G 87 [.g (wdC w)] (wputD w):=by
 have hm:=wmay_m (G:=G) w
 unfold wputD
 by_cases hmay:w.may=true
 ·rw [if_pos hmay]
  rw [hmay] at hm
  obtain ⟨aft,frm,unt,to⟩:=w
  rw [may_mk] at hmay
  have h1:sideW aft frm=true:=by
   revert hmay
   cases sideW aft frm<;>simp
  have h2:sideW unt to=true:=by
   revert hmay
   cases sideW aft frm<;>simp
  clear hmay
  have a1:=atom_m (G:=G) wValid (by decide)
  have e1:=treeC_mk false false [] wValid []
  rw [e1] at a1
  cases aft<;>cases unt
  ·rw [show (Wd.mk false frm false to).val=listT [atomT wValid] from rfl]
   have hl:=list_m' (G:=G) [atomT wValid] (n:=1) rfl rfl (by simp)
   simp only [List.flatMap_cons,List.flatMap_nil,atomT,e1,List.cons_append,List.nil_append,List.append_nil,List.length_cons,List.length_nil] at hl
   rw [listT,treeC_mk] at hl ⊢
   simp only [List.flatMap_cons,List.flatMap_nil,atomT,e1,List.cons_append,List.nil_append,List.append_nil,List.length_cons,List.length_nil] at hl ⊢
   unfold wdC at *
   try unfold wNB at *
   try unfold wNA at *
   unfold wValid bytesD at *
   refine spec_of Tryz.func87 rfl rfl rfl (by kernel_rfl) rfl fun K=>?_
   (repeat' (first|with_reducible (first|refine zA fun Kn hK=>?_|refine zU ?_|refine Nx.go ?_|go_step)|refine ⟨none,?_⟩|refine ⟨_,hm,?_⟩|refine ⟨_,a1,?_⟩|refine ⟨_,hl,?_⟩|with_reducible (first|refine zI ?_|refine zV ?_)|simp (maxSteps:=9^9) (disch:=omega) only [wq]|with_reducible refine zM (fun hb=>?_) (fun hb=>?_)<;>try simp only [hb]|with_reducible refine And.intro (by first|omega|(simp;done)|(simp;omega)) ?_|simp (maxSteps:=9^9) -implicitDefEqProofs only [go_sem,rep1,List.length_map,List.length_cons,List.length_nil,decide_true]))
   all_goals trace_state
  ·rw [show (Wd.mk false frm true to).val=listT [atomT wValid,endV wNA to] from rfl]
   have b2:=wend_m (G:=G) wNA to (by decide) (side_t h2)
   rw [treeC_eq (endV wNA to)] at b2
   generalize endV wNA to=E2 at *
   have f2:=treeC_eq E2
   have hl:=list_m' (G:=G) [atomT wValid,E2] (n:=2) rfl rfl (by simp)
   simp only [List.flatMap_cons,List.flatMap_nil,atomT,e1,f2,List.cons_append,List.nil_append,List.append_nil,List.length_cons,List.length_nil] at hl
   rw [listT,treeC_mk] at hl ⊢
   simp only [List.flatMap_cons,List.flatMap_nil,atomT,e1,f2,List.cons_append,List.nil_append,List.append_nil,List.length_cons,List.length_nil] at hl ⊢
   unfold wdC at *
   try unfold wNB at *
   try unfold wNA at *
   unfold wValid bytesD at *
   refine spec_of Tryz.func87 rfl rfl rfl (by kernel_rfl) rfl fun K=>?_
   (repeat' (first|with_reducible (first|refine zA fun Kn hK=>?_|refine zU ?_|refine Nx.go ?_|go_step)|refine ⟨none,?_⟩|refine ⟨_,hm,?_⟩|refine ⟨_,a1,?_⟩|refine ⟨_,b2,?_⟩|refine ⟨_,hl,?_⟩|with_reducible (first|refine zI ?_|refine zV ?_)|simp (maxSteps:=9^9) (disch:=omega) only [wq]|with_reducible refine zM (fun hb=>?_) (fun hb=>?_)<;>try simp only [hb]|with_reducible refine And.intro (by first|omega|(simp;done)|(simp;omega)) ?_|simp (maxSteps:=9^9) -implicitDefEqProofs only [go_sem,rep1,List.length_map,List.length_cons,List.length_nil,decide_true]))
   all_goals trace_state
  ·rw [show (Wd.mk true frm false to).val=listT [atomT wValid,endV wNB frm] from rfl]
   have b1:=wend_m (G:=G) wNB frm (by decide) (side_t h1)
   rw [treeC_eq (endV wNB frm)] at b1
   generalize endV wNB frm=E1 at *
   have f1:=treeC_eq E1
   have hl:=list_m' (G:=G) [atomT wValid,E1] (n:=2) rfl rfl (by simp)
   simp only [List.flatMap_cons,List.flatMap_nil,atomT,e1,f1,List.cons_append,List.nil_append,List.append_nil,List.length_cons,List.length_nil] at hl
   rw [listT,treeC_mk] at hl ⊢
   simp only [List.flatMap_cons,List.flatMap_nil,atomT,e1,f1,List.cons_append,List.nil_append,List.append_nil,List.length_cons,List.length_nil] at hl ⊢
   unfold wdC at *
   try unfold wNB at *
   try unfold wNA at *
   unfold wValid bytesD at *
   refine spec_of Tryz.func87 rfl rfl rfl (by kernel_rfl) rfl fun K=>?_
   (repeat' (first|with_reducible (first|refine zA fun Kn hK=>?_|refine zU ?_|refine Nx.go ?_|go_step)|refine ⟨none,?_⟩|refine ⟨_,hm,?_⟩|refine ⟨_,a1,?_⟩|refine ⟨_,b1,?_⟩|refine ⟨_,hl,?_⟩|with_reducible (first|refine zI ?_|refine zV ?_)|simp (maxSteps:=9^9) (disch:=omega) only [wq]|with_reducible refine zM (fun hb=>?_) (fun hb=>?_)<;>try simp only [hb]|with_reducible refine And.intro (by first|omega|(simp;done)|(simp;omega)) ?_|simp (maxSteps:=9^9) -implicitDefEqProofs only [go_sem,rep1,List.length_map,List.length_cons,List.length_nil,decide_true]))
   all_goals trace_state
  ·rw [show (Wd.mk true frm true to).val=listT [atomT wValid,endV wNB frm,endV wNA to] from rfl]
   have b1:=wend_m (G:=G) wNB frm (by decide) (side_t h1)
   rw [treeC_eq (endV wNB frm)] at b1
   have b2:=wend_m (G:=G) wNA to (by decide) (side_t h2)
   rw [treeC_eq (endV wNA to)] at b2
   generalize endV wNB frm=E1 at *
   generalize endV wNA to=E2 at *
   have f1:=treeC_eq E1
   have f2:=treeC_eq E2
   have hl:=list_m' (G:=G) [atomT wValid,E1,E2] (n:=3) rfl rfl (by simp)
   simp only [List.flatMap_cons,List.flatMap_nil,atomT,e1,f1,f2,List.cons_append,List.nil_append,List.append_nil,List.length_cons,List.length_nil] at hl
   rw [listT,treeC_mk] at hl ⊢
   simp only [List.flatMap_cons,List.flatMap_nil,atomT,e1,f1,f2,List.cons_append,List.nil_append,List.append_nil,List.length_cons,List.length_nil] at hl ⊢
   unfold wdC at *
   try unfold wNB at *
   try unfold wNA at *
   unfold wValid bytesD at *
   refine spec_of Tryz.func87 rfl rfl rfl (by kernel_rfl) rfl fun K=>?_
   (repeat' (first|with_reducible (first|refine zA fun Kn hK=>?_|refine zU ?_|refine Nx.go ?_|go_step)|refine ⟨none,?_⟩|refine ⟨_,hm,?_⟩|refine ⟨_,a1,?_⟩|refine ⟨_,b1,?_⟩|refine ⟨_,b2,?_⟩|refine ⟨_,hl,?_⟩|with_reducible (first|refine zI ?_|refine zV ?_)|simp (maxSteps:=9^9) (disch:=omega) only [wq]|with_reducible refine zM (fun hb=>?_) (fun hb=>?_)<;>try simp only [hb]|with_reducible refine And.intro (by first|omega|(simp;done)|(simp;omega)) ?_|simp (maxSteps:=9^9) -implicitDefEqProofs only [go_sem,rep1,List.length_map,List.length_cons,List.length_nil,decide_true]))
   all_goals trace_state
 ·rw [if_neg hmay]
  rw [show w.may=false by cases h:w.may<;>simp_all] at hm
  unfold wdC at *
  refine spec_of Tryz.func87 rfl rfl rfl (by kernel_rfl) rfl fun K=>?_
  (repeat' (first|with_reducible (first|refine zA fun Kn hK=>?_|refine zU ?_|refine Nx.go ?_|go_step)|refine ⟨_,hm,?_⟩|with_reducible (first|refine zI ?_|refine zV ?_)|simp (maxSteps:=9^9) (disch:=omega) only [wq]|with_reducible refine zM (fun hb=>?_) (fun hb=>?_)<;>try simp only [hb]|with_reducible refine And.intro (by first|omega|(simp;done)|(simp;omega)) ?_|simp (maxSteps:=9^9) -implicitDefEqProofs only [go_sem,decide_true]))
  all_goals rfl
end
theorem cat_e (w:List UInt8):ByteArray.toList ((⟨w.toArray⟩:ByteArray)++(⟨#[101]⟩:ByteArray))=w++[101]:=by
 rw [show ((⟨w.toArray⟩:ByteArray)++(⟨#[101]⟩:ByteArray))=⟨(w++[101]).toArray⟩ from ByteArray.ext (by simp),ba_list]
section
variable {G:Nat→Option (List D)}
def endsO (o:Option (Bd × List Tree)):DR:=match o with
 | some (b,m)=> .many [.g (bdD b),.c (.sl m.length (m.flatMap treeC))]
 | none=> .pan vNone
theorem ends_m (l:List Tree) (w:List UInt8) (hw:w.length≤1000) (hl:l.length≤100000000) (hd: ∀ x∈l,x.data.length≤1000000000):Spec Tryz.prog G 182 [.c (.sl l.length (l.flatMap treeC)),.c (.v (.string ⟨w.toArray⟩))] (endsO (endP l w)):=by
 match l,hl,hd with
 | [],_,_ =>
  have z0:(((([]:List Tree).length:Nat):Int)==0)=true:=rfl
  have z1:endP [] w=some (Bd.none,[]):=rfl
  rw [z1,endsO]
  clear z1
  generalize ([]:List Tree)=L at *
  unfold bdD Bd.none
  refine spec_of Tryz.func182 rfl rfl rfl (by kernel_rfl) rfl fun K=>?_
  (repeat' (first|with_reducible (first|refine zA fun Kn hK=>?_|refine zU ?_|refine Nx.go ?_|go_step)|with_reducible (first|refine zI ?_|refine zV ?_)|simp (maxSteps:=9^9) (disch:=omega) only [wq]|with_reducible refine zM (fun hb=>?_) (fun hb=>?_)<;>try simp only [hb]|with_reducible refine And.intro (by first|omega|(simp;done)|(simp;omega)) ?_|simp (maxSteps:=9^9) -implicitDefEqProofs only [go_sem,z0,bD,bytesD]))
  all_goals rfl
 | x :: l, hl,hd =>
  have hx:(x::l)[0]?=some x:=rfl
  have f0:=flat_at (f:=treeC) treeC_len hx
  simp only [Nat.zero_mul,List.drop_zero] at f0
  have n0:(((x::l).length:Int)==0)=false:=by rw [beq_eq_false_iff_ne,List.length_cons];omega
  have n1:(0:Int)<((x::l).length:Int):=by rw [List.length_cons];omega
  have n1':0<(x::l).length:=by rw [List.length_cons];omega
  have ex:=treeC_eq x
  cases hxb:x.list||x.hinted with
  | true =>
   have h1:=patom_n (G:=G) x rfl hxb
   have z1:endP (x::l) w=none:=by
    unfold endP
    dsimp only
    rw [if_pos hxb]
   rw [z1,endsO]
   clear z1
   generalize x::l=L at *
   refine spec_of Tryz.func182 rfl rfl rfl (by kernel_rfl) rfl fun K=>?_
   (repeat' (first|with_reducible (first|refine zA fun Kn hK=>?_|refine zU ?_|refine Nx.go ?_|go_step)|refine ⟨_,h1,?_⟩|with_reducible (first|refine zI ?_|refine zV ?_)|simp (maxSteps:=9^9) (disch:=omega) only [wq]|with_reducible refine zM (fun hb=>?_) (fun hb=>?_)<;>try simp only [hb]|with_reducible refine And.intro (by first|omega|(simp;done)|(simp;omega)) ?_|simp (maxSteps:=9^9) -implicitDefEqProofs only [go_sem,n0,n1,n1',f0,bD,bytesD]))
   exact ⟨_,rfl,rfl⟩
  | false =>
   have h1:=patom_y (G:=G) x rfl (hd x (by simp)) hxb
   have z1:endP (x::l) w=endT (x::l) w:=by
    unfold endP
    dsimp only
    rw [if_neg (by rw [hxb];simp)]
   have b1:=isB_yes hxb w
   have b2:=isB_yes hxb (w++[101])
   have ht:=want_t (G:=G)
   have hf:=want_f (G:=G)
   rw [z1]
   clear z1
   by_cases hw1:(isB x w||isB x (w++[101]))=true
   ·match l,hl,hd with
    | [],_,_ =>
     have he:endT [x] w=none:=by rw [endT,if_pos hw1]
     rw [he,endsO]
     rw [b1,b2] at hw1
     have d2:decide ((([x]:List Tree).length:Int)>1)=false:=rfl
     clear he b1 b2
     generalize [x]=L at *
     cases q1:x.data==w<;>cases q2:x.data==w++[101]
     case false.false=>rw [q1,q2] at hw1;cases hw1
     all_goals
      refine spec_of Tryz.func182 rfl rfl rfl (by kernel_rfl) rfl fun K=>?_
      (repeat' (first|with_reducible (first|refine zA fun Kn hK=>?_|refine zU ?_|refine Nx.go ?_|go_step)|refine ⟨_,h1,?_⟩|refine ⟨_,hf,?_⟩|with_reducible (first|refine zI ?_|refine zV ?_)|simp (maxSteps:=9^9) (disch:=omega) only [wq]|with_reducible refine zM (fun hb=>?_) (fun hb=>?_)<;>try simp only [hb]|with_reducible refine And.intro (by first|omega|(simp;done)|(simp;omega)) ?_|simp (maxSteps:=9^9) -implicitDefEqProofs only [go_sem,n0,n1,n1',d2,f0,q1,q2,cat_e,bD,bytesD]))
      all_goals exact ⟨_,rfl,rfl⟩
    | y :: l,hl,hd =>
     have hy:(x::y::l)[1]?=some y:=rfl
     have f1:=flat_at (f:=treeC) treeC_len hy
     simp only [Nat.one_mul] at f1
     have d2:decide ((((x::y::l):List Tree).length:Int)>1)=true:=by rw [decide_eq_true_iff,List.length_cons,List.length_cons];omega
     have m1:(1:Int)<((x::y::l).length:Int):=by rw [List.length_cons,List.length_cons];omega
     have m1':1<(x::y::l).length:=by rw [List.length_cons,List.length_cons];omega
     have m2:2≤(x::y::l).length:=by rw [List.length_cons,List.length_cons];omega
     have dr:=flat_drop (f:=treeC) treeC_len (x::y::l) 2
     have dl:(x::y::l).length-2=l.length:=by simp
     have dl2:(((x::y::l).length:Int)-2)=(l.length:Int):=by rw [List.length_cons,List.length_cons];omega
     have hdr:(x::y::l).drop 2=l:=rfl
     rw [hdr] at dr
     simp only [Nat.reduceMul] at dr
     cases hyb:y.list||y.hinted with
     | true =>
      have h2:=patom_n (G:=G) y rfl hyb
      have he:endT (x::y::l) w=none:=by
       rw [endT,if_pos hw1]
       rw [if_pos hyb]
      rw [he,endsO]
      rw [b1,b2] at hw1
      clear he b1 b2 hdr
      generalize x::y::l=L at *
      cases q1:x.data==w<;>cases q2:x.data==w++[101]
      case false.false=>rw [q1,q2] at hw1;cases hw1
      all_goals
       refine spec_of Tryz.func182 rfl rfl rfl (by kernel_rfl) rfl fun K=>?_
       (repeat' (first|with_reducible (first|refine zA fun Kn hK=>?_|refine zU ?_|refine Nx.go ?_|refine zO (by decide +kernel) ?_|refine zP ?_|go_step)|refine ⟨_,h1,?_⟩|refine ⟨_,ht,?_⟩|refine ⟨_,h2,?_⟩|with_reducible (first|refine zI ?_|refine zV ?_|exact (show logOk _ _=true by kernel_rfl))|simp (maxSteps:=9^9) (disch:=omega) only [wq]|with_reducible refine zM (fun hb=>?_) (fun hb=>?_)<;>try simp only [hb]|with_reducible refine And.intro (by first|omega|(simp;done)|(simp;omega)) ?_|simp (maxSteps:=9^9) -implicitDefEqProofs only [go_sem,n0,n1,n1',d2,f0,f1,m1,m1',m2,dr,dl,dl2,q1,q2,cat_e,bD,bytesD]))
       all_goals (first|exact ⟨_,rfl,rfl⟩|skip)
     | false =>
      have h2:=patom_y (G:=G) y rfl (hd y (by simp)) hyb
      have he:endT (x::y::l) w=some (⟨true,isB x w,y.data⟩,l):=by
       rw [endT,if_pos hw1]
       rw [if_neg (by rw [hyb];simp)]
      rw [he,endsO,b1]
      rw [b1,b2] at hw1
      clear he b1 b2 hdr
      generalize x::y::l=L at *
      unfold bdD
      cases q1:x.data==w<;>cases q2:x.data==w++[101]
      case false.false=>rw [q1,q2] at hw1;cases hw1
      all_goals
       refine spec_of Tryz.func182 rfl rfl rfl (by kernel_rfl) rfl fun K=>?_
       (repeat' (first|with_reducible (first|refine zA fun Kn hK=>?_|refine zU ?_|refine Nx.go ?_|refine zO (by decide +kernel) ?_|refine zP ?_|go_step)|refine ⟨_,h1,?_⟩|refine ⟨_,ht,?_⟩|refine ⟨_,h2,?_⟩|with_reducible (first|refine zI ?_|refine zV ?_|exact (show logOk _ _=true by kernel_rfl))|simp (maxSteps:=9^9) (disch:=omega) only [wq]|with_reducible refine zM (fun hb=>?_) (fun hb=>?_)<;>try simp only [hb]|with_reducible refine And.intro (by first|omega|(simp;done)|(simp;omega)) ?_|simp (maxSteps:=9^9) -implicitDefEqProofs only [go_sem,n0,n1,n1',d2,f0,f1,m1,m1',m2,dr,dl,dl2,q1,q2,cat_e,bD,bytesD]))
       all_goals try rfl
   ·have he:endT (x::l) w=some (Bd.none,x::l):=by unfold endT;dsimp only;rw [if_neg hw1]
    rw [he,endsO]
    simp only [Bool.or_eq_true,not_or,Bool.not_eq_true] at hw1
    rw [b1,b2] at hw1
    obtain ⟨q1,q2⟩:=hw1
    clear he b1 b2
    generalize x::l=L at *
    unfold bdD Bd.none
    refine spec_of Tryz.func182 rfl rfl rfl (by kernel_rfl) rfl fun K=>?_
    (repeat' (first|with_reducible (first|refine zA fun Kn hK=>?_|refine zU ?_|refine Nx.go ?_|go_step)|refine ⟨_,h1,?_⟩|with_reducible (first|refine zI ?_|refine zV ?_)|simp (maxSteps:=9^9) (disch:=omega) only [wq]|with_reducible refine zM (fun hb=>?_) (fun hb=>?_)<;>try simp only [hb]|with_reducible refine And.intro (by first|omega|(simp;done)|(simp;omega)) ?_|simp (maxSteps:=9^9) -implicitDefEqProofs only [go_sem,n0,n1,n1',f0,q1,q2,cat_e,bD,bytesD]))
    all_goals rfl
end
def preS {α:Type}:List (Option α)→List α
 | some x::l=>x::preS l
 | _=>[]
theorem preS_len {α β:Type} {f:α→Option β}: ∀ {l:List α},(preS (l.map f)).length≤l.length
 | []=>by simp [preS]
 | x::l=>by
  have:=preS_len (f:=f) (l:=l)
  cases h:f x<;>simp [preS,h]<;>omega
theorem preS_step {α β:Type} {f:α→Option β} {y:β}: ∀ {l:List α} {k:Nat} {x:α},k≤(preS (l.map f)).length→l[k]?=some x→f x=some y→(preS (l.map f))[k]?=some y
 | [],k,x,_,h,_=>by simp at h
 | a::l,0,x,hk,h,hf=>by
  have h:a=x:=by simpa using h
  subst h
  simp [preS,hf]
 | a :: l,k+1,x,hk,h,hf=>by
  have h:l[k]?=some x:=by simpa using h
  cases ha:f a with
  | none=>simp [preS,ha] at hk
  | some b =>
   simp only [List.map_cons,ha,preS,List.length_cons] at hk ⊢
   rw [List.getElem?_cons_succ]
   exact preS_step (by omega) h hf
theorem preS_stop {α β:Type} {f:α→Option β}: ∀ {l:List α} {k:Nat} {x:α},k≤(preS (l.map f)).length→l[k]?=some x→f x=none→(preS (l.map f)).length=k∧allSome (l.map f)=none
 | [],k,x,_,h,_=>by simp at h
 | a::l,0,x,hk,h,hf=>by
  have h:a=x:=by simpa using h
  subst h
  simp [preS,hf,allSome]
 | a :: l,k+1,x,hk,h,hf=>by
  have h:l[k]?=some x:=by simpa using h
  cases ha:f a with
  | none=>simp [preS,ha] at hk
  | some b =>
   simp only [List.map_cons,ha,preS,List.length_cons] at hk ⊢
   obtain ⟨h1,h2⟩:=preS_stop (l:=l) (k:=k) (by omega) h hf
   exact ⟨by omega,by rw [allSome,h2];rfl⟩
theorem preS_all {α β:Type} {f:α→Option β}: ∀ {l:List α},l.length≤(preS (l.map f)).length→allSome (l.map f)=some (preS (l.map f))
 | [],_=>rfl
 | a :: l,hk=>by
  cases ha:f a with
  | none=>simp [preS,ha] at hk
  | some b =>
   simp only [List.map_cons,ha,preS,List.length_cons] at hk ⊢
   rw [allSome,preS_all (by omega)]
   rfl
theorem preS_of {α β:Type} {f:α→Option β}: ∀ {l:List α} {p:List β},allSome (l.map f)=some p→p=preS (l.map f)
 | [],p,h=>by
  simp [allSome] at h
  rw [h]
  rfl
 | a :: l,p,h=>by
  cases ha:f a with
  | none=>simp [ha,allSome] at h
  | some b =>
   simp only [List.map_cons,ha,allSome,Option.map_eq_some_iff] at h
   obtain ⟨q,hq,rfl⟩:=h
   simp only [List.map_cons,ha,preS,preS_of hq]
structure TagR (G:Nat→Option (List D)) (f:FuncId) (arg:DV) (o:Option Tg) (u:Tg):Prop where
 is: ∀ p,o=some p→p=u
 spec:Spec Tryz.prog G f [arg] (.many [.g (tagC u),.c (.v (.bool o.isSome))])
def zTg:Tg:= .mk 0 [] [] 0 Bd.none Bd.none
theorem tagC_mk (k:UInt8) (d:List UInt8) (l:List Tg) (o:UInt8) (lo hi:Bd):tagC (.mk k d l o lo hi)=[bD k,bytesD d,.sl l.length (l.flatMap tagC),bD o,.v (.bool lo.is),.v (.bool lo.opn),bytesD lo.txt,.v (.bool hi.is),.v (.bool hi.opn),bytesD hi.txt]:=tagC_eq _
section
variable {G:Nat→Option (List D)}
theorem rtags12_w (f:Tree→Option Tg) (l:List Tree) (hl:l.length≤100000000) (ih: ∀ x∈l,∃ u,TagR G 127 (.g (treeC x)) (f x) u) :
  Spec Tryz.prog G 149 [.c (.sl l.length (l.flatMap treeC))] (.many [.c (.sl (preS (l.map f)).length ((preS (l.map f)).flatMap tagC)),.c (.v (.bool (allSome (l.map f)).isSome))]):=by
 have hP:=preS_len (f:=f) (l:=l)
 have s1: ∀ {k x y},k≤(preS (l.map f)).length→l[k]?=some x→f x=some y→(preS (l.map f))[k]?=some y:=preS_step
 have s2: ∀ {k x},k≤(preS (l.map f)).length→l[k]?=some x→f x=none→(preS (l.map f)).length=k∧allSome (l.map f)=none:=preS_stop
 have s3:=preS_all (f:=f) (l:=l)
 generalize allSome (l.map f)=A at *
 generalize preS (l.map f)=P at *
 refine spec_of Tryz.func149 rfl rfl rfl (by kernel_rfl) rfl fun K=>?_
 (repeat' (first|with_reducible (first|refine zA fun Kn hK=>?_|refine zU ?_|refine Nx.go ?_|go_step)|with_reducible (first|refine zI ?_|refine zV ?_)|simp (maxSteps:=9^9) (disch:=omega) only [wq]|with_reducible refine zM (fun hb=>?_) (fun hb=>?_)<;>try simp only [hb]|with_reducible refine And.intro (by first|omega|(simp;done)|(simp;omega)) ?_|simp (maxSteps:=9^9) -implicitDefEqProofs only [go_sem,true_and]))
 refine sound_grow 4 8 10 0 0 (by rfl) (by rfl) (by rfl) (by rfl) ?_
 refine sound_trim 8 0 (by rfl) ?_
 refine sound_loopR (fun x:{k:Nat // k≤l.length∧k≤P.length}=>⟨[(0,vD (.sl l.length (l.flatMap treeC))),(4,vR 1000 10 x.1),(10,vI l.length),(11,vI x.1)],[(1000,some ⟨35,((P.take x.1).flatMap tagC).map C.d,false,false⟩)]⟩) (fun x=>l.length-x.1) ⟨0,by omega⟩ [(1000,8)] (by (iterate 2 ((try simp (maxSteps:=9^9) -implicitDefEqProofs only [go_sem,AObj.trim,List.take_zero,List.flatMap_nil,List.map_nil]);(try simp (maxSteps:=9^9) (disch:=omega) only [wq])));try simp) (fun ⟨k,hk,hkP⟩=>?_)
 by_cases hlt:k<l.length
 ·obtain ⟨x,hx⟩: ∃ x,l[k]?=some x:=⟨_,List.getElem?_eq_getElem hlt⟩
  have hb:decide ((k:Int)<(l.length:Int))=true:=by simpa using hlt
  obtain ⟨u,hu,hsp⟩:=ih x (List.mem_of_getElem? hx)
  have hlen:((P.take k).flatMap tagC).length=k*10:=by rw [tagC_flen,List.length_take,Nat.min_eq_left hkP]
  cases hf:f x with
  | none =>
   obtain ⟨e1,e2⟩:=s2 hkP hx hf
   rw [hf] at hsp
   rw [tagC_eq] at hsp
   subst e1
   rw [e2]
   rw [List.take_length] at hlen
   simp only [List.take_length]
   (repeat' (first|with_reducible (first|refine zA fun Kn hK=>?_|refine zU ?_|refine Nx.go ?_|go_step)|refine ⟨_,hsp,?_⟩|with_reducible (first|refine zI ?_|refine zV ?_)|simp (maxSteps:=9^9) (disch:=omega) only [wq]|with_reducible refine zM (fun hb=>?_) (fun hb=>?_)<;>try simp only [hb]|with_reducible refine And.intro (by first|omega|(simp;done)|(simp;omega)) ?_|simp (maxSteps:=9^9) -implicitDefEqProofs only [go_sem,hb,hlen,List.length_map,true_and,flat_at treeC_len hx,bD,bytesD,Option.isSome_none]))
   try rfl
  | some t =>
   have hPk:=s1 hkP hx hf
   obtain rfl:=hu t hf
   rw [hf] at hsp
   have htt:=tagC_eq t
   have ht:(P.take (k+1)).flatMap tagC=(P.take k).flatMap tagC++tagC t:=by
    rw [List.take_add_one,hPk,List.flatMap_append]
    simp
   rw [htt] at hsp ht
   generalize (P.take k).flatMap tagC=W at *
   (repeat' (first|with_reducible (first|refine zA fun Kn hK=>?_|refine zU ?_|refine Nx.go ?_|go_step)|refine ⟨_,hsp,?_⟩|with_reducible (first|refine zI ?_|refine zV ?_)|simp (maxSteps:=9^9) (disch:=omega) only [wq]|with_reducible refine zM (fun hb=>?_) (fun hb=>?_)<;>try simp only [hb]|with_reducible refine And.intro (by first|omega|(simp;done)|(simp;omega)) ?_|simp (maxSteps:=9^9) -implicitDefEqProofs only [go_sem,hb,rep1,hlen,List.length_map,true_and,Nat.le_refl,List.append_nil,flat_at treeC_len hx,bD,bytesD,Option.isSome_some]))
   refine ⟨[(1000,28)],⟨k+1,hlt,len_pos hPk⟩,?_⟩
   rw [ht]
   (iterate 2 ((try simp (maxSteps:=9^9) -implicitDefEqProofs only [go_sem,bD]);(try simp (maxSteps:=9^9) (disch:=omega) only [wq])))
   (simp only [ijq,true_and,and_true];first|done|omega|(split<;>omega)|(simp;done)|(simp;omega))
 ·have hb:decide ((k:Int)<(l.length:Int))=false:=by simpa using hlt
  obtain rfl:k=l.length:=by omega
  have hPl:P.length=l.length:=by omega
  have hA:=s3 hkP
  have hT:P.take l.length=P:=by rw [← hPl,List.take_length]
  have hlen:(P.flatMap tagC).length=l.length*10:=by rw [tagC_flen,hPl]
  simp only [hT]
  (repeat' (first|with_reducible (first|refine zA fun Kn hK=>?_|refine zU ?_|refine Nx.go ?_|go_step)|with_reducible (first|refine zI ?_|refine zV ?_)|simp (maxSteps:=9^9) (disch:=omega) only [wq]|with_reducible refine zM (fun hb=>?_) (fun hb=>?_)<;>try simp only [hb]|with_reducible refine And.intro (by first|omega|(simp;done)|(simp;omega)) ?_|simp (maxSteps:=9^9) -implicitDefEqProofs only [go_sem,hb,hlen,List.length_map,Option.isSome_some]))
  rw [hA,hPl]
  rfl
end
def strD (w:List UInt8):D:= .v (.string ⟨w.toArray⟩)
theorem str_at {ws:List (List UInt8)} {k:Nat} {w:List UInt8} (h:ws[k]?=some w):(ws.map strD)[k]?=some (strD w):=by
 rw [List.getElem?_map,h]
 rfl
theorem findW_no {x:Tree} (h:(x.list||x.hinted)=true): ∀ (ws:List (List UInt8)) (k:Nat),findW x ws k=none
 | [],_=>rfl
 | w::ws,k=>by rw [findW,isB_no h,findW_no h ws];rfl
theorem findW_yes {x:Tree} (h:(x.list||x.hinted)=false): ∀ (ws:List (List UInt8)) (k:Nat),findW x ws k=if ws.any (fun w=>x.data==w)=true then some (k+ws.findIdx (fun w=>x.data==w)) else none
 | [],_=>rfl
 | w :: ws,k=>by
  rw [findW,isB_yes h,findW_yes h ws,List.any_cons,List.findIdx_cons]
  cases hq:x.data==w with
  | true=>simp
  | false =>
   simp only [Bool.false_or,Bool.false_eq_true,if_false,cond_false]
   split
   ·congr 1
    omega
   ·rfl
theorem endT_sub {l m:List Tree} {w:List UInt8} {b:Bd} (h:endT l w=some (b,m)):(b.txt=[]∨ ∃ y∈l,b.txt=y.data)∧(∀ x∈m,x∈l)∧m.length≤l.length:=by
 cases l with
 | nil =>
  simp [endT] at h
  obtain ⟨rfl,rfl⟩:=h
  exact ⟨.inl rfl,fun x hx=>hx,Nat.le_refl _⟩
 | cons x l =>
  simp only [endT] at h
  split at h
  ·cases l with
   | nil=>cases h
   | cons y l =>
    dsimp only at h
    split at h
    ·cases h
    ·simp only [Option.some.injEq,Prod.mk.injEq] at h
     obtain ⟨rfl,rfl⟩:=h
     exact ⟨.inr ⟨y,by simp,rfl⟩,fun z hz=>by simp [hz],by simp;omega⟩
  ·simp only [Option.some.injEq,Prod.mk.injEq] at h
   obtain ⟨rfl,rfl⟩:=h
   exact ⟨.inl rfl,fun x hx=>hx,Nat.le_refl _⟩
def outT (o:Option Tg):DR:=match o with
 | some t=> .one (.g (tagC t))
 | none=> .pan vNone
def outL (o:Option (List Tg)):DR:=match o with
 | some m=> .one (.c (.sl m.length (m.flatMap tagC)))
 | none=> .pan vNone
section
variable {G:Nat→Option (List D)}
theorem indexS_m (ws:List (List UInt8)) (s:List UInt8) (hl:ws.length≤100000000):Spec Tryz.prog G 181 [.c (.sl ws.length (ws.map strD)),.c (.v (.string ⟨s.toArray⟩))] (.one (.c (.v (.int .i64 (hitI (fun w=>s==w) ws))))):=by
 refine spec_of Tryz.func181 rfl rfl rfl (by kernel_rfl) rfl fun K=>?_
 (repeat' (first|with_reducible (first|refine zA fun Kn hK=>?_|refine zU ?_|refine Nx.go ?_|go_step)|with_reducible (first|refine zI ?_|refine zV ?_)|simp (maxSteps:=9^9) (disch:=omega) only [wq]|with_reducible refine zM (fun hb=>?_) (fun hb=>?_)<;>try simp only [hb]|with_reducible refine And.intro (by first|omega|(simp;done)|(simp;omega)) ?_|simp (maxSteps:=9^9) -implicitDefEqProofs only [go_sem,true_and]))
 refine sound_loopR (fun x:{k:Nat // k≤ws.length∧ ∀ y∈ws.take k,(s==y)=false}=>⟨[(0,vD (.sl ws.length (ws.map strD))),(1,vD (.v (.string ⟨s.toArray⟩))),(7,vI ws.length),(8,vI x.1)],[]⟩) (fun x=>ws.length-x.1) ⟨0,by simp⟩ [] (by (iterate 2 ((try simp (maxSteps:=9^9) -implicitDefEqProofs only [go_sem,true_and]);(try simp (maxSteps:=9^9) (disch:=omega) only [wq])));try simp) (fun ⟨k,hk,hall⟩=>?_)
 by_cases hlt:k<ws.length
 ·obtain ⟨x,hx⟩: ∃ x,ws[k]?=some x:=⟨_,List.getElem?_eq_getElem hlt⟩
  have hb:decide ((k:Int)<(ws.length:Int))=true:=by simpa using hlt
  have hs:=str_at hx
  cases hq:s==x with
  | true =>
   (repeat' (first|with_reducible (first|refine zA fun Kn hK=>?_|refine zU ?_|refine Nx.go ?_|go_step)|with_reducible (first|refine zI ?_|refine zV ?_)|simp (maxSteps:=9^9) (disch:=omega) only [wq]|with_reducible refine zM (fun hb=>?_) (fun hb=>?_)<;>try simp only [hb]|with_reducible refine And.intro (by first|omega|(simp;done)|(simp;omega)) ?_|simp (maxSteps:=9^9) -implicitDefEqProofs only [go_sem,hb,hs,strD,hq,List.length_map]))
   rw [hit_at hx hq hall]
  | false =>
   (repeat' (first|with_reducible (first|refine zA fun Kn hK=>?_|refine zU ?_|refine Nx.go ?_|go_step)|with_reducible (first|refine zI ?_|refine zV ?_)|simp (maxSteps:=9^9) (disch:=omega) only [wq]|with_reducible refine zM (fun hb=>?_) (fun hb=>?_)<;>try simp only [hb]|with_reducible refine And.intro (by first|omega|(simp;done)|(simp;omega)) ?_|simp (maxSteps:=9^9) -implicitDefEqProofs only [go_sem,hb,hs,strD,hq,List.length_map]))
   refine ⟨[],⟨k+1,hlt,take_more hx hq hall⟩,?_⟩
   (iterate 2 ((try simp (maxSteps:=9^9) -implicitDefEqProofs only [go_sem,true_and]);(try simp (maxSteps:=9^9) (disch:=omega) only [wq])))
   (simp only [ijq,true_and,and_true];first|done|omega|(split<;>omega)|(simp;done)|(simp;omega))
 ·have hb:decide ((k:Int)<(ws.length:Int))=false:=by simpa using hlt
  obtain rfl:k=ws.length:=by omega
  rw [List.take_length] at hall
  (repeat' (first|with_reducible (first|refine zA fun Kn hK=>?_|refine zU ?_|refine Nx.go ?_|go_step)|with_reducible (first|refine zI ?_|refine zV ?_)|simp (maxSteps:=9^9) (disch:=omega) only [wq]|with_reducible refine zM (fun hb=>?_) (fun hb=>?_)<;>try simp only [hb]|with_reducible refine And.intro (by first|omega|(simp;done)|(simp;omega)) ?_|simp (maxSteps:=9^9) -implicitDefEqProofs only [go_sem,hb]))
  rw [hit_no hall]
theorem ranged_m (l:List Tree) (hl:l.length≤100000000) (hd: ∀ x∈l,x.data.length≤1000000000):Spec Tryz.prog G 168 [.c (.sl l.length (l.flatMap treeC))] (outT (rangeT isV l)):=by
 have ht:=want_t (G:=G)
 have hf:=want_f (G:=G)
 have hnames:=names_m (G:=G)
 match l,hl,hd with
 | [],_,_ =>
  rw [show rangeT isV []=none from rfl,outT]
  have d:decide (((([]:List Tree).length:Nat):Int)>0)=false:=rfl
  generalize ([]:List Tree)=L at *
  refine spec_of Tryz.func168 rfl rfl rfl (by kernel_rfl) rfl fun K=>?_
  (repeat' (first|with_reducible (first|refine zA fun Kn hK=>?_|refine zU ?_|refine Nx.go ?_|go_step)|refine ⟨_,hf,?_⟩|with_reducible (first|refine zI ?_|refine zV ?_)|simp (maxSteps:=9^9) (disch:=omega) only [wq]|with_reducible refine zM (fun hb=>?_) (fun hb=>?_)<;>try simp only [hb]|with_reducible refine And.intro (by first|omega|(simp;done)|(simp;omega)) ?_|simp (maxSteps:=9^9) -implicitDefEqProofs only [go_sem,d,bD,bytesD]))
  exact ⟨_,rfl,rfl⟩
 | x :: l, hl, hd =>
  rw [rangeT_eq]
  have hx:(x::l)[0]?=some x:=rfl
  have f0:=flat_at (f:=treeC) treeC_len hx
  simp only [Nat.zero_mul,List.drop_zero] at f0
  have n0:decide (((x::l).length:Int)>0)=true:=by rw [decide_eq_true_iff,List.length_cons];omega
  have n1:(0:Int)<((x::l).length:Int):=by rw [List.length_cons];omega
  have n1':0<(x::l).length:=by rw [List.length_cons];omega
  have n2:1≤(x::l).length:=by rw [List.length_cons];omega
  have dr:=flat_drop (f:=treeC) treeC_len (x::l) 1
  have dl:(x::l).length-1=l.length:=by simp
  have dl2:(((x::l).length:Int)-1)=(l.length:Int):=by rw [List.length_cons];omega
  have hdr:(x::l).drop 1=l:=rfl
  rw [hdr] at dr
  simp only [Nat.one_mul] at dr
  have ho:ordA=strD []::ordW.map strD:=rfl
  have hd1:=hd x (by simp)
  have hd2: ∀ y∈l,y.data.length≤1000000000:=fun y hy=>hd y (by simp [hy])
  have hl2:l.length≤100000000:=by rw [List.length_cons] at hl;omega
  clear hd hdr hx
  generalize x::l=L at *
  cases hxb:x.list||x.hinted with
  | true =>
   have h1:=patom_n (G:=G) x rfl hxb
   rw [findW_no hxb,outT]
   unfold ordA at hnames
   refine spec_of Tryz.func168 rfl rfl rfl (by kernel_rfl) rfl fun K=>?_
   (repeat' (first|with_reducible (first|refine zA fun Kn hK=>?_|refine zU ?_|refine Nx.go ?_|refine zO (by decide +kernel) ?_|refine zP ?_|go_step)|refine ⟨_,ht,?_⟩|refine ⟨_,hnames,?_⟩|refine ⟨_,h1,?_⟩|with_reducible (first|refine zI ?_|refine zV ?_|exact (show logOk _ _=true by kernel_rfl))|simp (maxSteps:=9^9) (disch:=omega) only [wq]|with_reducible refine zM (fun hb=>?_) (fun hb=>?_)<;>try simp only [hb]|with_reducible refine And.intro (by first|omega|(simp;done)|(simp;omega)) ?_|simp (maxSteps:=9^9) -implicitDefEqProofs only [go_sem,n0,n1,n1',f0,ordA,bD,bytesD]))
  | false =>
   have h1:=patom_y (G:=G) x rfl hd1 hxb
   have hi:=indexS_m (G:=G) ordW x.data (by decide)
   rw [findW_yes hxb]
   cases hany:ordW.any (fun w=>x.data==w) with
   | false =>
    rw [if_neg (by simp)]
    dsimp only
    rw [outT]
    unfold hitI at hi
    rw [hany,if_neg (by simp)] at hi
    unfold ordA at hnames
    refine spec_of Tryz.func168 rfl rfl rfl (by kernel_rfl) rfl fun K=>?_
    (repeat' (first|with_reducible (first|refine zA fun Kn hK=>?_|refine zU ?_|refine Nx.go ?_|refine zO (by decide +kernel) ?_|refine zP ?_|go_step)|refine ⟨none,?_⟩|refine ⟨_,ht,?_⟩|refine ⟨_,hnames,?_⟩|refine ⟨_,h1,?_⟩|refine ⟨_,hi,?_⟩|refine ⟨_,hf,?_⟩|with_reducible (first|refine zI ?_|refine zV ?_|exact (show logOk _ _=true by kernel_rfl))|simp (maxSteps:=9^9) (disch:=omega) only [wq]|with_reducible refine zM (fun hb=>?_) (fun hb=>?_)<;>try simp only [hb]|with_reducible refine And.intro (by first|omega|(simp;done)|(simp;omega)) ?_|simp (maxSteps:=9^9) -implicitDefEqProofs only [go_sem,n0,n1,n1',f0,ordA,bD,bytesD]))
    all_goals first|exact ⟨_,rfl,rfl⟩|trace_state
   | true =>
    rw [if_pos rfl]
    dsimp only
    unfold hitI at hi
    rw [hany,if_pos rfl] at hi
    have hj:ordW.findIdx (fun w=>x.data==w)<5:=List.findIdx_lt_length_of_exists (by simpa using hany)
    generalize ordW.findIdx (fun w=>x.data==w)=j at *
    have hO:((UInt8.ofNat (1+j)).toNat:Int)=(j:Int)+1:=by
     rw [UInt8.toNat_ofNat_of_lt' (by simp only [UInt8.size];omega)]
     omega
    generalize UInt8.ofNat (1+j)=o at *
    have hj0:decide ((j:Int)≥0)=true:=by simp
    have e1:=ends_m (G:=G) l wG (by decide) hl2 hd2
    unfold ends2
    cases hE1:endP l wG with
    | none =>
     rw [hE1,endsO] at e1
     dsimp only
     rw [outT]
     unfold ordA at hnames
     unfold wG at e1
     refine spec_of Tryz.func168 rfl rfl rfl (by kernel_rfl) rfl fun K=>?_
     (repeat' (first|with_reducible (first|refine zA fun Kn hK=>?_|refine zU ?_|refine Nx.go ?_|refine zO (by decide +kernel) ?_|refine zP ?_|go_step)|refine ⟨none,?_⟩|refine ⟨_,ht,?_⟩|refine ⟨_,hnames,?_⟩|refine ⟨_,h1,?_⟩|refine ⟨_,hi,?_⟩|refine ⟨_,e1,?_⟩|with_reducible (first|refine zI ?_|refine zV ?_|exact (show logOk _ _=true by kernel_rfl))|simp (maxSteps:=9^9) (disch:=omega) only [wq]|with_reducible refine zM (fun hb=>?_) (fun hb=>?_)<;>try simp only [hb]|with_reducible refine And.intro (by first|omega|(simp;done)|(simp;omega)) ?_|simp (maxSteps:=9^9) -implicitDefEqProofs only [go_sem,n0,n1,n1',n2,dr,dl,dl2,f0,hj0,ordA,bD,bytesD]))
     all_goals first|exact ⟨_,rfl,rfl⟩|trace_state
    | some p =>
     obtain ⟨lo,l1⟩:=p
     rw [hE1,endsO] at e1
     obtain ⟨t1,t2,t3⟩:=endT_sub (endP_eq hE1)
     have e2:=ends_m (G:=G) l1 wL (by decide) (by omega) (fun y hy=>hd2 y (t2 y hy))
     dsimp only
     unfold wG at e1
     unfold wL at e2
     unfold bdD at e1
     unfold ordA at hnames
     cases hE2:endP l1 wL with
     | none =>
      unfold wL at hE2
      rw [hE2,endsO] at e2
      dsimp only
      rw [outT]
      refine spec_of Tryz.func168 rfl rfl rfl (by kernel_rfl) rfl fun K=>?_
      (repeat' (first|with_reducible (first|refine zA fun Kn hK=>?_|refine zU ?_|refine Nx.go ?_|refine zO (by decide +kernel) ?_|refine zP ?_|go_step)|refine ⟨none,?_⟩|refine ⟨_,ht,?_⟩|refine ⟨_,hnames,?_⟩|refine ⟨_,h1,?_⟩|refine ⟨_,hi,?_⟩|refine ⟨_,e1,?_⟩|refine ⟨_,e2,?_⟩|with_reducible (first|refine zI ?_|refine zV ?_|exact (show logOk _ _=true by kernel_rfl))|simp (maxSteps:=9^9) (disch:=omega) only [wq]|with_reducible refine zM (fun hb=>?_) (fun hb=>?_)<;>try simp only [hb]|with_reducible refine And.intro (by first|omega|(simp;done)|(simp;omega)) ?_|simp (maxSteps:=9^9) -implicitDefEqProofs only [go_sem,n0,n1,n1',n2,dr,dl,dl2,f0,hj0,ordA,bD,bytesD]))
      all_goals first|exact ⟨_,rfl,rfl⟩|trace_state
     | some p =>
      obtain ⟨hi2,l2⟩:=p
      obtain ⟨u1,u2,u3⟩:=endT_sub (endP_eq hE2)
      unfold wL at hE2
      rw [hE2,endsO] at e2
      unfold bdD at e2
      have txt: ∀ (b:Bd) (k:List Tree),(∀ y∈k,y.data.length≤1000000000)→(b.txt=[]∨ ∃ y∈k,b.txt=y.data)→b.txt.length≤1000000000:=fun b k hk h=>by
       rcases h with h|⟨y,hy,h⟩<;>rw [h]
       ·simp
       ·exact hk y hy
      have hm:=may11_m (G:=G) o lo hi2 (txt lo l hd2 t1) (txt hi2 l1 (fun y hy=>hd2 y (t2 y hy)) u1)
      clear txt t1 t2 t3 u1 u2 u3 hE1 hE2
      have e0:=len0_empty l2
      unfold bdD bD at hm
      rw [hO] at hm
      dsimp only
      cases hz:emptyL l2 with
      | false =>
       rw [hz] at e0
       rw [if_neg (by simp)]
       dsimp only
       rw [outT]
       refine spec_of Tryz.func168 rfl rfl rfl (by kernel_rfl) rfl fun K=>?_
       (repeat' (first|with_reducible (first|refine zA fun Kn hK=>?_|refine zU ?_|refine Nx.go ?_|refine zO (by decide +kernel) ?_|refine zP ?_|go_step)|refine ⟨none,?_⟩|refine ⟨_,ht,?_⟩|refine ⟨_,hnames,?_⟩|refine ⟨_,h1,?_⟩|refine ⟨_,hi,?_⟩|refine ⟨_,e1,?_⟩|refine ⟨_,e2,?_⟩|refine ⟨_,hf,?_⟩|with_reducible (first|refine zI ?_|refine zV ?_|exact (show logOk _ _=true by kernel_rfl))|simp (maxSteps:=9^9) (disch:=omega) only [wq]|with_reducible refine zM (fun hb=>?_) (fun hb=>?_)<;>try simp only [hb]|with_reducible refine And.intro (by first|omega|(simp;done)|(simp;omega)) ?_|simp (maxSteps:=9^9) -implicitDefEqProofs only [go_sem,n0,n1,n1',n2,dr,dl,dl2,f0,hj0,ordA,bD,bytesD,e0]))
       all_goals first|exact ⟨_,rfl,rfl⟩|trace_state
      | true =>
       rw [hz] at e0
       rw [if_pos rfl]
       dsimp only
       cases hq:mayR isV o lo hi2 with
       | false =>
        rw [hq] at hm
        rw [if_neg (by simp),outT]
        refine spec_of Tryz.func168 rfl rfl rfl (by kernel_rfl) rfl fun K=>?_
        (repeat' (first|with_reducible (first|refine zA fun Kn hK=>?_|refine zU ?_|refine Nx.go ?_|refine zO (by decide +kernel) ?_|refine zP ?_|go_step)|refine ⟨none,?_⟩|refine ⟨_,ht,?_⟩|refine ⟨_,hnames,?_⟩|refine ⟨_,h1,?_⟩|refine ⟨_,hi,?_⟩|refine ⟨_,e1,?_⟩|refine ⟨_,e2,?_⟩|refine ⟨_,hm,?_⟩|refine ⟨_,hf,?_⟩|with_reducible (first|refine zI ?_|refine zV ?_|exact (show logOk _ _=true by kernel_rfl))|simp (maxSteps:=9^9) (disch:=omega) only [wq]|with_reducible refine zM (fun hb=>?_) (fun hb=>?_)<;>try simp only [hb]|with_reducible refine And.intro (by first|omega|(simp;done)|(simp;omega)) ?_|simp (maxSteps:=9^9) -implicitDefEqProofs only [go_sem,n0,n1,n1',n2,dr,dl,dl2,f0,hj0,ordA,bD,bytesD,e0]))
        all_goals first|exact ⟨_,rfl,rfl⟩|trace_state
       | true =>
        rw [hq] at hm
        rw [if_pos rfl,outT,tagC_mk]
        unfold bD
        rw [hO]
        refine spec_of Tryz.func168 rfl rfl rfl (by kernel_rfl) rfl fun K=>?_
        (repeat' (first|with_reducible (first|refine zA fun Kn hK=>?_|refine zU ?_|refine Nx.go ?_|refine zO (by decide +kernel) ?_|refine zP ?_|go_step)|refine ⟨none,?_⟩|refine ⟨_,ht,?_⟩|refine ⟨_,hnames,?_⟩|refine ⟨_,h1,?_⟩|refine ⟨_,hi,?_⟩|refine ⟨_,e1,?_⟩|refine ⟨_,e2,?_⟩|refine ⟨_,hm,?_⟩|refine ⟨_,hf,?_⟩|with_reducible (first|refine zI ?_|refine zV ?_|exact (show logOk _ _=true by kernel_rfl))|simp (maxSteps:=9^9) (disch:=omega) only [wq]|with_reducible refine zM (fun hb=>?_) (fun hb=>?_)<;>try simp only [hb]|with_reducible refine And.intro (by first|omega|(simp;done)|(simp;omega)) ?_|simp (maxSteps:=9^9) -implicitDefEqProofs only [go_sem,n0,n1,n1',n2,dr,dl,dl2,f0,hj0,ordA,bD,bytesD,e0]))
        all_goals first|rfl|trace_state
end
theorem same_isB {x:Tree} (hx:x.clean=true) (s:List UInt8):x.same (atomT s)=isB x s:=by
 rw [Bool.eq_iff_iff,isB_iff (clean_fair hx)]
 exact ⟨fun h=>same_of h,fun h=>same_t h⟩
section
variable {G:Nat→Option (List D)}
theorem ptags_w (f:Tree→Option Tg) (l:List Tree) (hl:l.length≤100000000) (ih: ∀ x∈l,Spec Tryz.prog G 124 [.g (treeC x)] (outT (f x))) :
  Spec Tryz.prog G 146 [.c (.sl l.length (l.flatMap treeC))] (outL (allSome (l.map f))):=by
 have hP:=preS_len (f:=f) (l:=l)
 have s1: ∀ {k x y},k≤(preS (l.map f)).length→l[k]?=some x→f x=some y→(preS (l.map f))[k]?=some y:=preS_step
 have s2: ∀ {k x},k≤(preS (l.map f)).length→l[k]?=some x→f x=none→(preS (l.map f)).length=k∧allSome (l.map f)=none:=preS_stop
 have s3:=preS_all (f:=f) (l:=l)
 generalize allSome (l.map f)=A at *
 generalize preS (l.map f)=P at *
 refine spec_of Tryz.func146 rfl rfl rfl (by kernel_rfl) (by cases A<;>rfl) fun K=>?_
 (repeat' (first|with_reducible (first|refine zA fun Kn hK=>?_|refine zU ?_|refine Nx.go ?_|go_step)|with_reducible (first|refine zI ?_|refine zV ?_)|simp (maxSteps:=9^9) (disch:=omega) only [wq]|with_reducible refine zM (fun hb=>?_) (fun hb=>?_)<;>try simp only [hb]|with_reducible refine And.intro (by first|omega|(simp;done)|(simp;omega)) ?_|simp (maxSteps:=9^9) -implicitDefEqProofs only [go_sem,true_and]))
 refine sound_void 3 1000 10 35 (by rfl) (by rfl) ?_
 refine sound_loopR (fun x:{k:Nat // k≤l.length∧k≤P.length}=>⟨[(3,vR 1000 10 x.1),(6,vD (.sl l.length (l.flatMap treeC))),(7,vI l.length),(8,vI x.1)],[(1000,some ⟨35,((P.take x.1).flatMap tagC).map C.d,false,false⟩)]⟩) (fun x=>l.length-x.1) ⟨0,by omega⟩ [] (by (iterate 2 ((try simp (maxSteps:=9^9) -implicitDefEqProofs only [go_sem,AObj.trim,List.take_zero,List.flatMap_nil,List.map_nil]);(try simp (maxSteps:=9^9) (disch:=omega) only [wq])));try simp) (fun ⟨k,hk,hkP⟩=>?_)
 by_cases hlt:k<l.length
 ·obtain ⟨x,hx⟩: ∃ x,l[k]?=some x:=⟨_,List.getElem?_eq_getElem hlt⟩
  have hb:decide ((k:Int)<(l.length:Int))=true:=by simpa using hlt
  have hsp:=ih x (List.mem_of_getElem? hx)
  have hlen:((P.take k).flatMap tagC).length=k*10:=by rw [tagC_flen,List.length_take,Nat.min_eq_left hkP]
  cases hf:f x with
  | none =>
   obtain ⟨e1,e2⟩:=s2 hkP hx hf
   rw [hf,outT] at hsp
   (repeat' (first|with_reducible (first|refine zA fun Kn hK=>?_|refine zU ?_|refine Nx.go ?_|go_step)|refine ⟨_,hsp,?_⟩|with_reducible (first|refine zI ?_|refine zV ?_)|simp (maxSteps:=9^9) (disch:=omega) only [wq]|with_reducible refine zM (fun hb=>?_) (fun hb=>?_)<;>try simp only [hb]|with_reducible refine And.intro (by first|omega|(simp;done)|(simp;omega)) ?_|simp (maxSteps:=9^9) -implicitDefEqProofs only [go_sem,hb,hlen,List.length_map,true_and,flat_at treeC_len hx,bD,bytesD]))
   rw [e2]
   exact ⟨_,rfl,rfl⟩
  | some t =>
   have hPk:=s1 hkP hx hf
   rw [hf,outT] at hsp
   have htt:=tagC_eq t
   have ht:(P.take (k+1)).flatMap tagC=(P.take k).flatMap tagC++tagC t:=by
    rw [List.take_add_one,hPk,List.flatMap_append]
    simp
   rw [htt] at hsp ht
   generalize (P.take k).flatMap tagC=W at *
   (repeat' (first|with_reducible (first|refine zA fun Kn hK=>?_|refine zU ?_|refine Nx.go ?_|go_step)|refine ⟨_,hsp,?_⟩|with_reducible (first|refine zI ?_|refine zV ?_)|simp (maxSteps:=9^9) (disch:=omega) only [wq]|with_reducible refine zM (fun hb=>?_) (fun hb=>?_)<;>try simp only [hb]|with_reducible refine And.intro (by first|omega|(simp;done)|(simp;omega)) ?_|simp (maxSteps:=9^9) -implicitDefEqProofs only [go_sem,hb,rep1,hlen,List.length_map,true_and,Nat.le_refl,List.append_nil,flat_at treeC_len hx,bD,bytesD]))
   refine ⟨[(1000,16)],⟨k+1,hlt,len_pos hPk⟩,?_⟩
   rw [ht]
   (iterate 2 ((try simp (maxSteps:=9^9) -implicitDefEqProofs only [go_sem,bD]);(try simp (maxSteps:=9^9) (disch:=omega) only [wq])))
   (simp only [ijq,true_and,and_true];first|done|omega|(split<;>omega)|(simp;done)|(simp;omega))
 ·have hb:decide ((k:Int)<(l.length:Int))=false:=by simpa using hlt
  obtain rfl:k=l.length:=by omega
  have hPl:P.length=l.length:=by omega
  have hA:=s3 hkP
  have hT:P.take l.length=P:=by rw [← hPl,List.take_length]
  have hlen:(P.flatMap tagC).length=l.length*10:=by rw [tagC_flen,hPl]
  simp only [hT]
  (repeat' (first|with_reducible (first|refine zA fun Kn hK=>?_|refine zU ?_|refine Nx.go ?_|go_step)|with_reducible (first|refine zI ?_|refine zV ?_)|simp (maxSteps:=9^9) (disch:=omega) only [wq]|with_reducible refine zM (fun hb=>?_) (fun hb=>?_)<;>try simp only [hb]|with_reducible refine And.intro (by first|omega|(simp;done)|(simp;omega)) ?_|simp (maxSteps:=9^9) -implicitDefEqProofs only [go_sem,hb,hlen,List.length_map]))
  rw [hA,outL,hPl]
theorem starts_m (v:Tree) {cs:List D} (hcs:treeC v=cs) (hw:v.wt≤30000000) (hc:v.clean=true):Spec Tryz.prog G 144 [.g cs] (.one (.c (.v (.bool (headB v wStar))))):=by
 subst hcs
 have ha:=atom_m (G:=G) wStar (by decide)
 have hal:=treeC_eq (.mk false false [] wStar [])
 rw [treeC_eq]
 cases hl:v.list with
 | false =>
  have hh:headB v wStar=false:=by unfold headB;rw [hl];rfl
  rw [hh]
  refine spec_of Tryz.func144 rfl rfl rfl (by kernel_rfl) rfl fun K=>?_
  (repeat' (first|with_reducible (first|refine zA fun Kn hK=>?_|refine zU ?_|refine Nx.go ?_|go_step)|with_reducible (first|refine zI ?_|refine zV ?_)|simp (maxSteps:=9^9) (disch:=omega) only [wq]|with_reducible refine zM (fun hb=>?_) (fun hb=>?_)<;>try simp only [hb]|with_reducible refine And.intro (by first|omega|(simp;done)|(simp;omega)) ?_|simp (maxSteps:=9^9) -implicitDefEqProofs only [go_sem,Bool.false_and]))
 | true =>
  by_cases hk:v.kids=[]
  ·have hh:headB v wStar=false:=by unfold headB;rw [hl,hk];rfl
   have d:decide ((v.kids.length:Int)>0)=false:=by rw [hk];rfl
   rw [hh]
   refine spec_of Tryz.func144 rfl rfl rfl (by kernel_rfl) rfl fun K=>?_
   (repeat' (first|with_reducible (first|refine zA fun Kn hK=>?_|refine zU ?_|refine Nx.go ?_|go_step)|with_reducible (first|refine zI ?_|refine zV ?_)|simp (maxSteps:=9^9) (disch:=omega) only [wq]|with_reducible refine zM (fun hb=>?_) (fun hb=>?_)<;>try simp only [hb]|with_reducible refine And.intro (by first|omega|(simp;done)|(simp;omega)) ?_|simp (maxSteps:=9^9) -implicitDefEqProofs only [go_sem,d,Bool.false_and]))
  ·obtain ⟨x,l,hkc⟩:=List.exists_cons_of_ne_nil hk
   have hh:headB v wStar=isB x wStar:=by unfold headB;rw [hl,hkc];rfl
   have hxm:x∈v.kids:=by rw [hkc];simp
   have hs:=same_m (G:=G) x (atomT wStar) _ _ rfl rfl (by have:=Tree.wt_kid hxm;omega)
   rw [same_isB (kid_clean hc hxm)] at hs
   have d:decide ((v.kids.length:Int)>0)=true:=by rw [hkc,List.length_cons];simp
   have n1:(0:Int)<(v.kids.length:Int):=by rw [hkc,List.length_cons];omega
   have n1':0<v.kids.length:=by omega
   have hx:v.kids[0]?=some x:=by rw [hkc];rfl
   have f0:=flat_at (f:=treeC) treeC_len hx
   simp only [Nat.zero_mul,List.drop_zero] at f0
   rw [hh]
   unfold atomT at hs
   rw [hal] at ha hs
   unfold wStar at *
   clear hh hkc
   refine spec_of Tryz.func144 rfl rfl rfl (by kernel_rfl) rfl fun K=>?_
   (repeat' (first|with_reducible (first|refine zA fun Kn hK=>?_|refine zU ?_|refine Nx.go ?_|go_step)|refine ⟨_,ha,?_⟩|refine ⟨_,hs,?_⟩|with_reducible (first|refine zI ?_|refine zV ?_)|simp (maxSteps:=9^9) (disch:=omega) only [wq]|with_reducible refine zM (fun hb=>?_) (fun hb=>?_)<;>try simp only [hb]|with_reducible refine And.intro (by first|omega|(simp;done)|(simp;omega)) ?_|simp (maxSteps:=9^9) -implicitDefEqProofs only [go_sem,d,n1,n1',f0,decide_true,Bool.true_and]))
theorem starred_w (l:List Tree) (sub:Option (List Tg)) (hl:l.length≤100000000) (hd: ∀ x∈l,x.data.length≤1000000000)
  (hs:Spec Tryz.prog G 146 [.c (.sl (l.drop 1).length ((l.drop 1).flatMap treeC))] (outL sub)):Spec Tryz.prog G 145 [.c (.sl l.length (l.flatMap treeC))] (outT (starT isV l sub)):=by
 have ht:=want_t (G:=G)
 have hf:=want_f (G:=G)
 match l,hl,hd,hs with
 | [],_,_,_ =>
  rw [show starT isV [] sub=some (kTg 1 []) from rfl,outT,kTg,tagC_mk]
  have d:(((([]:List Tree).length:Nat):Int)==0)=true:=rfl
  generalize ([]:List Tree)=L at *
  refine spec_of Tryz.func145 rfl rfl rfl (by kernel_rfl) rfl fun K=>?_
  (repeat' (first|with_reducible (first|refine zA fun Kn hK=>?_|refine zU ?_|refine Nx.go ?_|go_step)|with_reducible (first|refine zI ?_|refine zV ?_)|simp (maxSteps:=9^9) (disch:=omega) only [wq]|with_reducible refine zM (fun hb=>?_) (fun hb=>?_)<;>try simp only [hb]|with_reducible refine And.intro (by first|omega|(simp;done)|(simp;omega)) ?_|simp (maxSteps:=9^9) -implicitDefEqProofs only [go_sem,d,bD,bytesD,Bd.none]))
  rfl
 | x :: l, hl,hd,hs =>
  have hx:(x::l)[0]?=some x:=rfl
  have f0:=flat_at (f:=treeC) treeC_len hx
  simp only [Nat.zero_mul,List.drop_zero] at f0
  have n0:(((x::l).length:Int)==0)=false:=by rw [beq_eq_false_iff_ne,List.length_cons];omega
  have n1:(0:Int)<((x::l).length:Int):=by rw [List.length_cons];omega
  have n1':0<(x::l).length:=by rw [List.length_cons];omega
  have n2:1≤(x::l).length:=by rw [List.length_cons];omega
  have dr:=flat_drop (f:=treeC) treeC_len (x::l) 1
  have dl:(x::l).length-1=l.length:=by simp
  have dl2:(((x::l).length:Int)-1)=(l.length:Int):=by rw [List.length_cons];omega
  have hdr:(x::l).drop 1=l:=rfl
  rw [hdr] at dr hs
  simp only [Nat.one_mul] at dr
  have hd2: ∀ y∈l,y.data.length≤1000000000:=fun y hy=>hd y (by simp [hy])
  have hl2:l.length≤100000000:=by rw [List.length_cons] at hl;omega
  have hr:=ranged_m (G:=G) l hl2 hd2
  have hst:starT isV (x::l) sub=if isB x wSet then sub.map (kTg 4) else if isB x wPrefix then prefT l else if isB x wRange then rangeT isV l else none:=rfl
  rw [hst]
  clear hst
  cases hxb:x.list||x.hinted with
  | true =>
   have h1:=patom_n (G:=G) x rfl hxb
   rw [isB_no hxb,isB_no hxb,isB_no hxb]
   simp only [Bool.false_eq_true,if_false,outT]
   generalize x::l=L at *
   refine spec_of Tryz.func145 rfl rfl rfl (by kernel_rfl) rfl fun K=>?_
   (repeat' (first|with_reducible (first|refine zA fun Kn hK=>?_|refine zU ?_|refine Nx.go ?_|go_step)|refine ⟨_,h1,?_⟩|with_reducible (first|refine zI ?_|refine zV ?_)|simp (maxSteps:=9^9) (disch:=omega) only [wq]|with_reducible refine zM (fun hb=>?_) (fun hb=>?_)<;>try simp only [hb]|with_reducible refine And.intro (by first|omega|(simp;done)|(simp;omega)) ?_|simp (maxSteps:=9^9) -implicitDefEqProofs only [go_sem,n0,n1,n1',f0,bD,bytesD]))
   exact ⟨_,rfl,rfl⟩
  | false =>
   have h1:=patom_y (G:=G) x rfl (hd x (by simp)) hxb
   rw [isB_yes hxb,isB_yes hxb,isB_yes hxb]
   cases q1:x.data==wSet with
   | true =>
    rw [if_pos rfl]
    unfold wSet at q1
    generalize x::l=L at *
    cases sub with
    | none =>
     rw [outL] at hs
     rw [show Option.map (kTg 4) none=none from rfl,outT]
     refine spec_of Tryz.func145 rfl rfl rfl (by kernel_rfl) rfl fun K=>?_
     (repeat' (first|with_reducible (first|refine zA fun Kn hK=>?_|refine zU ?_|refine Nx.go ?_|go_step)|refine ⟨_,h1,?_⟩|refine ⟨_,hs,?_⟩|with_reducible (first|refine zI ?_|refine zV ?_)|simp (maxSteps:=9^9) (disch:=omega) only [wq]|with_reducible refine zM (fun hb=>?_) (fun hb=>?_)<;>try simp only [hb]|with_reducible refine And.intro (by first|omega|(simp;done)|(simp;omega)) ?_|simp (maxSteps:=9^9) -implicitDefEqProofs only [go_sem,n0,n1,n1',n2,dr,dl,dl2,f0,q1,bD,bytesD]))
     exact ⟨_,rfl,rfl⟩
    | some k =>
     rw [outL] at hs
     rw [show Option.map (kTg 4) (some k)=some (kTg 4 k) from rfl,outT,kTg,tagC_mk]
     refine spec_of Tryz.func145 rfl rfl rfl (by kernel_rfl) rfl fun K=>?_
     (repeat' (first|with_reducible (first|refine zA fun Kn hK=>?_|refine zU ?_|refine Nx.go ?_|go_step)|refine ⟨_,h1,?_⟩|refine ⟨_,hs,?_⟩|with_reducible (first|refine zI ?_|refine zV ?_)|simp (maxSteps:=9^9) (disch:=omega) only [wq]|with_reducible refine zM (fun hb=>?_) (fun hb=>?_)<;>try simp only [hb]|with_reducible refine And.intro (by first|omega|(simp;done)|(simp;omega)) ?_|simp (maxSteps:=9^9) -implicitDefEqProofs only [go_sem,n0,n1,n1',n2,dr,dl,dl2,f0,q1,bD,bytesD,Bd.none]))
     rfl
   | false =>
    rw [if_neg (by simp)]
    unfold wSet at q1
    cases q2:x.data==wPrefix with
    | true =>
     rw [if_pos rfl]
     unfold wPrefix at q2
     match l,hl,hd,hs,hr,hd2,hl2,n0,n1,n1',n2,f0,dr,dl,dl2,hdr,hx with
     | [],hl,hd,hs,hr,hd2,hl2,n0,n1,n1',n2,f0,dr,dl,dl2,hdr,hx =>
      rw [show prefT []=none from rfl,outT]
      have d:((([x]:List Tree).length:Int)==2)=false:=rfl
      generalize [x]=L at *
      refine spec_of Tryz.func145 rfl rfl rfl (by kernel_rfl) rfl fun K=>?_
      (repeat' (first|with_reducible (first|refine zA fun Kn hK=>?_|refine zU ?_|refine Nx.go ?_|go_step)|refine ⟨_,h1,?_⟩|refine ⟨_,hf,?_⟩|with_reducible (first|refine zI ?_|refine zV ?_)|simp (maxSteps:=9^9) (disch:=omega) only [wq]|with_reducible refine zM (fun hb=>?_) (fun hb=>?_)<;>try simp only [hb]|with_reducible refine And.intro (by first|omega|(simp;done)|(simp;omega)) ?_|simp (maxSteps:=9^9) -implicitDefEqProofs only [go_sem,n0,n1,n1',d,f0,q1,q2,bD,bytesD]))
      exact ⟨_,rfl,rfl⟩
     | [y],hl,hd,hs,hr,hd2,hl2,n0,n1,n1',n2,f0,dr,dl,dl2,hdr,hx =>
      have hy:[x,y][1]?=some y:=rfl
      have f1:=flat_at (f:=treeC) treeC_len hy
      simp only [Nat.one_mul] at f1
      have d:((([x,y]:List Tree).length:Int)==2)=true:=rfl
      have m1:(1:Int)<(([x,y]:List Tree).length:Int):=by simp
      have m1':1<([x,y]:List Tree).length:=by simp
      rw [show prefT [y]=if y.list||y.hinted then none else some (.mk 5 y.data [] 0 Bd.none Bd.none) from rfl]
      cases hyb:y.list||y.hinted with
      | true =>
       have h2:=patom_n (G:=G) y rfl hyb
       rw [if_pos rfl,outT]
       generalize [x,y]=L at *
       refine spec_of Tryz.func145 rfl rfl rfl (by kernel_rfl) rfl fun K=>?_
       (repeat' (first|with_reducible (first|refine zA fun Kn hK=>?_|refine zU ?_|refine Nx.go ?_|go_step)|refine ⟨_,h1,?_⟩|refine ⟨_,ht,?_⟩|refine ⟨_,h2,?_⟩|with_reducible (first|refine zI ?_|refine zV ?_)|simp (maxSteps:=9^9) (disch:=omega) only [wq]|with_reducible refine zM (fun hb=>?_) (fun hb=>?_)<;>try simp only [hb]|with_reducible refine And.intro (by first|omega|(simp;done)|(simp;omega)) ?_|simp (maxSteps:=9^9) -implicitDefEqProofs only [go_sem,n0,n1,n1',m1,m1',d,f0,f1,q1,q2,bD,bytesD]))
       exact ⟨_,rfl,rfl⟩
      | false =>
       have h2:=patom_y (G:=G) y rfl (hd2 y (by simp)) hyb
       rw [if_neg (by simp),outT,tagC_mk]
       generalize [x,y]=L at *
       refine spec_of Tryz.func145 rfl rfl rfl (by kernel_rfl) rfl fun K=>?_
       (repeat' (first|with_reducible (first|refine zA fun Kn hK=>?_|refine zU ?_|refine Nx.go ?_|go_step)|refine ⟨_,h1,?_⟩|refine ⟨_,ht,?_⟩|refine ⟨_,h2,?_⟩|with_reducible (first|refine zI ?_|refine zV ?_)|simp (maxSteps:=9^9) (disch:=omega) only [wq]|with_reducible refine zM (fun hb=>?_) (fun hb=>?_)<;>try simp only [hb]|with_reducible refine And.intro (by first|omega|(simp;done)|(simp;omega)) ?_|simp (maxSteps:=9^9) -implicitDefEqProofs only [go_sem,n0,n1,n1',m1,m1',d,f0,f1,q1,q2,bD,bytesD,Bd.none]))
       rfl
     | y::z::l,hl,hd,hs,hr,hd2,hl2,n0,n1,n1',n2,f0,dr,dl,dl2,hdr,hx =>
      rw [show prefT (y::z::l)=none from rfl,outT]
      have d:(((x::y::z::l:List Tree).length:Int)==2)=false:=by rw [beq_eq_false_iff_ne,List.length_cons,List.length_cons,List.length_cons];omega
      generalize x::y::z::l=L at *
      refine spec_of Tryz.func145 rfl rfl rfl (by kernel_rfl) rfl fun K=>?_
      (repeat' (first|with_reducible (first|refine zA fun Kn hK=>?_|refine zU ?_|refine Nx.go ?_|go_step)|refine ⟨_,h1,?_⟩|refine ⟨_,hf,?_⟩|with_reducible (first|refine zI ?_|refine zV ?_)|simp (maxSteps:=9^9) (disch:=omega) only [wq]|with_reducible refine zM (fun hb=>?_) (fun hb=>?_)<;>try simp only [hb]|with_reducible refine And.intro (by first|omega|(simp;done)|(simp;omega)) ?_|simp (maxSteps:=9^9) -implicitDefEqProofs only [go_sem,n0,n1,n1',d,f0,q1,q2,bD,bytesD]))
      exact ⟨_,rfl,rfl⟩
    | false =>
     rw [if_neg (by simp)]
     unfold wPrefix at q2
     cases q3:x.data==wRange with
     | true =>
      rw [if_pos rfl]
      unfold wRange at q3
      generalize x::l=L at *
      generalize rangeT isV l=o at *
      cases o with
      | none =>
       dsimp only [outT] at hr ⊢
       refine spec_of Tryz.func145 rfl rfl rfl (by kernel_rfl) rfl fun K=>?_
       (repeat' (first|with_reducible (first|refine zA fun Kn hK=>?_|refine zU ?_|refine Nx.go ?_|go_step)|refine ⟨_,h1,?_⟩|refine ⟨_,hr,?_⟩|with_reducible (first|refine zI ?_|refine zV ?_)|simp (maxSteps:=9^9) (disch:=omega) only [wq]|with_reducible refine zM (fun hb=>?_) (fun hb=>?_)<;>try simp only [hb]|with_reducible refine And.intro (by first|omega|(simp;done)|(simp;omega)) ?_|simp (maxSteps:=9^9) -implicitDefEqProofs only [go_sem,n0,n1,n1',n2,dr,dl,dl2,f0,q1,q2,q3,bD,bytesD]))
       exact ⟨_,rfl,rfl⟩
      | some t =>
       dsimp only [outT] at hr ⊢
       rw [tagC_eq] at hr ⊢
       refine spec_of Tryz.func145 rfl rfl rfl (by kernel_rfl) rfl fun K=>?_
       (repeat' (first|with_reducible (first|refine zA fun Kn hK=>?_|refine zU ?_|refine Nx.go ?_|go_step)|refine ⟨_,h1,?_⟩|refine ⟨_,hr,?_⟩|with_reducible (first|refine zI ?_|refine zV ?_)|simp (maxSteps:=9^9) (disch:=omega) only [wq]|with_reducible refine zM (fun hb=>?_) (fun hb=>?_)<;>try simp only [hb]|with_reducible refine And.intro (by first|omega|(simp;done)|(simp;omega)) ?_|simp (maxSteps:=9^9) -implicitDefEqProofs only [go_sem,n0,n1,n1',n2,dr,dl,dl2,f0,q1,q2,q3,bD,bytesD]))
       try rfl
     | false =>
      rw [if_neg (by simp),outT]
      unfold wRange at q3
      generalize x::l=L at *
      refine spec_of Tryz.func145 rfl rfl rfl (by kernel_rfl) rfl fun K=>?_
      (repeat' (first|with_reducible (first|refine zA fun Kn hK=>?_|refine zU ?_|refine Nx.go ?_|go_step)|refine ⟨_,h1,?_⟩|with_reducible (first|refine zI ?_|refine zV ?_)|simp (maxSteps:=9^9) (disch:=omega) only [wq]|with_reducible refine zM (fun hb=>?_) (fun hb=>?_)<;>try simp only [hb]|with_reducible refine And.intro (by first|omega|(simp;done)|(simp;omega)) ?_|simp (maxSteps:=9^9) -implicitDefEqProofs only [go_sem,n0,n1,n1',f0,q1,q2,q3,ni_none,valsOf,bD,bytesD]))
      exact ⟨_,rfl,rfl⟩
theorem pget_m: ∀ v:Tree,∀ cs:List D,treeC v=cs→v.wt≤30000000→v.clean=true→Spec Tryz.prog G 124 [.g cs] (outT (getT isV v)):=Tree.ind fun v ih cs hcs hw hc=>by
 subst hcs
 have hst:=starts_m (G:=G) v rfl hw hc
 have h5:=v.wt_kids
 have hd: ∀ x∈v.kids,x.data.length≤1000000000:=fun x hx=>by
  have h1:=Tree.wt_kid hx
  have h2:=Tree.wt_data x
  omega
 have htg: ∀ k,Spec Tryz.prog G 146 [.c (.sl (v.kids.drop k).length ((v.kids.drop k).flatMap treeC))] (outL (allSome ((v.kids.drop k).map (getT isV)))):=fun k=>by
  refine ptags_w (getT isV) (v.kids.drop k) (by rw [List.length_drop];omega) fun x hx=>?_
  have hx:=List.mem_of_mem_drop hx
  exact ih x hx _ rfl (by have:=Tree.wt_kid hx;omega) (kid_clean hc hx)
 rw [getT_eq]
 have ev:=treeC_eq v
 cases hh:headB v wStar with
 | true =>
  have hl:v.list=true:=by
   unfold headB at hh
   rw [Bool.and_eq_true] at hh
   exact hh.1
  rw [hl,if_pos rfl,if_pos rfl]
  have hk:v.kids≠[]:=fun e=>by
   unfold headB at hh
   rw [e] at hh
   simp at hh
  have n2:1≤v.kids.length:=List.length_pos_iff.2 hk
  have hs:=starred_w (G:=G) (v.kids.drop 1) (allSome ((v.kids.map (getT isV)).drop 2)) (by rw [List.length_drop];omega) (fun x hx=>hd x (List.mem_of_mem_drop hx)) (by
   have:=htg 2
   rw [List.map_drop] at this
   rw [List.drop_drop]
   exact this)
  have dr:=flat_drop (f:=treeC) treeC_len v.kids 1
  have dl:v.kids.length-1=(v.kids.drop 1).length:=by rw [List.length_drop]
  have dl2:((v.kids.length:Int)-1)=((v.kids.drop 1).length:Int):=by rw [List.length_drop];omega
  simp only [Nat.one_mul] at dr
  generalize starT isV (v.kids.drop 1) (allSome ((v.kids.map (getT isV)).drop 2))=o at *
  generalize v.kids.drop 1=M at *
  rw [ev,hl] at hst ⊢
  rw [hh] at hst
  clear hh ih hd htg hc
  cases o with
  | none =>
   dsimp only [outT] at hs ⊢
   refine spec_of Tryz.func124 rfl rfl rfl (by kernel_rfl) rfl fun K=>?_
   (repeat' (first|with_reducible (first|refine zA fun Kn hK=>?_|refine zU ?_|refine Nx.go ?_|go_step)|refine ⟨_,hst,?_⟩|refine ⟨_,hs,?_⟩|with_reducible (first|refine zI ?_|refine zV ?_)|simp (maxSteps:=9^9) (disch:=omega) only [wq]|with_reducible refine zM (fun hb=>?_) (fun hb=>?_)<;>try simp only [hb]|with_reducible refine And.intro (by first|omega|(simp;done)|(simp;omega)) ?_|simp (maxSteps:=9^9) -implicitDefEqProofs only [go_sem,n2,dr,dl,dl2,bD,bytesD]))
   exact ⟨_,rfl,rfl⟩
  | some t =>
   dsimp only [outT] at hs ⊢
   rw [tagC_eq] at hs ⊢
   refine spec_of Tryz.func124 rfl rfl rfl (by kernel_rfl) rfl fun K=>?_
   (repeat' (first|with_reducible (first|refine zA fun Kn hK=>?_|refine zU ?_|refine Nx.go ?_|go_step)|refine ⟨_,hst,?_⟩|refine ⟨_,hs,?_⟩|with_reducible (first|refine zI ?_|refine zV ?_)|simp (maxSteps:=9^9) (disch:=omega) only [wq]|with_reducible refine zM (fun hb=>?_) (fun hb=>?_)<;>try simp only [hb]|with_reducible refine And.intro (by first|omega|(simp;done)|(simp;omega)) ?_|simp (maxSteps:=9^9) -implicitDefEqProofs only [go_sem,n2,dr,dl,dl2,bD,bytesD]))
   try rfl
 | false =>
  rw [hh] at hst
  cases hl:v.list with
  | true =>
   have hs:=htg 0
   simp only [List.drop_zero] at hs
   rw [if_pos rfl,if_neg (by simp)]
   rw [ev,hl] at hst ⊢
   generalize allSome (v.kids.map (getT isV))=o at *
   cases o with
   | none =>
    dsimp only [outL] at hs
    rw [show Option.map (kTg 3) none=none from rfl,outT]
    refine spec_of Tryz.func124 rfl rfl rfl (by kernel_rfl) rfl fun K=>?_
    (repeat' (first|with_reducible (first|refine zA fun Kn hK=>?_|refine zU ?_|refine Nx.go ?_|go_step)|refine ⟨_,hst,?_⟩|refine ⟨_,hs,?_⟩|with_reducible (first|refine zI ?_|refine zV ?_)|simp (maxSteps:=9^9) (disch:=omega) only [wq]|with_reducible refine zM (fun hb=>?_) (fun hb=>?_)<;>try simp only [hb]|with_reducible refine And.intro (by first|omega|(simp;done)|(simp;omega)) ?_|simp (maxSteps:=9^9) -implicitDefEqProofs only [go_sem,bD,bytesD]))
    exact ⟨_,rfl,rfl⟩
   | some k =>
    dsimp only [outL] at hs
    rw [show Option.map (kTg 3) (some k)=some (kTg 3 k) from rfl,outT,kTg,tagC_mk]
    refine spec_of Tryz.func124 rfl rfl rfl (by kernel_rfl) rfl fun K=>?_
    (repeat' (first|with_reducible (first|refine zA fun Kn hK=>?_|refine zU ?_|refine Nx.go ?_|go_step)|refine ⟨_,hst,?_⟩|refine ⟨_,hs,?_⟩|with_reducible (first|refine zI ?_|refine zV ?_)|simp (maxSteps:=9^9) (disch:=omega) only [wq]|with_reducible refine zM (fun hb=>?_) (fun hb=>?_)<;>try simp only [hb]|with_reducible refine And.intro (by first|omega|(simp;done)|(simp;omega)) ?_|simp (maxSteps:=9^9) -implicitDefEqProofs only [go_sem,bD,bytesD,Bd.none]))
    rfl
  | false =>
   rw [if_neg (by simp)]
   cases hb:v.hinted with
   | true =>
    have h1:=patom_n (G:=G) v rfl (by rw [hb];simp)
    rw [if_pos rfl,outT]
    rw [ev,hl,hb] at hst h1 ⊢
    refine spec_of Tryz.func124 rfl rfl rfl (by kernel_rfl) rfl fun K=>?_
    (repeat' (first|with_reducible (first|refine zA fun Kn hK=>?_|refine zU ?_|refine Nx.go ?_|go_step)|refine ⟨_,hst,?_⟩|refine ⟨_,h1,?_⟩|with_reducible (first|refine zI ?_|refine zV ?_)|simp (maxSteps:=9^9) (disch:=omega) only [wq]|with_reducible refine zM (fun hb=>?_) (fun hb=>?_)<;>try simp only [hb]|with_reducible refine And.intro (by first|omega|(simp;done)|(simp;omega)) ?_|simp (maxSteps:=9^9) -implicitDefEqProofs only [go_sem,bD,bytesD]))
    exact ⟨_,rfl,rfl⟩
   | false =>
    have h1:=patom_y (G:=G) v rfl (by have:=v.wt_data;omega) (by rw [hl,hb];rfl)
    rw [if_neg (by simp),outT,aTg,tagC_mk]
    rw [ev,hl,hb] at hst h1 ⊢
    refine spec_of Tryz.func124 rfl rfl rfl (by kernel_rfl) rfl fun K=>?_
    (repeat' (first|with_reducible (first|refine zA fun Kn hK=>?_|refine zU ?_|refine Nx.go ?_|go_step)|refine ⟨_,hst,?_⟩|refine ⟨_,h1,?_⟩|with_reducible (first|refine zI ?_|refine zV ?_)|simp (maxSteps:=9^9) (disch:=omega) only [wq]|with_reducible refine zM (fun hb=>?_) (fun hb=>?_)<;>try simp only [hb]|with_reducible refine And.intro (by first|omega|(simp;done)|(simp;omega)) ?_|simp (maxSteps:=9^9) -implicitDefEqProofs only [go_sem,bD,bytesD,Bd.none]))
    rfl
end
section
variable {G:Nat→Option (List D)}
noncomputable def sameLT (l m:List Tg):Bool:= @decide (l=m) (Classical.propDecidable _)
theorem sameLT_t {l m:List Tg} (h:l=m):sameLT l m=true:=by
 unfold sameLT
 exact @decide_eq_true _ (Classical.propDecidable _) h
theorem sameLT_f {l m:List Tg} (h:l≠m):sameLT l m=false:=by
 unfold sameLT
 exact @decide_eq_false _ (Classical.propDecidable _) h
theorem eqfuncT_m (l m:List Tg) (hl:l.length≤100000000)
  (ih: ∀ x∈l,∀ (u:Tg) (cs ds:List D),tagC x=cs→tagC u=ds→Spec Tryz.prog G 41 [.g cs,.g ds] (.one (.c (.v (.bool (x.same u)))))) :
  Spec Tryz.prog G 81 [.c (.sl l.length (l.flatMap tagC)),.c (.sl m.length (m.flatMap tagC)),.c (.v (.func (.func 41) #[] #[]))] (.one (.c (.v (.bool (sameLT l m))))):=by
 refine spec_of Tryz.func81 rfl rfl rfl (by kernel_rfl) rfl fun K=>?_
 by_cases hn:l.length=m.length
 ·have d1:((l.length:Int)==(m.length:Int))=true:=by simp [hn]
  (repeat' (first|with_reducible (first|refine zA fun Kn hK=>?_|refine zU ?_|refine Nx.go ?_|go_step)|with_reducible (first|refine zI ?_|refine zV ?_)|simp (maxSteps:=9^9) (disch:=omega) only [wq]|with_reducible refine zM (fun hb=>?_) (fun hb=>?_)<;>try simp only [hb]|with_reducible refine And.intro (by first|omega|(simp;done)|(simp;omega)) ?_|simp (maxSteps:=9^9) -implicitDefEqProofs only [go_sem,d1]))
  refine sound_loopR (fun x:{k:Nat // k≤l.length∧l.take k=m.take k}=>⟨[(1,vD (.sl m.length (m.flatMap tagC))),(2,vD (.v (.func (.func 41) #[] #[]))),(15,vD (.sl l.length (l.flatMap tagC))),(16,vI l.length),(17,vI x.1)],[]⟩) (fun x=>l.length-x.1) ⟨0,by simp⟩ [] (by (iterate 2 ((try simp (maxSteps:=9^9) -implicitDefEqProofs only [go_sem,true_and]);(try simp (maxSteps:=9^9) (disch:=omega) only [wq])));try simp) (fun ⟨k,hk,hall⟩=>?_)
  by_cases hlt:k<l.length
  ·obtain ⟨x,hx⟩: ∃ x,l[k]?=some x:=⟨_,List.getElem?_eq_getElem hlt⟩
   obtain ⟨y,hy⟩: ∃ y,m[k]?=some y:=⟨_,List.getElem?_eq_getElem (by omega)⟩
   have hb:decide ((k:Int)<(l.length:Int))=true:=by simpa using hlt
   have hlm:k<m.length:=by omega
   (repeat' (first|with_reducible (first|refine zA fun Kn hK=>?_|refine zU ?_|refine Nx.go ?_|go_step)|(refine ⟨_,ih x (List.mem_of_getElem? hx) y _ _ rfl rfl,?_⟩)|with_reducible (first|refine zI ?_|refine zV ?_)|simp (maxSteps:=9^9) (disch:=omega) only [wq]|with_reducible refine zM (fun hb=>?_) (fun hb=>?_)<;>try simp only [hb]|with_reducible refine And.intro (by first|omega|(simp;done)|(simp;omega)) ?_|simp (maxSteps:=9^9) -implicitDefEqProofs only [go_sem,hb,flat_at tagC_len hx,flat_at tagC_len hy,List.length_map]))
   ·refine ⟨[],⟨k+1,hlt,?_⟩,?_⟩
    ·rw [List.take_add_one,List.take_add_one,hx,hy,hall,tsame_of hb]
    ·(iterate 2 ((try simp (maxSteps:=9^9) -implicitDefEqProofs only [go_sem,true_and]);(try simp (maxSteps:=9^9) (disch:=omega) only [wq])))
     try (simp only [ijq,true_and,and_true];first|done|omega|(split<;>omega)|(simp;done)|(simp;omega))
   ·rw [sameLT_f]
    rintro rfl
    rw [hx] at hy
    injection hy with hy
    rw [tsame_t hy] at hb
    cases hb
  ·have hb:decide ((k:Int)<(l.length:Int))=false:=by simpa using hlt
   obtain rfl:k=l.length:=by omega
   rw [List.take_length,hn,List.take_length] at hall
   (repeat' (first|with_reducible (first|refine zA fun Kn hK=>?_|refine zU ?_|refine Nx.go ?_|go_step)|with_reducible (first|refine zI ?_|refine zV ?_)|simp (maxSteps:=9^9) (disch:=omega) only [wq]|with_reducible refine zM (fun hb=>?_) (fun hb=>?_)<;>try simp only [hb]|with_reducible refine And.intro (by first|omega|(simp;done)|(simp;omega)) ?_|simp (maxSteps:=9^9) -implicitDefEqProofs only [go_sem,hb]))
   rw [sameLT_t hall]
 ·have d1:((l.length:Int)==(m.length:Int))=false:=by
   rw [beq_eq_false_iff_ne]
   omega
  (repeat' (first|with_reducible (first|refine zA fun Kn hK=>?_|refine zU ?_|refine Nx.go ?_|go_step)|with_reducible (first|refine zI ?_|refine zV ?_)|simp (maxSteps:=9^9) (disch:=omega) only [wq]|with_reducible refine zM (fun hb=>?_) (fun hb=>?_)<;>try simp only [hb]|with_reducible refine And.intro (by first|omega|(simp;done)|(simp;omega)) ?_|simp (maxSteps:=9^9) -implicitDefEqProofs only [go_sem,d1]))
  rw [sameLT_f]
  rintro rfl
  exact hn rfl
theorem tsame_m: ∀ (t u:Tg) (cs ds:List D),tagC t=cs→tagC u=ds→t.wt≤30000000→Spec Tryz.prog G 41 [.g cs,.g ds] (.one (.c (.v (.bool (t.same u))))):=Tg.ind fun t ih u cs ds hcs hds hw=>by
 subst hcs hds
 have hr:=prsame_m (G:=G) t.ord t.lo t.hi u.ord u.lo u.hi
 have hi:=rgSame_iff (o:=t.ord) (a:=t.lo) (b:=t.hi) (o':=u.ord) (a':=u.lo) (b':=u.hi)
 have he:=u8_beq t.kind u.kind
 have hq:=equal_m (G:=G) t.data u.data
 have hlk:=t.wt_kids
 have hk:=eqfuncT_m (G:=G) t.kids u.kids (by omega) (fun x hx v cs ds h1 h2=>ih x hx v cs ds h1 h2 (by have:=Tg.wt_kid hx;omega))
 have hs:t.same u=(t.kind==u.kind&&(t.data==u.data)&&rgSame t.ord t.lo t.hi u.ord u.lo u.hi&&sameLT t.kids u.kids):=by
  rw [Bool.eq_iff_iff]
  simp only [Bool.and_eq_true,beq_iff_eq]
  refine ⟨fun h=>?_,fun ⟨⟨⟨h1,h2⟩,h3⟩,h4⟩=>?_⟩
  ·cases tsame_of h
   exact ⟨⟨⟨rfl,rfl⟩,hi.2 ⟨rfl,rfl,rfl⟩⟩,sameLT_t rfl⟩
  ·refine tsame_t (Tg.ext_iff.2 ⟨h1,h2,hi.1 h3,?_⟩)
   refine Classical.byContradiction fun hn=>?_
   rw [sameLT_f hn] at h4
   cases h4
 rw [hs]
 clear hs hi ih
 rw [tagC_eq t,tagC_eq u]
 generalize rgSame t.ord t.lo t.hi u.ord u.lo u.hi=q3 at *
 generalize sameLT t.kids u.kids=q4 at *
 generalize (t.data==u.data)=q2 at *
 generalize (t.kind==u.kind)=q1 at *
 unfold rgD bD bytesD at *
 cases q1<;>cases q2<;>cases q3
 all_goals
  refine spec_of Tryz.func41 rfl rfl rfl (by kernel_rfl) rfl fun K=>?_
  (repeat' (first|with_reducible (first|refine zA fun Kn hK=>?_|refine zU ?_|refine Nx.go ?_|go_step)|refine ⟨_,hq,?_⟩|refine ⟨_,hr,?_⟩|refine ⟨_,hk,?_⟩|with_reducible (first|refine zI ?_|refine zV ?_)|simp (maxSteps:=9^9) (disch:=omega) only [wq]|with_reducible refine zM (fun hb=>?_) (fun hb=>?_)<;>try simp only [hb]|with_reducible refine And.intro (by first|omega|(simp;done)|(simp;omega)) ?_|simp (maxSteps:=9^9) -implicitDefEqProofs only [go_sem,he]))
  all_goals (try rfl)
end
def ctC (c:Ct):List D:= .v (.bool c.ks)::bytesD c.kd::bytesD c.label::(sbC c.sub++(.v (.bool c.dlg)::(tagC c.tag++wdC c.win)))
theorem ctC_len (c:Ct):(ctC c).length=24:=by
 unfold ctC wdC
 simp only [List.length_append,List.length_cons,List.length_nil,sbC_len,tagC_len]
theorem sb_cells (s:Sb): ∃ a b c d e:D,sbC s=[.v (.int .u8 (s.kind.toNat:Int)),a,b,c,d,e]:=⟨_,_,_,_,_,sbC_eq s⟩
theorem tag_cells (t:Tg): ∃ a b c d e f g h i j:D,tagC t=[a,b,c,d,e,f,g,h,i,j]:=⟨_,_,_,_,_,_,_,_,_,_,tagC_eq t⟩
def Wd.in64 (w:Wd):Prop:=(-9223372036854775808≤w.frm∧w.frm≤9223372036854775807)∧(-9223372036854775808≤w.to∧w.to≤9223372036854775807)
def wdK4 (w:Wd):List C:=[.d (.v (.bool w.aft)),.d (.v (.int .i64 w.frm)),.d (.v (.bool w.unt)),.d (.v (.int .i64 w.to))]
def wdLit (w:Wd):List Lit:=[.bool w.aft,.int .i64 w.frm,.bool w.unt,.int .i64 w.to]
theorem win_key {w:Wd} (h:w.in64):KeyL Tryz.prog 37 (wdK4 w) (wdLit w):=by
 obtain ⟨⟨h1,h2⟩,h3,h4⟩:=h
 have w1:(Lit.int .i64 w.frm).wf=true:=by
  simp only [Lit.wf,Bool.and_eq_true,decide_eq_true_eq]
  exact ⟨h1,h2⟩
 have w2:(Lit.int .i64 w.to).wf=true:=by
  simp only [Lit.wf,Bool.and_eq_true,decide_eq_true_eq]
  exact ⟨h3,h4⟩
 have b: ∀ q,Program.keyLits Tryz.prog 1 4 [.bool q]=some [.bool q]:=fun q=>by
  unfold Program.keyLits
  simp only [Tryz.underlying4]
 have i: ∀ n,(Lit.int .i64 n).wf=true→Program.keyLits Tryz.prog 1 2 [.int .i64 n]=some [.int .i64 n]:=fun n hn=>by
  unfold Program.keyLits
  simp only [Tryz.underlying2]
  rw [if_pos ⟨trivial,hn⟩]
 refine ⟨2,[.bool w.aft,.int .i64 w.frm,.bool w.unt,.int .i64 w.to],rfl,by kernel_rfl,?_⟩
 unfold Program.keyLits
 simp only [Tryz.underlying37]
 rw [if_pos ⟨by kernel_rfl,by kernel_rfl⟩]
 have c1:Tryz.prog.cellsOf 4=1:=by kernel_rfl
 have c2:Tryz.prog.cellsOf 2=1:=by kernel_rfl
 simp only [List.mapM_cons,List.mapM_nil,c1,c2,List.drop_zero,List.drop_succ_cons,List.take_succ_cons,List.take_zero,b,i _ w1,i _ w2,Option.pure_def,Option.bind_eq_bind,Option.bind_some,Option.map_some]
 rfl
theorem win_key_eq {x y:Wd} {b:Bool} (h:b=decide (x=y)):(b=true)↔wdLit x=wdLit y:=by
 subst h
 rw [decide_eq_true_iff]
 obtain ⟨a,n,u,k⟩:=x
 obtain ⟨a',n',u',k'⟩:=y
 simp [wdLit]
theorem may_64 {w:Wd} (h:w.may=true):w.in64:=by
 obtain ⟨a,n,u,k⟩:=w
 rw [may_mk,Bool.and_eq_true] at h
 have hm:=maxN_eq
 have h1:0≤n∧n<315569520000:=by
  cases a with
  | true=>have:=side_t h.1;omega
  | false=>have:=side_f h.1;omega
 have h2:0≤k∧k<315569520000:=by
  cases u with
  | true=>have:=side_t h.2;omega
  | false=>have:=side_f h.2;omega
 unfold Wd.in64
 dsimp only
 omega
theorem none_64:Wd.none.in64:=may_64 (by decide)
section
variable {G:Nat→Option (List D)}
theorem pair_m (w:List UInt8) (v:Tree) {cs:List D} (hcs:treeC v=cs) (hw:w.length≤1000):Spec Tryz.prog G 86 [.c (.v (.string ⟨w.toArray⟩)),.g cs] (.one (.g (treeC (pairT w v)))):=by
 subst hcs
 have a0:=atom_m (G:=G) w (by omega)
 have hl:=list_m (G:=G) [atomT w,v] (by simp)
 rw [show treeC (pairT w v)=treeC (.mk true false [] [] [atomT w,v]) from rfl]
 have hL:=treeC_eq (.mk true false [] [] [atomT w,v])
 generalize treeC (.mk true false [] [] [atomT w,v])=O at *
 rw [hL] at hl
 rw [List.flatMap_cons,List.flatMap_cons,List.flatMap_nil,List.append_nil] at hl
 unfold atomT at hl
 rw [treeC_mk] at a0
 rw [treeC_mk] at hl
 rw [treeC_eq v] at hl ⊢
 simp only [List.cons_append,List.nil_append] at hl
 simp only [bD,bytesD] at *
 refine spec_of Tryz.func86 rfl rfl rfl (by kernel_rfl) rfl fun K=>?_
 (repeat' (first|with_reducible (first|refine zA fun Kn hK=>?_|refine zU ?_|refine Nx.go ?_|go_step)|refine ⟨none,?_⟩|refine ⟨_,a0,?_⟩|refine ⟨_,hl,?_⟩|with_reducible (first|refine zI ?_|refine zV ?_)|simp (maxSteps:=9^9) (disch:=omega) only [wq]|with_reducible refine zM (fun hb=>?_) (fun hb=>?_)<;>try simp only [hb]|with_reducible refine And.intro (by first|omega|(simp;done)|(simp;omega)) ?_|simp (maxSteps:=9^9) -implicitDefEqProofs only [go_sem,true_and,rep1]))
 all_goals (rw [hL];try rfl)
end
end Go.Proofs.YtfammdfpgccnfaaGreatDoor
namespace Go.Proofs.YtfammdfpgccnfaaGreatDoor
open Go.RowKit Go.ChangeShapes Go.WideShapes Go.Deep
def Sb.rd (w:World) (S:Nat→Prop) (cs:List Value) (t:Sb):Prop:=
 ∃ A1 n1 c1 A2 n2 c2 A3 n3 c3,cs=[u8V t.kind,.bool t.ks,.slice A1 n1 c1,.slice A2 n2 c2,.int .i64 t.k,.slice A3 n3 c3]∧Rep.u8.sl w S A1 n1 c1 t.kd∧Rep.u8.slice.sl w S A2 n2 c2 t.names ∧
  t.kids.length=n3∧n3≤c3∧c3≤9223372036854775807∧(0<n3→ ∃ b o,A3=some ⟨b,o,Option.none⟩∧S b ∧
   ∀ i x,(hx:t.kids[i]?=some x)→ ∃ es,Sb.rd w S es x∧ ∀ j u,es[j]?=some u→w.cell? ⟨b,o+i*6+j,Option.none⟩=some u)
termination_by SizeOf.sizeOf t
decreasing_by exact Sb.kid_lt (List.mem_of_getElem? hx)
theorem Sb.rd_len {w:World} {S:Nat→Prop} {cs:List Value} {t:Sb} (h:Sb.rd w S cs t):cs.length=6:=by
 rw [Sb.rd] at h
 obtain ⟨_,_,_,_,_,_,_,_,_,rfl,_⟩:=h
 rfl
theorem Sb.rd_keep {w w':World} {S:Nat→Prop} (hk: ∀ p:Addr,S p.block→w'.cell? p=w.cell? p): ∀ (t:Sb) {cs:List Value},Sb.rd w S cs t→Sb.rd w' S cs t:=by
 refine Sb.ind fun t ih cs h=>?_
 rw [Sb.rd] at h ⊢
 obtain ⟨A1,n1,c1,A2,n2,c2,A3,n3,c3,rfl,h1,h2,h3,h4,h5,h6⟩:=h
 refine ⟨A1,n1,c1,A2,n2,c2,A3,n3,c3,rfl,Rep.sl_keep h1 hk,Rep.sl_keep h2 hk,h3,h4,h5,fun hn=>?_⟩
 obtain ⟨b,o,rfl,hb,hr⟩:=h6 hn
 refine ⟨b,o,rfl,hb,fun i x hx=>?_⟩
 obtain ⟨es,he,hc⟩:=hr i x hx
 exact ⟨es,ih x (List.mem_of_getElem? hx) he,fun j u hu=>by rw [hk _ hb];exact hc j u hu⟩
theorem Sb.rd_more {w:World} {S S':Nat→Prop} (hS: ∀ b,S b→S' b): ∀ (t:Sb) {cs:List Value},Sb.rd w S cs t→Sb.rd w S' cs t:=by
 refine Sb.ind fun t ih cs h=>?_
 rw [Sb.rd] at h ⊢
 obtain ⟨A1,n1,c1,A2,n2,c2,A3,n3,c3,rfl,h1,h2,h3,h4,h5,h6⟩:=h
 refine ⟨A1,n1,c1,A2,n2,c2,A3,n3,c3,rfl,Rep.sl_more h1 hS,Rep.sl_more h2 hS,h3,h4,h5,fun hn=>?_⟩
 obtain ⟨b,o,rfl,hb,hr⟩:=h6 hn
 refine ⟨b,o,rfl,hS _ hb,fun i x hx=>?_⟩
 obtain ⟨es,he,hc⟩:=hr i x hx
 exact ⟨es,ih x (List.mem_of_getElem? hx) he,hc⟩
theorem Sb.rd_one {w:World} {S:Nat→Prop} {cs:List Value} {t:Sb} (h:Sb.rd w S cs t): ∀ u∈cs,u.oneCell'=true:=by
 intro u hu
 rw [Sb.rd] at h
 obtain ⟨_,_,_,_,_,_,_,_,_,rfl,_⟩:=h
 simp only [List.mem_cons,List.not_mem_nil,or_false] at hu
 rcases hu with rfl|rfl|rfl|rfl|rfl|rfl<;>rfl
def Rep.sb:Rep Sb where
 size:=6
 pos:=by omega
 rd:=Sb.rd
 len:=Sb.rd_len
 keep:=fun h hk=>Sb.rd_keep hk _ h
 more:=fun h hS=>Sb.rd_more hS _ h
 one:=fun h u hu=>Sb.rd_one h u hu
def wdV (w:Wd):List Value:=[.bool w.aft,.int .i64 w.frm,.bool w.unt,.int .i64 w.to]
def enRd (w:World) (S:Nat→Prop) (cs:List Value) (s:Sb) (d:Bool) (t:Tg) (v:Wd):Prop:=
 ∃ l1 l2,cs=l1++(.bool d::(l2++wdV v))∧Sb.rd w S l1 s∧Tg.rd w S l2 t
theorem enRd_len {w:World} {S:Nat→Prop} {cs:List Value} {s:Sb} {d:Bool} {t:Tg} {v:Wd} (h:enRd w S cs s d t v):cs.length=21:=by
 obtain ⟨l1,l2,rfl,h1,h2⟩:=h
 simp only [List.length_append,List.length_cons,Sb.rd_len h1,Tg.rd_len h2,wdV,List.length_nil]
theorem enRd_one {w:World} {S:Nat→Prop} {cs:List Value} {s:Sb} {d:Bool} {t:Tg} {v:Wd} (h:enRd w S cs s d t v): ∀ u∈cs,u.oneCell'=true:=by
 obtain ⟨l1,l2,rfl,h1,h2⟩:=h
 intro u hu
 simp only [List.mem_append,List.mem_cons,wdV,List.not_mem_nil,or_false] at hu
 rcases hu with hu|rfl|hu|rfl|rfl|rfl|rfl
 ·exact Sb.rd_one h1 u hu
 ·rfl
 ·exact Rep.tag.one h2 u hu
 all_goals rfl
def ctRd (w:World) (S:Nat→Prop) (cs:List Value) (c:Ct):Prop:=
 ∃ A1 n1 c1 A2 n2 c2 l,cs= .bool c.ks:: .slice A1 n1 c1:: .slice A2 n2 c2::l∧Rep.u8.sl w S A1 n1 c1 c.kd∧Rep.u8.sl w S A2 n2 c2 c.label∧enRd w S l c.sub c.dlg c.tag c.win
def Rep.cert:Rep Ct where
 size:=24
 pos:=by omega
 rd:=ctRd
 len:=fun h=>by
  obtain ⟨A1,n1,c1,A2,n2,c2,l,rfl,h1,h2,h3⟩:=h
  simp only [List.length_cons,enRd_len h3]
 keep:=fun {w w' S cs e} h hk=>by
  obtain ⟨A1,n1,c1,A2,n2,c2,l,rfl,h1,h2,l1,l2,rfl,h3,h4⟩:=h
  exact ⟨A1,n1,c1,A2,n2,c2,_,rfl,Rep.sl_keep h1 hk,Rep.sl_keep h2 hk,l1,l2,rfl,Sb.rd_keep hk _ h3,Tg.rd_keep hk _ h4⟩
 more:=fun {w S S' cs e} h hS=>by
  obtain ⟨A1,n1,c1,A2,n2,c2,l,rfl,h1,h2,l1,l2,rfl,h3,h4⟩:=h
  exact ⟨A1,n1,c1,A2,n2,c2,_,rfl,Rep.sl_more h1 hS,Rep.sl_more h2 hS,l1,l2,rfl,Sb.rd_more hS _ h3,Tg.rd_more hS _ h4⟩
 one:=fun h u hu=>by
  obtain ⟨A1,n1,c1,A2,n2,c2,l,rfl,h1,h2,h3⟩:=h
  simp only [List.mem_cons] at hu
  rcases hu with rfl|rfl|rfl|hu
  ·rfl
  ·rfl
  ·rfl
  ·exact enRd_one h3 u hu
section
variable {P:Program} {t e:TypeId}
theorem open_i64 {H:Type} {enc:TypeId × Value→H} {w:World} {sp:Nat→Bool} {held:Bool} {n:Nat} {cs:List Value} {x:DataW H × List MemPlace} {ty:TypeId} (hy:P.underlying ty=some (.int .i64)) (h:DataW.trod enc P w 0 sp held n ty cs=some x): ∃ b:Int,cs=[.int .i64 b]∧(-9223372036854775808≤b∧b≤9223372036854775807):=by
 obtain ⟨z,hz,_,hw⟩:=DataW.trod_int hy h
 refine ⟨z,hz,?_⟩
 simp [Lit.wf,IntKind.min,IntKind.max,IntKind.signed,IntKind.bits] at hw
 omega
theorem key_at {H:Type} {enc:TypeId × Value→H} {w:World} {sp:Nat→Bool} {held:Bool} {n:Nat} {cs:List Value} {x:DataW H × List MemPlace} {tK tb tB ty:TypeId} {fs:Array Field} (ht:P.underlying tK=some (.struct fs)) (hf:fs.toList.map (fun f=>(f.type,f.offset))=[(tb,0),(tB,1)]) (hc:P.cellsOf tK=2) (hb:P.underlying tb=some .bool) (cb:P.cellsOf tb=1)
  (hB:P.underlying tB=some (.slice ty)) (cB:P.cellsOf tB=1) (hy:P.underlying ty=some (.int .u8)) (cy:P.cellsOf ty=1) (h:DataW.trod enc P w 0 sp held n tK cs=some x) :
  ∃ (b:Bool) (y:List UInt8) (A:Option Addr) (k c:Nat),cs=[.bool b,.slice A k c]∧Rep.u8.sl w (fun b=>b<w.heap.size) A k c y:=by
 obtain ⟨m,xs,_,hx,hl,hcl,hg⟩:=field_at ht h hf
 rw [hc] at hcl
 match xs,hl,cs,hcl with
 | [x0,x1],_,[c0,c1],_ =>
  have e0:=hg 0 _ _ rfl rfl
  have e1:=hg 1 _ _ rfl rfl
  dsimp only at e0 e1
  rw [cb] at e0
  rw [cB] at e1
  obtain ⟨b0,q0,_⟩:=DataW.trod_bool hb e0
  obtain ⟨y,A,k,c,q1,s,hw⟩:=bytes_at hB hy cy e1
  simp only [List.drop_zero,List.drop_succ_cons,List.take_succ_cons,List.take_zero,List.cons.injEq,and_true] at q0 q1
  subst q0 q1
  exact ⟨b0,y,A,k,c,rfl,s⟩
theorem win_at {H:Type} {enc:TypeId × Value→H} {w:World} {sp:Nat→Bool} {held:Bool} {n:Nat} {cs:List Value} {x:DataW H × List MemPlace} {tW tb ti:TypeId} {fs:Array Field} (ht:P.underlying tW=some (.struct fs)) (hf:fs.toList.map (fun f=>(f.type,f.offset))=[(tb,0),(ti,1),(tb,2),(ti,3)]) (hc:P.cellsOf tW=4) (hb:P.underlying tb=some .bool) (cb:P.cellsOf tb=1)
  (hi:P.underlying ti=some (.int .i64)) (ci:P.cellsOf ti=1) (h:DataW.trod enc P w 0 sp held n tW cs=some x) :
  ∃ v:Wd,cs=wdV v∧v.in64:=by
 obtain ⟨m,xs,_,hx,hl,hcl,hg⟩:=field_at ht h hf
 rw [hc] at hcl
 match xs,hl,cs,hcl with
 | [x0,x1,x2,x3],_,[c0,c1,c2,c3],_ =>
  have e0:=hg 0 _ _ rfl rfl
  have e1:=hg 1 _ _ rfl rfl
  have e2:=hg 2 _ _ rfl rfl
  have e3:=hg 3 _ _ rfl rfl
  dsimp only at e0 e1 e2 e3
  rw [cb] at e0 e2
  rw [ci] at e1 e3
  obtain ⟨b0,q0,_⟩:=DataW.trod_bool hb e0
  obtain ⟨b1,q1,i1⟩:=open_i64 hi e1
  obtain ⟨b2,q2,_⟩:=DataW.trod_bool hb e2
  obtain ⟨b3,q3,i3⟩:=open_i64 hi e3
  simp only [List.drop_zero,List.drop_succ_cons,List.take_succ_cons,List.take_zero,List.cons.injEq,and_true] at q0 q1 q2 q3
  subst q0 q1 q2 q3
  exact ⟨⟨b0,b1,b2,b3⟩,rfl,i1,i3⟩
theorem opensN_sb {tk tK tN ti tl tb tB ty:TypeId} {fs fk:Array Field} (ht:P.underlying t=some (.struct fs)) (hf:fs.toList.map (fun f=>(f.type,f.offset))=[(tk,0),(tK,1),(tN,3),(ti,4),(tl,5)]) (hc:P.cellsOf t=6)
  (hK:P.underlying tK=some (.struct fk)) (hfk:fk.toList.map (fun f=>(f.type,f.offset))=[(tb,0),(tB,1)]) (cK:P.cellsOf tK=2)
  (hk:P.underlying tk=some (.int .u8)) (ck:P.cellsOf tk=1) (hb:P.underlying tb=some .bool) (hB:P.underlying tB=some (.slice ty)) (hy:P.underlying ty=some (.int .u8)) (hl:P.underlying tl=some (.slice t))
  (hN:P.underlying tN=some (.slice tB)) (cN:P.cellsOf tN=1) (hi:P.underlying ti=some (.int .i64)) (ci:P.cellsOf ti=1)
  (cb:P.cellsOf tb=1) (cB:P.cellsOf tB=1) (cy:P.cellsOf ty=1) (cl:P.cellsOf tl=1): ∀ fuel,OpensN P fuel t Rep.sb (fun _=>0):=by
 intro fuel
 induction fuel using Nat.strongRecOn with
 | _ fuel ih =>
 intro H enc w sp held cs x h
 obtain ⟨m,xs,rfl,hx,hlx,hcl,hg⟩:=field_at ht h hf
 rw [hc] at hcl
 match xs,hlx,cs,hcl with
 | [x0,x1,x2,x3,x4],_,[c0,c1,c2,c3,c4,c5],_ =>
  have e0:=hg 0 _ _ rfl rfl
  have e1:=hg 1 _ _ rfl rfl
  have e2:=hg 2 _ _ rfl rfl
  have e3:=hg 3 _ _ rfl rfl
  have e4:=hg 4 _ _ rfl rfl
  dsimp only at e0 e1 e2 e3 e4
  rw [ck] at e0
  rw [cK] at e1
  rw [cN] at e2
  rw [ci] at e3
  rw [cl] at e4
  obtain ⟨k0,q0⟩:=open_u8 hk e0
  obtain ⟨b1,y1,A1,n1,k1,q1,s1⟩:=key_at hK hfk cK hb cb hB cB hy cy e1
  obtain ⟨y2,⟨A2,n2,k2,q2,s2⟩,w2⟩:=opensN_slice (r:=Rep.u8.slice) (wt:=fun xs=>(xs.map fun _=>1).sum+1) m hN cB (fun j hj=>opensN_slice j hB cy fun i _=>opensN_u8 i hy cy) _ _ _ _ _ _ _ e2
  obtain ⟨k3,q3,_⟩:=open_i64 hi e3
  obtain ⟨y4,⟨A4,n4,k4,q4,s4⟩,w4⟩:=opensN_slice (r:=Rep.sb) (wt:=fun _=>0) m hl hc (fun j hj=>ih j (by omega)) _ _ _ _ _ _ _ e4
  simp only [List.drop_zero,List.drop_succ_cons,List.take_succ_cons,List.take_zero,List.cons.injEq,and_true] at q0 q1 q2 q3 q4
  obtain ⟨q1a,q1b⟩:=q1
  subst q0 q1a q1b q2 q3 q4
  refine ⟨.mk k0 b1 y1 y2 k3 y4,?_,Nat.zero_le _⟩
  show Sb.rd w _ _ (.mk k0 b1 y1 y2 k3 y4)
  rw [Sb.rd]
  exact ⟨A1,n1,k1,A2,n2,k2,A4,n4,k4,rfl,s1,s2,s4.1,s4.2.1,s4.2.2.1,s4.2.2.2⟩
end
end Go.Proofs.YtfammdfpgccnfaaGreatDoor
namespace Go.Proofs.YtfammdfpgccnfaaGreatDoor
open Go.RowKit
structure Ct.fit (c:Ct):Prop where
 kd:c.kd.length≤5000
 label:c.label.length≤5000
 sub:c.sub.fit
 wt:c.tag.wt≤2000000
 nodes:c.tag.nodes≤1000
 win:c.win.in64
def issO (c:Ct):Tree:=if keyMay c.ks c.kd then issV c else keyOut c.ks c.kd
noncomputable def rightsO (c:Ct):List Tree:=if emptyL c.label then (if c.dlg then [propT] else [])++[pairT wTagW (if tMay c.tag then c.tag.val else zeroT)] else []
noncomputable def rightsE (c:Ct):Int:=if emptyL c.label then (if tMay c.tag then 0 else 13) else if rOk c then 0 else 3
theorem zeroT_C:treeC zeroT=[.v (.bool false),.v (.bool false),.sl 0 [],.sl 0 [],.sl 0 []]:=by
 unfold zeroT
 rw [treeC_mk]
 rfl
theorem zeroTg_C:tagC zeroTg=[.v (.int .u8 0),.sl 0 [],.sl 0 [],.v (.int .u8 0),.v (.bool false),.v (.bool false),.sl 0 [],.v (.bool false),.v (.bool false),.sl 0 []]:=by
 unfold zeroTg
 rw [tagC_eq]
 rfl
theorem isZ_same (t:Tg):t.same zeroTg=isZ t:=rfl
section
variable {G:Nat→Option (List D)}
theorem issuer_m (c:Ct) {cs:List D} (hcs:ctC c=cs) (h1:c.kd.length≤5000) (h2:c.label.length≤5000):Spec Tryz.prog G 83 [.g cs] (.many [.g (treeC (issO c)),.c (.v (.int .i64 (keyErr c.ks c.kd)))]):=by
 subst hcs
 have hk:=kput_m (G:=G) c.ks c.kd (by omega)
 have n0:=len0_empty c.label
 obtain ⟨s1,s2,s3,s4,s5,hs⟩:=sb_cells c.sub
 obtain ⟨t0,t1,t2,t3,t4,t5,t6,t7,t8,t9,ht⟩:=tag_cells c.tag
 unfold ctC wdC
 rw [hs,ht]
 clear hs ht
 unfold issO issV
 cases hm:keyMay c.ks c.kd with
 | false =>
  rw [if_neg (by decide)]
  have he:keyErr c.ks c.kd=7:=by rw [keyErr,hm];rfl
  rw [he] at hk ⊢
  rw [treeC_eq (keyOut c.ks c.kd)] at hk ⊢
  generalize keyOut c.ks c.kd=V at *
  simp only [keyC,bD,bytesD,List.cons_append,List.nil_append] at *
  refine spec_of Tryz.func83 rfl rfl rfl (by kernel_rfl) rfl fun K=>?_
  (repeat' (first|with_reducible (first|refine zA fun Kn hK=>?_|refine zU ?_|refine Nx.go ?_|go_step)|refine ⟨_,hk,?_⟩|with_reducible (first|refine zI ?_|refine zV ?_)|simp (maxSteps:=9^9) (disch:=omega) only [wq]|with_reducible refine zM (fun hb=>?_) (fun hb=>?_)<;>try simp only [hb]|with_reducible refine And.intro (by first|omega|(simp;done)|(simp;omega)) ?_|simp (maxSteps:=9^9) -implicitDefEqProofs only [go_sem,decide_true,bne,Bool.not_true,Bool.not_false]))
  all_goals rfl
 | true =>
  rw [if_pos rfl]
  have he:keyErr c.ks c.kd=0:=by rw [keyErr,hm];rfl
  have ho:keyOut c.ks c.kd=keyV c.ks c.kd:=by rw [keyOut,hm];rfl
  rw [he,ho] at hk
  rw [he]
  clear he ho hm
  generalize hV:keyV c.ks c.kd=V at *
  cases hl:emptyL c.label with
  | true =>
   rw [hl] at n0
   rw [if_pos rfl]
   rw [treeC_eq V] at hk ⊢
   simp only [keyC,bD,bytesD,List.cons_append,List.nil_append] at *
   refine spec_of Tryz.func83 rfl rfl rfl (by kernel_rfl) rfl fun K=>?_
   (repeat' (first|with_reducible (first|refine zA fun Kn hK=>?_|refine zU ?_|refine Nx.go ?_|go_step)|refine ⟨_,hk,?_⟩|with_reducible (first|refine zI ?_|refine zV ?_)|simp (maxSteps:=9^9) (disch:=omega) only [wq]|with_reducible refine zM (fun hb=>?_) (fun hb=>?_)<;>try simp only [hb]|with_reducible refine And.intro (by first|omega|(simp;done)|(simp;omega)) ?_|simp (maxSteps:=9^9) -implicitDefEqProofs only [go_sem,n0,decide_true,bne,Bool.not_true,Bool.not_false]))
   all_goals rfl
  | false =>
   rw [hl] at n0
   rw [if_neg (by decide)]
   have a0:=atom_m (G:=G) tName (by decide)
   have hcl:=bclone_m (G:=G) c.label (by omega)
   have hli:=list_m (G:=G) [atomT tName,V,atomT c.label] (by simp)
   rw [show treeC (listT [atomT tName,V,atomT c.label])=treeC (.mk true false [] [] [atomT tName,V,atomT c.label]) from rfl]
   have hL:=treeC_eq (.mk true false [] [] [atomT tName,V,atomT c.label])
   generalize treeC (.mk true false [] [] [atomT tName,V,atomT c.label])=O at *
   rw [hL] at hli
   rw [List.flatMap_cons,List.flatMap_cons,List.flatMap_cons,List.flatMap_nil,List.append_nil] at hli
   unfold atomT at hli
   rw [treeC_mk,treeC_mk] at hli
   rw [treeC_mk] at a0
   rw [treeC_eq V] at hk hli
   unfold tName at *
   simp only [keyC,bD,bytesD,List.cons_append,List.nil_append] at *
   refine spec_of Tryz.func83 rfl rfl rfl (by kernel_rfl) rfl fun K=>?_
   (repeat' (first|with_reducible (first|refine zA fun Kn hK=>?_|refine zU ?_|refine Nx.go ?_|go_step)|refine ⟨none,?_⟩|refine ⟨_,hk,?_⟩|refine ⟨_,a0,?_⟩|refine ⟨_,hcl,?_⟩|refine ⟨_,hli,?_⟩|with_reducible (first|refine zI ?_|refine zV ?_)|simp (maxSteps:=9^9) (disch:=omega) only [wq]|with_reducible refine zM (fun hb=>?_) (fun hb=>?_)<;>try simp only [hb]|with_reducible refine And.intro (by first|omega|(simp;done)|(simp;omega)) ?_|simp (maxSteps:=9^9) -implicitDefEqProofs only [go_sem,n0,rep1,decide_true,bne,Bool.not_true,Bool.not_false]))
   all_goals (rw [hL];try rfl)
theorem rights_m (hG:G 0=some powD) (c:Ct) {cs:List D} (hcs:ctC c=cs) (hf:c.fit):Spec Tryz.prog G 85 [.g cs] (.many [.c (.sl (rightsO c).length ((rightsO c).flatMap treeC)),.c (.v (.int .i64 (rightsE c)))]):=by
 subst hcs
 have n0:decide ((c.label.length:Int)>0)= !emptyL c.label:=pos_len c.label
 have hsm:=tsame_m (G:=G) c.tag zeroTg _ _ rfl rfl (by have:=hf.wt;omega)
 rw [isZ_same] at hsm
 have hp:=tput_m (G:=G) hG c.tag rfl (by have:=hf.wt;omega) (by have:=hf.nodes;omega)
 have e3:((c.sub.kind.toNat:Int)==3)=decide (c.sub.kind=3):=by
  have:=u8_beq c.sub.kind 3
  rw [show ((3:UInt8).toNat:Int)=3 from rfl] at this
  rw [this]
  exact Bool.beq_eq_decide_eq _ _
 obtain ⟨s1,s2,s3,s4,s5,hs⟩:=sb_cells c.sub
 obtain ⟨t0,t1,t2,t3,t4,t5,t6,t7,t8,t9,ht⟩:=tag_cells c.tag
 unfold ctC wdC
 rw [hs,ht]
 rw [ht] at hsm hp
 rw [zeroTg_C] at hsm
 clear hs ht
 unfold rightsO rightsE
 cases hl:emptyL c.label with
 | false =>
  rw [hl] at n0
  rw [if_neg (by decide),if_neg (by decide)]
  have hr:rOk c=(!c.dlg&&(isZ c.tag&& !decide (c.sub.kind=3))):=by
   unfold rOk
   rw [hl]
   rfl
  rw [hr]
  clear hl hp hr
  generalize decide (c.sub.kind=3)=z3 at *
  generalize isZ c.tag=zz at *
  obtain ⟨zd,hzd⟩: ∃ z,c.dlg=z:=⟨_,rfl⟩
  rw [hzd]
  simp only [bD,bytesD,List.cons_append,List.nil_append] at *
  cases zd<;>cases zz<;>cases z3
  all_goals
   refine spec_of Tryz.func85 rfl rfl rfl (by kernel_rfl) rfl fun K=>?_
   (repeat' (first|with_reducible (first|refine zA fun Kn hK=>?_|refine zU ?_|refine Nx.go ?_|go_step)|refine ⟨_,hsm,?_⟩|with_reducible (first|refine zI ?_|refine zV ?_)|simp (maxSteps:=9^9) (disch:=omega) only [wq]|with_reducible refine zM (fun hb=>?_) (fun hb=>?_)<;>try simp only [hb]|with_reducible refine And.intro (by first|omega|(simp;done)|(simp;omega)) ?_|simp (maxSteps:=9^9) -implicitDefEqProofs only [go_sem,n0,e3,decide_true,bne,Bool.not_true,Bool.not_false]))
   all_goals rfl
 | true =>
  rw [hl] at n0
  rw [if_pos rfl,if_pos rfl]
  clear hl hsm
  obtain ⟨zd,hzd⟩: ∃ z,c.dlg=z:=⟨_,rfl⟩
  rw [hzd]
  obtain ⟨V,E,hpv,hV,hE⟩: ∃ (V:Tree) (E:Int),Spec Tryz.prog G 95 [.g [t0,t1,t2,t3,t4,t5,t6,t7,t8,t9]] (.many [.g (treeC V),.c (.v (.int .i64 E))])∧(if tMay c.tag=true then c.tag.val else zeroT)=V∧(if tMay c.tag=true then (0:Int) else 13)=E:=by
   cases hq:tMay c.tag with
   | true =>
    rw [hq,if_pos rfl] at hp
    exact ⟨_,_,hp,if_pos rfl,if_pos rfl⟩
   | false =>
    rw [hq,if_neg (by decide)] at hp
    refine ⟨zeroT,13,?_,if_neg (by decide),if_neg (by decide)⟩
    rw [zeroT_C]
    exact hp
  rw [hV,hE]
  clear hp hV hE
  have pr:=pair_m (G:=G) wTagW V rfl (by decide)
  cases zd with
  | false =>
   rw [if_neg (by decide),show []++[pairT wTagW V]=[pairT wTagW V] from rfl,List.flatMap_cons,List.flatMap_nil,List.append_nil]
   rw [treeC_eq (pairT wTagW V)] at pr ⊢
   rw [treeC_eq V] at pr hpv
   generalize pairT wTagW V=W at *
   unfold wTagW at *
   simp only [bD,bytesD,List.cons_append,List.nil_append] at *
   refine spec_of Tryz.func85 rfl rfl rfl (by kernel_rfl) rfl fun K=>?_
   (repeat' (first|with_reducible (first|refine zA fun Kn hK=>?_|refine zU ?_|refine Nx.go ?_|go_step)|refine ⟨none,?_⟩|refine ⟨_,hpv,?_⟩|refine ⟨_,pr,?_⟩|with_reducible (first|refine zI ?_|refine zV ?_)|simp (maxSteps:=9^9) (disch:=omega) only [wq]|with_reducible refine zM (fun hb=>?_) (fun hb=>?_)<;>try simp only [hb]|with_reducible refine And.intro (by first|omega|(simp;done)|(simp;omega)) ?_|simp (maxSteps:=9^9) -implicitDefEqProofs only [go_sem,n0,hzd,rep1,decide_true,bne,Bool.not_true,Bool.not_false]))
   all_goals rfl
  | true =>
   rw [if_pos rfl,show [propT]++[pairT wTagW V]=[propT,pairT wTagW V] from rfl,List.flatMap_cons,List.flatMap_cons,List.flatMap_nil,List.append_nil]
   have a0:=atom_m (G:=G) wProp (by decide)
   have hli:=list_m (G:=G) [atomT wProp] (by simp)
   rw [List.flatMap_cons,List.flatMap_nil,List.append_nil] at hli
   rw [show treeC (.mk true false [] [] [atomT wProp])=treeC propT from rfl] at hli
   unfold atomT at hli
   rw [treeC_mk] at hli
   rw [treeC_mk] at a0
   rw [treeC_eq propT] at hli ⊢
   rw [treeC_eq (pairT wTagW V)] at pr ⊢
   rw [treeC_eq V] at pr hpv
   generalize pairT wTagW V=W at *
   generalize propT=X at *
   unfold wTagW wProp at *
   simp only [bD,bytesD,List.cons_append,List.nil_append] at *
   refine spec_of Tryz.func85 rfl rfl rfl (by kernel_rfl) rfl fun K=>?_
   (repeat' (first|with_reducible (first|refine zA fun Kn hK=>?_|refine zU ?_|refine Nx.go ?_|go_step)|refine ⟨none,?_⟩|refine ⟨_,a0,?_⟩|refine ⟨_,hli,?_⟩|refine ⟨_,hpv,?_⟩|refine ⟨_,pr,?_⟩|with_reducible (first|refine zI ?_|refine zV ?_)|simp (maxSteps:=9^9) (disch:=omega) only [wq]|with_reducible refine zM (fun hb=>?_) (fun hb=>?_)<;>try simp only [hb]|with_reducible refine And.intro (by first|omega|(simp;done)|(simp;omega)) ?_|simp (maxSteps:=9^9) -implicitDefEqProofs only [go_sem,n0,hzd,rep1,decide_true,bne,Bool.not_true,Bool.not_false]))
   all_goals rfl
end
noncomputable def all3 (c:Ct):Bool:=keyMay c.ks c.kd&&(c.sub.may&&rOk c)
def winO (w:Wd):List Tree:=if w=Wd.none then [] else [if w.may=true then w.val else zeroT]
noncomputable def cvalO (c:Ct):Tree:=if all3 c then listT (atomT wCert::pairT wIssuer (issV c)::pairT wSubject c.sub.val::(rightsO c++winO c.win)) else zeroT
theorem ok_all3 (c:Ct):c.ok=(all3 c&&c.win.may):=by
 unfold Ct.ok all3
 rw [Bool.and_assoc,Bool.and_assoc]
theorem rightsE_ok (c:Ct):(rightsE c==0)=rOk c:=by
 unfold rightsE rOk
 cases emptyL c.label with
 | true =>
  rw [if_pos rfl,if_pos rfl]
  cases tMay c.tag<;>rfl
 | false =>
  have h1:(if false=true then (if tMay c.tag=true then (0:Int) else 13) else if (if false=true then tMay c.tag else !c.dlg&&(isZ c.tag&& !decide (c.sub.kind=3)))=true then 0 else 3)=if (!c.dlg&&(isZ c.tag&& !decide (c.sub.kind=3)))=true then 0 else 3:=rfl
  rw [h1]
  have h2:(if false=true then tMay c.tag else !c.dlg&&(isZ c.tag&& !decide (c.sub.kind=3)))=(!c.dlg&&(isZ c.tag&& !decide (c.sub.kind=3))):=rfl
  rw [h2]
  cases (!c.dlg&&(isZ c.tag&& !decide (c.sub.kind=3)))<;>rfl
theorem rights_rest {c:Ct} (h:rOk c=true):rightsO c++winL c.win=restL c:=by
 unfold rightsO restL tailV
 unfold rOk at h
 cases hl:emptyL c.label with
 | true =>
  rw [hl] at h
  have h:tMay c.tag=true:=h
  rw [if_pos rfl,if_pos rfl,if_pos h,List.append_assoc]
  rfl
 | false=>rfl
theorem cval_ok {c:Ct} (h:c.ok=true):cvalO c=c.val:=by
 rw [ok_all3,Bool.and_eq_true] at h
 unfold cvalO
 rw [if_pos h.1]
 have h2:=h.1
 unfold all3 at h2
 simp only [Bool.and_eq_true] at h2
 unfold Ct.val
 rw [← rights_rest h2.2.2]
 unfold winO winL
 rw [if_pos h.2]
theorem rightsO_len (c:Ct):(rightsO c).length≤2:=by
 unfold rightsO
 cases emptyL c.label<;>cases c.dlg<;>simp
section
variable {G:Nat→Option (List D)}
theorem cvalue_m (hG:G 0=some powD) (c:Ct) {cs:List D} (hcs:ctC c=cs) (hf:c.fit):Spec Tryz.prog G 45 [.g cs] (.many [.g (treeC (cvalO c)),.c (.v (.bool c.ok))]):=by
 subst hcs
 obtain ⟨s1,s2,s3,s4,s5,hs⟩:=sb_cells c.sub
 obtain ⟨t0,t1,t2,t3,t4,t5,t6,t7,t8,t9,ht⟩:=tag_cells c.tag
 have hct:ctC c=[.v (.bool c.ks),bytesD c.kd,bytesD c.label,.v (.int .u8 (c.sub.kind.toNat:Int)),s1,s2,s3,s4,s5,.v (.bool c.dlg),t0,t1,t2,t3,t4,t5,t6,t7,t8,t9,.v (.bool c.win.aft),.v (.int .i64 c.win.frm),.v (.bool c.win.unt),.v (.int .i64 c.win.to)]:=by
  unfold ctC wdC
  rw [hs,ht]
  rfl
 have h1:=issuer_m (G:=G) c rfl hf.kd hf.label
 have h2:=sbput_m (G:=G) hG c.sub rfl hf.sub
 have h3:=rights_m (G:=G) hG c rfl hf
 have h4:=wput_m (G:=G) c.win
 have hke:keyErr c.ks c.kd=if keyMay c.ks c.kd=true then 0 else 7:=by
  rw [keyErr]
 have hre:=rightsE_ok c
 have hiss:keyMay c.ks c.kd=true→issO c=issV c:=fun h=>by rw [issO,if_pos h]
 rw [hke] at h1
 clear hke
 rw [ok_all3]
 have hall:all3 c=(keyMay c.ks c.kd&&(c.sub.may&&rOk c)):=rfl
 have hcv:cvalO c=if all3 c=true then listT (atomT wCert::pairT wIssuer (issV c)::pairT wSubject c.sub.val::(rightsO c++winO c.win)) else zeroT:=rfl
 rw [hcv]
 clear hcv
 rw [hall]
 clear hall
 unfold sputD at h2
 rw [hct] at h1 h3 ⊢
 rw [hs] at h2
 clear hs ht hct
 obtain ⟨R,hR⟩: ∃ R,rightsO c=R:=⟨_,rfl⟩
 have hRl:=rightsO_len c
 rw [hR] at h3 hRl ⊢
 clear hR
 generalize hE:rightsE c=E at *
 obtain ⟨RC,hRC⟩: ∃ RC,R.flatMap treeC=RC:=⟨_,rfl⟩
 have hRCl:RC.length=R.length*5:=by rw [← hRC,treeC_flen]
 generalize rOk c=z3 at *
 cases hz1:keyMay c.ks c.kd with
 | false =>
  rw [hz1] at h1
  rw [if_neg (by decide)] at h1
  rw [Bool.false_and,Bool.false_and,if_neg (by decide),zeroT_C]
  rw [treeC_eq] at h1 h2
  generalize (if c.sub.may=true then (0:Int) else 7)=E2 at *
  rw [hRC] at h3
  clear hre hiss h4
  simp only [bD,bytesD] at *
  refine spec_of Tryz.func45 rfl rfl rfl (by kernel_rfl) rfl fun K=>?_
  (repeat' (first|with_reducible (first|refine zA fun Kn hK=>?_|refine zU ?_|refine Nx.go ?_|go_step)|refine ⟨_,h1,?_⟩|refine ⟨_,h2,?_⟩|refine ⟨_,h3,?_⟩|with_reducible (first|refine zI ?_|refine zV ?_)|simp (maxSteps:=9^9) (disch:=omega) only [wq]|with_reducible refine zM (fun hb=>?_) (fun hb=>?_)<;>try simp only [hb]|with_reducible refine And.intro (by first|omega|(simp;done)|(simp;omega)) ?_|simp (maxSteps:=9^9) -implicitDefEqProofs only [go_sem,decide_true,bne,Bool.not_true,Bool.not_false]))
  all_goals rfl
 | true =>
  rw [hz1] at h1
  rw [if_pos rfl,hiss hz1] at h1
  rw [Bool.true_and]
  cases hz2:c.sub.may with
  | false =>
   rw [hz2] at h2
   rw [if_neg (by decide),if_neg (by decide)] at h2
   rw [Bool.false_and,Bool.false_and,if_neg (by decide)]
   rw [zeroT_C] at h2 ⊢
   rw [treeC_eq] at h1
   rw [hRC] at h3
   clear hre hiss h4
   simp only [bD,bytesD] at *
   refine spec_of Tryz.func45 rfl rfl rfl (by kernel_rfl) rfl fun K=>?_
   (repeat' (first|with_reducible (first|refine zA fun Kn hK=>?_|refine zU ?_|refine Nx.go ?_|go_step)|refine ⟨_,h1,?_⟩|refine ⟨_,h2,?_⟩|refine ⟨_,h3,?_⟩|with_reducible (first|refine zI ?_|refine zV ?_)|simp (maxSteps:=9^9) (disch:=omega) only [wq]|with_reducible refine zM (fun hb=>?_) (fun hb=>?_)<;>try simp only [hb]|with_reducible refine And.intro (by first|omega|(simp;done)|(simp;omega)) ?_|simp (maxSteps:=9^9) -implicitDefEqProofs only [go_sem,decide_true,bne,Bool.not_true,Bool.not_false]))
   all_goals rfl
  | true =>
   rw [hz2] at h2
   rw [if_pos rfl,if_pos rfl] at h2
   rw [Bool.true_and]
   cases z3 with
   | false =>
    rw [Bool.false_and,if_neg (by decide),zeroT_C]
    rw [treeC_eq] at h1 h2
    rw [hRC] at h3
    clear hiss h4
    simp only [bD,bytesD] at *
    refine spec_of Tryz.func45 rfl rfl rfl (by kernel_rfl) rfl fun K=>?_
    (repeat' (first|with_reducible (first|refine zA fun Kn hK=>?_|refine zU ?_|refine Nx.go ?_|go_step)|refine ⟨_,h1,?_⟩|refine ⟨_,h2,?_⟩|refine ⟨_,h3,?_⟩|with_reducible (first|refine zI ?_|refine zV ?_)|simp (maxSteps:=9^9) (disch:=omega) only [wq]|with_reducible refine zM (fun hb=>?_) (fun hb=>?_)<;>try simp only [hb]|with_reducible refine And.intro (by first|omega|(simp;done)|(simp;omega)) ?_|simp (maxSteps:=9^9) -implicitDefEqProofs only [go_sem,hre,decide_true,bne,Bool.not_true,Bool.not_false]))
    all_goals rfl
   | true =>
    rw [Bool.true_and,if_pos rfl]
    obtain rfl:E=0:=by simpa using hre
    have a0:=atom_m (G:=G) wCert (by decide)
    have p1:=pair_m (G:=G) wIssuer (issV c) rfl (by decide)
    have p2:=pair_m (G:=G) wSubject c.sub.val rfl (by decide)
    have k1:=win_key hf.win
    have k2:=win_key none_64
    clear hre hiss hz1 hz2 hE
    generalize issV c=I at *
    generalize c.sub.val=U at *
    have hX: ∀ (W:List Tree),W.length≤1→Spec Tryz.prog G 51 [.c (.sl (3+R.length+W.length) (treeC (atomT wCert)++treeC (pairT wIssuer I)++treeC (pairT wSubject U)++RC++W.flatMap treeC))] (.one (.g (treeC (listT (atomT wCert::pairT wIssuer I::pairT wSubject U::(R++W)))))):=fun W hW=>by
     have:=list_m (G:=G) (atomT wCert::pairT wIssuer I::pairT wSubject U::(R++W)) (by simp only [List.length_cons,List.length_append];omega)
     rw [show treeC (.mk true false [] [] (atomT wCert::pairT wIssuer I::pairT wSubject U::(R++W)))=treeC (listT (atomT wCert::pairT wIssuer I::pairT wSubject U::(R++W))) from rfl] at this
     rw [List.flatMap_cons,List.flatMap_cons,List.flatMap_cons,List.flatMap_append,hRC,List.length_cons,List.length_cons,List.length_cons,List.length_append,show R.length+W.length+1+1+1=3+R.length+W.length by omega] at this
     simpa only [List.append_assoc] using this
    rw [hRC] at h3
    rw [treeC_eq I] at h1 p1
    rw [treeC_eq U] at h2 p2
    rw [treeC_mk] at a0
    have hA0:treeC (atomT wCert)=[.v (.bool false),.v (.bool false),bytesD [],bytesD wCert,.sl 0 []]:=by
     unfold atomT
     rw [treeC_mk]
     rfl
    generalize c.win=w at *
    generalize hP1:pairT wIssuer I=P1 at *
    generalize hP2:pairT wSubject U=P2 at *
    rw [hA0,treeC_eq P1,treeC_eq P2] at hX
    rw [treeC_eq P1] at p1
    rw [treeC_eq P2] at p2
    unfold winO
    unfold wputD wdC at h4
    by_cases hw:w=Wd.none
    ·rw [if_pos (show w.may=true by rw [hw];decide)] at h4
     rw [if_pos hw,show w.may=true by rw [hw];decide]
     have hX0:=hX [] (by decide)
     rw [List.flatMap_nil,List.append_nil,List.length_nil,Nat.add_zero] at hX0
     rw [List.append_nil] at hX0 ⊢
     generalize listT (atomT wCert::P1::P2::R)=LT at *
     rw [treeC_eq LT] at hX0 ⊢
     clear hX
     rw [treeC_eq w.val] at h4
     generalize w.val=WV at *
     unfold wCert wIssuer wSubject at *
     simp only [bD,bytesD] at *
     have hh:(true=true)↔wdLit w=wdLit Wd.none:=win_key_eq (by rw [decide_eq_true hw])
     clear hw
     refine spec_of Tryz.func45 rfl rfl rfl (by kernel_rfl) rfl fun K=>?_
     (repeat' (first|with_reducible (first|refine zA fun Kn hK=>?_|refine zU ?_|refine Nx.go ?_|go_step)|refine ⟨none,?_⟩|refine ⟨_,h1,?_⟩|refine ⟨_,h2,?_⟩|refine ⟨_,h3,?_⟩|refine ⟨_,a0,?_⟩|refine ⟨_,p1,?_⟩|refine ⟨_,p2,?_⟩|refine ⟨_,h4,?_⟩|refine ⟨_,hX0,?_⟩|(refine run_agg_neq (by kernel_rfl) k1 k2 hh ?_)|with_reducible (first|refine zI ?_|refine zV ?_)|simp (maxSteps:=9^9) (disch:=omega) only [wq]|with_reducible refine zM (fun hb=>?_) (fun hb=>?_)<;>try simp only [hb]|with_reducible refine And.intro (by first|omega|(simp;done)|(simp;omega)) ?_|simp (maxSteps:=9^9) -implicitDefEqProofs only [go_sem,rep1,hRCl,List.length_map,List.length_append,dOnly_mapd,decide_true,bne,Bool.not_true,Bool.not_false]))
     all_goals rfl
    ·rw [if_neg hw]
     obtain ⟨WV,WE,h5,hV,hE5⟩: ∃ (WV:Tree) (WE:Int),Spec Tryz.prog G 87 [.g [.v (.bool w.aft),.v (.int .i64 w.frm),.v (.bool w.unt),.v (.int .i64 w.to)]] (.many [.g (treeC WV),.c (.v (.int .i64 WE))])∧(if w.may=true then w.val else zeroT)=WV∧(WE==0)=w.may:=by
      cases hq:w.may with
      | true =>
       rw [hq,if_pos rfl] at h4
       exact ⟨_,_,h4,if_pos rfl,rfl⟩
      | false =>
       rw [hq,if_neg (by decide)] at h4
       refine ⟨zeroT,11,?_,if_neg (by decide),rfl⟩
       rw [zeroT_C]
       exact h4
     rw [hV]
     clear h4 hV
     generalize w.may=q at *
     have hX0:=hX [WV] (by simp)
     rw [List.flatMap_cons,List.flatMap_nil,List.append_nil,List.length_singleton] at hX0
     generalize listT (atomT wCert::P1::P2::(R++[WV]))=LT at *
     rw [treeC_eq LT] at hX0 ⊢
     rw [treeC_eq WV] at hX0 h5
     clear hX
     unfold wCert wIssuer wSubject at *
     simp only [bD,bytesD] at *
     have hh:(false=true)↔wdLit w=wdLit Wd.none:=win_key_eq (by rw [decide_eq_false hw])
     clear hw
     refine spec_of Tryz.func45 rfl rfl rfl (by kernel_rfl) rfl fun K=>?_
     (repeat' (first|with_reducible (first|refine zA fun Kn hK=>?_|refine zU ?_|refine Nx.go ?_|go_step)|refine ⟨none,?_⟩|refine ⟨_,h1,?_⟩|refine ⟨_,h2,?_⟩|refine ⟨_,h3,?_⟩|refine ⟨_,a0,?_⟩|refine ⟨_,p1,?_⟩|refine ⟨_,p2,?_⟩|refine ⟨_,h5,?_⟩|refine ⟨_,hX0,?_⟩|(refine run_agg_neq (by kernel_rfl) k1 k2 hh ?_)|with_reducible (first|refine zI ?_|refine zV ?_)|simp (maxSteps:=9^9) (disch:=omega) only [wq]|with_reducible refine zM (fun hb=>?_) (fun hb=>?_)<;>try simp only [hb]|with_reducible refine And.intro (by first|omega|(simp;done)|(simp;omega)) ?_|simp (maxSteps:=9^9) -implicitDefEqProofs only [go_sem,rep1,hRCl,hE5,List.length_map,List.length_append,dOnly_mapd,decide_true,bne,Bool.not_true,Bool.not_false]))
     all_goals rfl
end
theorem zeroT_wt:zeroT.wt=1:=by
 unfold zeroT
 rw [Tree.wt_eq]
 rfl
theorem winV_wt (w:Wd):w.val.wt≤100:=by
 have e: ∀ (x:List UInt8) (n:Int),x.length≤10→(endV x n).wt≤32:=fun x n h=>by
  unfold endV
  rw [wt_listT]
  simp only [List.map_cons,List.map_nil,List.sum_cons,List.sum_nil,wt_atomT,dateS_len]
  omega
 have e1:=e wNB w.frm (by decide)
 have e2:=e wNA w.to (by decide)
 unfold Wd.val wdK
 rw [wt_listT,List.map_cons,List.sum_cons,wt_atomT,List.map_append,List.sum_append]
 have k1:((if w.aft=true then [endV wNB w.frm] else []).map Tree.wt).sum≤32:=by
  split
  ·simp only [List.map_cons,List.map_nil,List.sum_cons,List.sum_nil];omega
  ·simp
 have k2:((if w.unt=true then [endV wNA w.to] else []).map Tree.wt).sum≤32:=by
  split
  ·simp only [List.map_cons,List.map_nil,List.sum_cons,List.sum_nil];omega
  ·simp
 have k3:wValid.length=5:=rfl
 omega
theorem pairT_wt (w:List UInt8) (v:Tree):(pairT w v).wt=2+w.length+v.wt:=by
 unfold pairT
 rw [wt_listT]
 simp only [List.map_cons,List.map_nil,List.sum_cons,List.sum_nil,wt_atomT]
 omega
theorem issV_wt {c:Ct} (hm:keyMay c.ks c.kd=true):(issV c).wt≤300+c.kd.length+c.label.length:=by
 have ho:=out_wt (s:=c.ks) (d:=c.kd)
 rw [keyOut,if_pos hm] at ho
 unfold issV
 split
 ·omega
 ·rw [wt_listT]
  have:tName.length=4:=rfl
  simp only [List.map_cons,List.map_nil,List.sum_cons,List.sum_nil,wt_atomT]
  omega
theorem propT_wt:propT.wt=11:=by
 unfold propT
 rw [wt_listT]
 simp only [List.map_cons,List.map_nil,List.sum_cons,List.sum_nil,wt_atomT]
 rfl
theorem cval_wt {c:Ct} (hf:c.fit):(cvalO c).wt≤30000000:=by
 unfold cvalO
 split
 ·rename_i h
  unfold all3 at h
  simp only [Bool.and_eq_true] at h
  obtain ⟨h1,h2,h3⟩:=h
  rw [Sb.may,Bool.and_eq_true] at h2
  have a1:=issV_wt h1
  have a2:=sval_wt hf.sub h2.1
  have a3:=val_wt c.tag
  have a4:=winV_wt c.win
  have f1:=hf.kd
  have f2:=hf.label
  have f3:=hf.wt
  have f4:=hf.nodes
  have r1:((rightsO c).map Tree.wt).sum≤2100000:=by
   unfold rightsO
   have k:wTagW.length=3:=rfl
   have e:(if tMay c.tag=true then c.tag.val else zeroT).wt≤2040000:=by
    split
    ·omega
    ·rw [zeroT_wt];omega
   split
   ·rw [List.map_append,List.sum_append,List.map_cons,List.map_nil,List.sum_cons,List.sum_nil,pairT_wt]
    have:((if c.dlg=true then [propT] else []).map Tree.wt).sum≤11:=by
     split
     ·rw [List.map_cons,List.map_nil,List.sum_cons,List.sum_nil,propT_wt];omega
     ·simp
    omega
   ·simp
  have r2:((winO c.win).map Tree.wt).sum≤101:=by
   unfold winO
   split
   ·simp
   ·rw [List.map_cons,List.map_nil,List.sum_cons,List.sum_nil]
    split
    ·omega
    ·rw [zeroT_wt];omega
  have k1:wCert.length=4:=rfl
  have k2:wIssuer.length=6:=rfl
  have k3:wSubject.length=7:=rfl
  rw [wt_listT]
  simp only [List.map_cons,List.sum_cons,List.map_append,List.sum_append,wt_atomT,pairT_wt]
  omega
 ·rw [zeroT_wt]
  omega
section
variable {G:Nat→Option (List D)}
noncomputable def cputD (c:Ct):DR:= .many [.g (treeC (if c.may then c.val else zeroT)),.c (.v (.int .i64 (if c.may then 0 else 3)))]
theorem cput_m (hG:G 0=some powD) (c:Ct) {cs:List D} (hcs:ctC c=cs) (hf:c.fit):Spec Tryz.prog G 15 [.g cs] (cputD c):=by
 subst hcs
 have h1:=cvalue_m (G:=G) hG c rfl hf
 have h2:=sxmay_m (G:=G) hG (cvalO c) rfl (cval_wt hf)
 have hm:c.may=(c.ok&&(cvalO c).may):=by
  rw [Ct.may]
  cases hk:c.ok with
  | false=>rfl
  | true=>rw [cval_ok hk]
 have hv:c.ok=true→cvalO c=c.val:=cval_ok
 obtain ⟨s1,s2,s3,s4,s5,hs⟩:=sb_cells c.sub
 obtain ⟨t0,t1,t2,t3,t4,t5,t6,t7,t8,t9,ht⟩:=tag_cells c.tag
 have hct:ctC c=[.v (.bool c.ks),bytesD c.kd,bytesD c.label,.v (.int .u8 (c.sub.kind.toNat:Int)),s1,s2,s3,s4,s5,.v (.bool c.dlg),t0,t1,t2,t3,t4,t5,t6,t7,t8,t9,.v (.bool c.win.aft),.v (.int .i64 c.win.frm),.v (.bool c.win.unt),.v (.int .i64 c.win.to)]:=by
  unfold ctC wdC
  rw [hs,ht]
  rfl
 unfold cputD
 rw [hm]
 rw [hct] at h1 ⊢
 clear hs ht hct hm
 generalize (cvalO c).may=q at *
 generalize cvalO c=V at *
 generalize c.ok=ok at *
 rw [treeC_eq V] at h1 h2
 cases ok with
 | false =>
  rw [Bool.false_and,if_neg (by decide),if_neg (by decide),zeroT_C]
  clear hv
  simp only [bD,bytesD] at *
  refine spec_of Tryz.func15 rfl rfl rfl (by kernel_rfl) rfl fun K=>?_
  (repeat' (first|with_reducible (first|refine zA fun Kn hK=>?_|refine zU ?_|refine Nx.go ?_|go_step)|refine ⟨_,h1,?_⟩|refine ⟨_,h2,?_⟩|with_reducible (first|refine zI ?_|refine zV ?_)|simp (maxSteps:=9^9) (disch:=omega) only [wq]|with_reducible refine zM (fun hb=>?_) (fun hb=>?_)<;>try simp only [hb]|with_reducible refine And.intro (by first|omega|(simp;done)|(simp;omega)) ?_|simp (maxSteps:=9^9) -implicitDefEqProofs only [go_sem,decide_true,bne,Bool.not_true,Bool.not_false]))
  all_goals rfl
 | true =>
  rw [Bool.true_and]
  have hv:=hv rfl
  cases q with
  | false =>
   rw [if_neg (by decide),if_neg (by decide),zeroT_C]
   clear hv
   simp only [bD,bytesD] at *
   refine spec_of Tryz.func15 rfl rfl rfl (by kernel_rfl) rfl fun K=>?_
   (repeat' (first|with_reducible (first|refine zA fun Kn hK=>?_|refine zU ?_|refine Nx.go ?_|go_step)|refine ⟨_,h1,?_⟩|refine ⟨_,h2,?_⟩|with_reducible (first|refine zI ?_|refine zV ?_)|simp (maxSteps:=9^9) (disch:=omega) only [wq]|with_reducible refine zM (fun hb=>?_) (fun hb=>?_)<;>try simp only [hb]|with_reducible refine And.intro (by first|omega|(simp;done)|(simp;omega)) ?_|simp (maxSteps:=9^9) -implicitDefEqProofs only [go_sem,decide_true,bne,Bool.not_true,Bool.not_false]))
   all_goals rfl
  | true =>
   rw [if_pos rfl,if_pos rfl,← hv]
   rw [treeC_eq V]
   clear hv
   simp only [bD,bytesD] at *
   refine spec_of Tryz.func15 rfl rfl rfl (by kernel_rfl) rfl fun K=>?_
   (repeat' (first|with_reducible (first|refine zA fun Kn hK=>?_|refine zU ?_|refine Nx.go ?_|go_step)|refine ⟨_,h1,?_⟩|refine ⟨_,h2,?_⟩|with_reducible (first|refine zI ?_|refine zV ?_)|simp (maxSteps:=9^9) (disch:=omega) only [wq]|with_reducible refine zM (fun hb=>?_) (fun hb=>?_)<;>try simp only [hb]|with_reducible refine And.intro (by first|omega|(simp;done)|(simp;omega)) ?_|simp (maxSteps:=9^9) -implicitDefEqProofs only [go_sem,decide_true,bne,Bool.not_true,Bool.not_false]))
   all_goals rfl
theorem cmay_m (hG:G 0=some powD) (c:Ct) {cs:List D} (hcs:ctC c=cs) (hf:c.fit):Spec Tryz.prog G 31 [.g cs] (.one (.c (.v (.bool c.may)))):=by
 subst hcs
 have h1:=cput_m (G:=G) hG c rfl hf
 obtain ⟨s1,s2,s3,s4,s5,hs⟩:=sb_cells c.sub
 obtain ⟨t0,t1,t2,t3,t4,t5,t6,t7,t8,t9,ht⟩:=tag_cells c.tag
 have hct:ctC c=[.v (.bool c.ks),bytesD c.kd,bytesD c.label,.v (.int .u8 (c.sub.kind.toNat:Int)),s1,s2,s3,s4,s5,.v (.bool c.dlg),t0,t1,t2,t3,t4,t5,t6,t7,t8,t9,.v (.bool c.win.aft),.v (.int .i64 c.win.frm),.v (.bool c.win.unt),.v (.int .i64 c.win.to)]:=by
  unfold ctC wdC
  rw [hs,ht]
  rfl
 unfold cputD at h1
 rw [hct] at h1 ⊢
 clear hs ht hct
 generalize (if c.may=true then c.val else zeroT)=V at *
 generalize c.may=q at *
 rw [treeC_eq V] at h1
 cases q
 all_goals
  simp only [bD,bytesD,if_true,Bool.false_eq_true,if_false] at *
  refine spec_of Tryz.func31 rfl rfl rfl (by kernel_rfl) rfl fun K=>?_
  (repeat' (first|with_reducible (first|refine zA fun Kn hK=>?_|refine zU ?_|refine Nx.go ?_|go_step)|refine ⟨_,h1,?_⟩|with_reducible (first|refine zI ?_|refine zV ?_)|simp (maxSteps:=9^9) (disch:=omega) only [wq]|with_reducible refine zM (fun hb=>?_) (fun hb=>?_)<;>try simp only [hb]|with_reducible refine And.intro (by first|omega|(simp;done)|(simp;omega)) ?_|simp (maxSteps:=9^9) -implicitDefEqProofs only [go_sem,decide_true,bne,Bool.not_true,Bool.not_false]))
  all_goals rfl
theorem certof_m (v:Tree) {cs:List D} (hcs:treeC v=cs) (hw: ∀ x∈v.kids,x.data.length≤30000000):Spec Tryz.prog G 102 [.g cs] (.many [.c (.v (.string ⟨(ofP v).1.toArray⟩)),.g (treeC (ofP v).2)]):=by
 subst hcs
 have ev:=treeC_eq v
 rw [ev]
 clear ev
 unfold ofP
 generalize v.kids=L at *
 match L with
 | [] =>
  have k0:(((0:Nat):Int)==0)=true:=rfl
  rw [zeroT_C]
  simp only [bD,bytesD] at *
  refine spec_of Tryz.func102 rfl rfl rfl (by kernel_rfl) rfl fun K=>?_
  (repeat' (first|with_reducible (first|refine zA fun Kn hK=>?_|refine zU ?_|refine Nx.go ?_|go_step)|with_reducible (first|refine zI ?_|refine zV ?_)|simp (maxSteps:=9^9) (disch:=omega) only [wq]|with_reducible refine zM (fun hb=>?_) (fun hb=>?_)<;>try simp only [hb]|with_reducible refine And.intro (by first|omega|(simp;done)|(simp;omega)) ?_|simp (maxSteps:=9^9) -implicitDefEqProofs only [go_sem,k0,List.length_nil,decide_true,bne,Bool.not_true,Bool.not_false]))
  all_goals rfl
 | [a] =>
  have ha:=hw a (by simp)
  have k1:(((1:Nat):Int)==0)=false:=rfl
  have k2:(((1:Nat):Int)==1)=true:=rfl
  rw [zeroT_C]
  simp only [bD,bytesD,List.flatMap_cons,List.flatMap_nil,treeC_eq a,List.cons_append,List.nil_append,List.append_nil,List.length_cons,List.length_nil] at *
  refine spec_of Tryz.func102 rfl rfl rfl (by kernel_rfl) rfl fun K=>?_
  (repeat' (first|with_reducible (first|refine zA fun Kn hK=>?_|refine zU ?_|refine Nx.go ?_|go_step)|with_reducible (first|refine zI ?_|refine zV ?_)|simp (maxSteps:=9^9) (disch:=omega) only [wq]|with_reducible refine zM (fun hb=>?_) (fun hb=>?_)<;>try simp only [hb]|with_reducible refine And.intro (by first|omega|(simp;done)|(simp;omega)) ?_|simp (maxSteps:=9^9) -implicitDefEqProofs only [go_sem,k1,k2,List.length_nil,decide_true,bne,Bool.not_true,Bool.not_false]))
  all_goals rfl
 | a::b::m =>
  have ha:=hw a (by simp)
  have k1:(((m.length+1+1:Nat):Int)==0)=false:=by rw [beq_eq_false_iff_ne];omega
  have k2:(((m.length+1+1:Nat):Int)==1)=false:=by rw [beq_eq_false_iff_ne];omega
  simp only [bD,bytesD,List.flatMap_cons,List.flatMap_nil,treeC_eq a,treeC_eq b,List.cons_append,List.nil_append,List.append_nil,List.length_cons,List.length_nil] at *
  refine spec_of Tryz.func102 rfl rfl rfl (by kernel_rfl) rfl fun K=>?_
  (repeat' (first|with_reducible (first|refine zA fun Kn hK=>?_|refine zU ?_|refine Nx.go ?_|go_step)|with_reducible (first|refine zI ?_|refine zV ?_)|simp (maxSteps:=9^9) (disch:=omega) only [wq]|with_reducible refine zM (fun hb=>?_) (fun hb=>?_)<;>try simp only [hb]|with_reducible refine And.intro (by first|omega|(simp;done)|(simp;omega)) ?_|simp (maxSteps:=9^9) -implicitDefEqProofs only [go_sem,k1,k2,List.length_nil,decide_true,bne,Bool.not_true,Bool.not_false]))
  all_goals rfl
end
def lenT:Nat→Nat→List UInt8→Nat × Nat × Nat
 | n,i,[]=>(n,i,0)
 | n,i,c::l=>if 48≤c.toNat∧c.toNat≤57 then (if 8<c.toNat-48∨(8-(c.toNat-48))/10<n then (0,0,4) else lenT (10*n+(c.toNat-48)) (i+1) l) else (n,i,0)
theorem lenT_C: ∀ (l:List UInt8) (n i:Nat),(lenT n i l).1=(lenC n l).getD 0
 | [],n,i=>rfl
 | c :: l,n,i=>by
  rw [lenT,lenC]
  split
  ·split
   ·rfl
   ·exact lenT_C l _ _
  ·rfl
def lenO (b:List UInt8):Nat × Nat × Nat:=match b with
 | []=>(0,0,2)
 | c::l=>if 48≤c.toNat∧c.toNat≤57 then (if c.toNat=48 then (0,1,0) else lenT 0 0 (c::l)) else (0,0,3)
theorem lenO_P (b:List UInt8):(lenO b).1=lenP b:=by
 unfold lenO lenP
 cases b with
 | nil=>rfl
 | cons c l =>
  dsimp only
  split
  ·split
   ·rfl
   ·exact lenT_C _ _ _
  ·rfl
section
variable {G:Nat→Option (List D)}
theorem getlen_m (b:List UInt8) (hb:b.length≤100000000):Spec Tryz.prog G 143 [.c (.sl b.length (b.map bD)),.c (.v (.int .i64 0)),.c (.v (.int .i64 8))] (.many [iD (lenO b).1,iD (lenO b).2.1,iD (lenO b).2.2]):=by
 unfold iD
 have p0:decide ((0:Int)<0)=false:=rfl
 have pn:decide ((0:Int)≥((0:Nat):Int))=true:=rfl
 by_cases hbn:b=[]
 ·subst hbn
  unfold lenO
  refine spec_of Tryz.func143 rfl rfl rfl (by kernel_rfl) rfl fun K=>?_
  (repeat' (first|with_reducible (first|refine zA fun Kn hK=>?_|refine zU ?_|refine Nx.go ?_|go_step)|with_reducible (first|refine zI ?_|refine zV ?_)|simp (maxSteps:=9^9) (disch:=omega) only [wq]|with_reducible refine zM (fun hb=>?_) (fun hb=>?_)<;>try simp only [hb]|with_reducible refine And.intro (by first|omega|(simp;done)|(simp;omega)) ?_|simp (maxSteps:=9^9) -implicitDefEqProofs only [go_sem,List.length_nil,decide_false,p0,pn,decide_true]))
  all_goals rfl
 obtain ⟨c,l,hbc⟩: ∃ c l,b=c::l:=by
  cases b with
  | nil=>exact (hbn rfl).elim
  | cons c l=>exact ⟨c,l,rfl⟩
 have hxl:=UInt8.toNat_lt c
 have hbl:0<b.length:=by rw [hbc];simp
 have p1:decide ((0:Int)≥(b.length:Int))=false:=by
  rw [decide_eq_false_iff_not]
  omega
 have z0:(b.map bD)[0]?=some (bD c):=by rw [hbc];rfl
 by_cases hd:48≤c.toNat∧c.toNat≤57
 ·have f1 : decide ((c.toNat:Int)<48)=false:=decide_eq_false (by omega)
  have f2:decide ((c.toNat:Int)>57)=false:=decide_eq_false (by omega)
  by_cases h0:c.toNat=48
  ·have e:lenO b=(0,1,0):=by
    rw [hbc]
    unfold lenO
    dsimp only
    rw [if_pos hd,if_pos h0]
   have f3:((c.toNat:Int)==48)=true:=by rw [h0];rfl
   rw [e]
   refine spec_of Tryz.func143 rfl rfl rfl (by kernel_rfl) rfl fun K=>?_
   (repeat' (first|with_reducible (first|refine zA fun Kn hK=>?_|refine zU ?_|refine Nx.go ?_|go_step)|with_reducible (first|refine zI ?_|refine zV ?_)|simp (maxSteps:=9^9) (disch:=omega) only [wq]|with_reducible refine zM (fun hb=>?_) (fun hb=>?_)<;>try simp only [hb]|with_reducible refine And.intro (by first|omega|(simp;done)|(simp;omega)) ?_|simp (maxSteps:=9^9) -implicitDefEqProofs only [go_sem,decide_false,p0,p1,z0,bD,f1,f2,f3,decide_true]))
   all_goals rfl
  ·have e:lenO b=lenT 0 0 b:=by
    rw [hbc]
    unfold lenO
    dsimp only
    rw [if_pos hd,if_neg h0]
   have f3:((c.toNat:Int)==48)=false:=by
    rw [beq_eq_false_iff_ne]
    omega
   rw [e]
   obtain ⟨R,hR⟩: ∃ R,R=lenT 0 0 b:=⟨_,rfl⟩
   rw [← hR]
   clear e hbc hbn
   refine spec_of Tryz.func143 rfl rfl rfl (by kernel_rfl) rfl fun K=>?_
   (repeat' (first|with_reducible (first|refine zA fun Kn hK=>?_|refine zU ?_|refine Nx.go ?_|go_step)|with_reducible (first|refine zI ?_|refine zV ?_)|simp (maxSteps:=9^9) (disch:=omega) only [wq]|with_reducible refine zM (fun hb=>?_) (fun hb=>?_)<;>try simp only [hb]|with_reducible refine And.intro (by first|omega|(simp;done)|(simp;omega)) ?_|simp (maxSteps:=9^9) -implicitDefEqProofs only [go_sem,decide_false,p0,p1,z0,bD,f1,f2,f3,decide_true]))
   refine sound_loopR (fun x:{p:Nat × Nat // p.2≤b.length∧p.1≤8∧R=lenT p.1 p.2 (b.drop p.2)}=>⟨[(0,vD (.sl b.length (b.map bD))),(1,vI 0),(2,vI 8),(9,vI x.1.1),(10,vI x.1.2)],[]⟩) (fun x=>b.length-x.1.2) ⟨(0,0),Nat.zero_le _,Nat.zero_le _,hR⟩ [] (by (iterate 2 ((try simp (maxSteps:=9^9) -implicitDefEqProofs only [go_sem,true_and]);(try simp (maxSteps:=9^9) (disch:=omega) only [wq])));try simp) (fun ⟨(n,i),hi,hn,he⟩=>?_)
   dsimp only at hi hn he
   by_cases hlt:i<b.length
   ·obtain ⟨x,hx⟩: ∃ x,b[i]?=some x:=⟨_,List.getElem?_eq_getElem hlt⟩
    have hb1:decide ((i:Int)<(b.length:Int))=true:=by simpa using hlt
    have hg:(b.map bD)[i]?=some (bD x):=by rw [List.getElem?_map,hx];rfl
    have hdr:b.drop i=x::b.drop (i+1):=by
     rw [List.drop_eq_getElem_cons hlt]
     rw [List.getElem?_eq_getElem hlt] at hx
     injection hx with hx
     rw [hx]
    rw [hdr,lenT] at he
    have hxl2:=UInt8.toNat_lt x
    by_cases hdx:48≤x.toNat∧x.toNat≤57
    ·have g1:decide ((x.toNat:Int)≥48)=true:=decide_eq_true (by omega)
     have g2:decide ((x.toNat:Int)≤57)=true:=decide_eq_true (by omega)
     rw [if_pos hdx] at he
     obtain ⟨d,hd9⟩: ∃ d,d=x.toNat-48:=⟨_,rfl⟩
     rw [← hd9] at he
     have hdd:(x.toNat:Int)-48=(d:Int):=by omega
     have hd10:d≤9:=by omega
     have w1:IntKind.u8.wrap ((x.toNat:Int)-48)=(d:Int):=by
      rw [hdd]
      exact IntWalk.u8_in _ (by omega)
     have w2:IntKind.i64.wrap ((8-(d:Int)).tdiv 10)=0:=by
      have:d=0∨d=1∨d=2∨d=3∨d=4∨d=5∨d=6∨d=7∨d=8∨d=9:=by omega
      rcases this with rfl|rfl|rfl|rfl|rfl|rfl|rfl|rfl|rfl|rfl<;>rfl
     have w3:(8-d)/10=0:=by omega
     rw [w3] at he
     by_cases hn0:0<n
     ·have g3:decide ((n:Int)>IntKind.i64.wrap ((8-(d:Int)).tdiv 10))=true:=by
       rw [w2]
       exact decide_eq_true (by omega)
      rw [if_pos (.inr hn0)] at he
      subst he
      have k3: ∀ {p:Prop},decide ((n:Int)>IntKind.i64.wrap ((8-(d:Int)).tdiv 10))=false→p:=fun h=>absurd (h.symm.trans g3) (by decide)
      (repeat' (first|with_reducible (first|refine zA fun Kn hK=>?_|refine zU ?_|refine Nx.go ?_|go_step)|with_reducible (first|refine zI ?_|refine zV ?_)|simp (maxSteps:=9^9) (disch:=omega) only [wq]|with_reducible refine zM (fun hb=>?_) (fun hb=>?_)<;>try simp only [hb]|with_reducible refine And.intro (by first|omega|(simp;done)|(simp;omega)) ?_|simp (maxSteps:=9^9) -implicitDefEqProofs only [go_sem,hb1,hg,bD,g1,g2,w1,List.length_map,decide_true]))
      all_goals first|rfl|exact k3 (by assumption)
     ·obtain rfl:n=0:=by omega
      have g3:decide (((0:Nat):Int)>IntKind.i64.wrap ((8-(d:Int)).tdiv 10))=false:=by
       rw [w2]
       rfl
      have k3: ∀ {p:Prop},decide (((0:Nat):Int)>IntKind.i64.wrap ((8-(d:Int)).tdiv 10))=true→p:=fun h=>absurd (h.symm.trans g3) (by decide)
      by_cases h9:8<d
      ·have g4:decide (8<(d:Int))=true:=decide_eq_true (by omega)
       rw [if_pos (.inl h9)] at he
       subst he
       have k4: ∀ {p:Prop},decide (8<(d:Int))=false→p:=fun h=>absurd (h.symm.trans g4) (by decide)
       (repeat' (first|with_reducible (first|refine zA fun Kn hK=>?_|refine zU ?_|refine Nx.go ?_|go_step)|with_reducible (first|refine zI ?_|refine zV ?_)|simp (maxSteps:=9^9) (disch:=omega) only [wq]|with_reducible refine zM (fun hb=>?_) (fun hb=>?_)<;>try simp only [hb]|with_reducible refine And.intro (by first|omega|(simp;done)|(simp;omega)) ?_|simp (maxSteps:=9^9) -implicitDefEqProofs only [go_sem,hb1,hg,bD,g1,g2,w1,List.length_map,decide_true]))
       all_goals first|rfl|exact k3 (by assumption)|exact k4 (by assumption)
      ·have g4:decide (8<(d:Int))=false:=decide_eq_false (by omega)
       rw [if_neg (by omega)] at he
       have w4:10*0+d=d:=by omega
       rw [w4] at he
       have k4: ∀ {p:Prop},decide (8<(d:Int))=true→p:=fun h=>absurd (h.symm.trans g4) (by decide)
       (repeat' (first|with_reducible (first|refine zA fun Kn hK=>?_|refine zU ?_|refine Nx.go ?_|go_step)|with_reducible (first|refine zI ?_|refine zV ?_)|simp (maxSteps:=9^9) (disch:=omega) only [wq]|with_reducible refine zM (fun hb=>?_) (fun hb=>?_)<;>try simp only [hb]|with_reducible refine And.intro (by first|omega|(simp;done)|(simp;omega)) ?_|simp (maxSteps:=9^9) -implicitDefEqProofs only [go_sem,hb1,hg,bD,g1,g2,w1,List.length_map,decide_true]))
       all_goals try first|exact k3 (by assumption)|exact k4 (by assumption)
       refine ⟨[],⟨(d,i+1),by omega,by omega,he⟩,?_⟩
       (iterate 2 ((try simp (maxSteps:=9^9) -implicitDefEqProofs only [go_sem,true_and]);(try simp (maxSteps:=9^9) (disch:=omega) only [wq])))
       try (simp only [ijq,true_and,and_true];first|done|omega|(split<;>omega)|(simp;done)|(simp;omega))
       all_goals trace_state
    ·rw [if_neg hdx] at he
     subst he
     by_cases hlo:48≤x.toNat
     ·have g1:decide ((x.toNat:Int)≥48)=true:=decide_eq_true (by omega)
      have g2:decide ((x.toNat:Int)≤57)=false:=decide_eq_false (by omega)
      (repeat' (first|with_reducible (first|refine zA fun Kn hK=>?_|refine zU ?_|refine Nx.go ?_|go_step)|with_reducible (first|refine zI ?_|refine zV ?_)|simp (maxSteps:=9^9) (disch:=omega) only [wq]|with_reducible refine zM (fun hb=>?_) (fun hb=>?_)<;>try simp only [hb]|with_reducible refine And.intro (by first|omega|(simp;done)|(simp;omega)) ?_|simp (maxSteps:=9^9) -implicitDefEqProofs only [go_sem,hb1,hg,bD,g1,g2,List.length_map,decide_true]))
      all_goals rfl
     ·have g1:decide ((x.toNat:Int)≥48)=false:=decide_eq_false (by omega)
      (repeat' (first|with_reducible (first|refine zA fun Kn hK=>?_|refine zU ?_|refine Nx.go ?_|go_step)|with_reducible (first|refine zI ?_|refine zV ?_)|simp (maxSteps:=9^9) (disch:=omega) only [wq]|with_reducible refine zM (fun hb=>?_) (fun hb=>?_)<;>try simp only [hb]|with_reducible refine And.intro (by first|omega|(simp;done)|(simp;omega)) ?_|simp (maxSteps:=9^9) -implicitDefEqProofs only [go_sem,hb1,hg,bD,g1,List.length_map,decide_true]))
      all_goals rfl
   ·have hb1:decide ((i:Int)<(b.length:Int))=false:=by simpa using hlt
    have hdr:b.drop i=[]:=List.drop_of_length_le (by omega)
    rw [hdr,lenT] at he
    subst he
    (repeat' (first|with_reducible (first|refine zA fun Kn hK=>?_|refine zU ?_|refine Nx.go ?_|go_step)|with_reducible (first|refine zI ?_|refine zV ?_)|simp (maxSteps:=9^9) (disch:=omega) only [wq]|with_reducible refine zM (fun hb=>?_) (fun hb=>?_)<;>try simp only [hb]|with_reducible refine And.intro (by first|omega|(simp;done)|(simp;omega)) ?_|simp (maxSteps:=9^9) -implicitDefEqProofs only [go_sem,hb1,decide_true]))
    all_goals rfl
 ·have e:lenO b=(0,0,3):=by
   rw [hbc]
   unfold lenO
   dsimp only
   rw [if_neg hd]
  rw [e]
  by_cases hlo:48≤c.toNat
  ·have f1:decide ((c.toNat:Int)<48)=false:=decide_eq_false (by omega)
   have f2:decide ((c.toNat:Int)>57)=true:=decide_eq_true (by omega)
   refine spec_of Tryz.func143 rfl rfl rfl (by kernel_rfl) rfl fun K=>?_
   (repeat' (first|with_reducible (first|refine zA fun Kn hK=>?_|refine zU ?_|refine Nx.go ?_|go_step)|with_reducible (first|refine zI ?_|refine zV ?_)|simp (maxSteps:=9^9) (disch:=omega) only [wq]|with_reducible refine zM (fun hb=>?_) (fun hb=>?_)<;>try simp only [hb]|with_reducible refine And.intro (by first|omega|(simp;done)|(simp;omega)) ?_|simp (maxSteps:=9^9) -implicitDefEqProofs only [go_sem,decide_false,p0,p1,z0,bD,f1,f2,decide_true]))
   all_goals rfl
  ·have f1:decide ((c.toNat:Int)<48)=true:=decide_eq_true (by omega)
   refine spec_of Tryz.func143 rfl rfl rfl (by kernel_rfl) rfl fun K=>?_
   (repeat' (first|with_reducible (first|refine zA fun Kn hK=>?_|refine zU ?_|refine Nx.go ?_|go_step)|with_reducible (first|refine zI ?_|refine zV ?_)|simp (maxSteps:=9^9) (disch:=omega) only [wq]|with_reducible refine zM (fun hb=>?_) (fun hb=>?_)<;>try simp only [hb]|with_reducible refine And.intro (by first|omega|(simp;done)|(simp;omega)) ?_|simp (maxSteps:=9^9) -implicitDefEqProofs only [go_sem,decide_false,p0,p1,z0,bD,f1,decide_true]))
   all_goals rfl
end
section
variable {G:Nat→Option (List D)}
theorem sread_m: ∀ v:Tree,∀ (cs:List D) (k:Nat),treeC v=cs→v.wt≤30000000→k≤4→Spec Tryz.prog G 121 [.g cs,.c (.v (.int .i64 (k:Int)))] (.one (.g (sbC (readS v k)))):=Tree.ind fun v ih cs k hcs hw hk4=>by
 subst hcs
 have hk:=kget_m (G:=G) v rfl hw
 have h5:=v.wt_kids
 have hkw: ∀ x∈v.kids,x.wt<v.wt:=fun x hx=>Tree.wt_kid hx
 rw [readS_eq]
 cases hg:getK v with
 | some p =>
  obtain ⟨s,d⟩:=p
  rw [hg] at hk
  rw [show keyD (some (s,d))=[.v (.bool s),bytesD d] from rfl,show (if (some (s,d)).isSome=true then (0:Int) else 7)=0 from rfl] at hk
  dsimp only
  rw [sbC_mk]
  rw [treeC_eq] at hk ⊢
  unfold bD bytesD at *
  refine spec_of Tryz.func121 rfl rfl rfl (by kernel_rfl) rfl fun K=>?_
  (repeat' (first|with_reducible (first|refine zA fun Kn hK=>?_|refine zU ?_|refine Nx.go ?_|go_step)|refine ⟨_,hk,?_⟩|with_reducible (first|refine zI ?_|refine zV ?_)|simp (maxSteps:=9^9) (disch:=omega) only [wq]|with_reducible refine zM (fun hb=>?_) (fun hb=>?_)<;>try simp only [hb]|with_reducible refine And.intro (by first|omega|(simp;done)|(simp;omega)) ?_|simp (maxSteps:=9^9) -implicitDefEqProofs only [go_sem,decide_true]))
  all_goals rfl
 | none =>
  rw [hg] at hk
  rw [show keyD none=[.v (.bool false),bytesD []] from rfl,show (if (none:Option (Bool × List UInt8)).isSome=true then (0:Int) else 7)=7 from rfl] at hk
  dsimp only
  by_cases h3:v.kids.length<3
  ·have p3:decide ((v.kids.length:Int)<3)=true:=decide_eq_true (by omega)
   rw [if_pos h3,show Sb.none= .mk 0 false [] [] 0 [] from rfl,sbC_mk]
   rw [treeC_eq] at hk ⊢
   unfold bD bytesD at *
   refine spec_of Tryz.func121 rfl rfl rfl (by kernel_rfl) rfl fun K=>?_
   (repeat' (first|with_reducible (first|refine zA fun Kn hK=>?_|refine zU ?_|refine Nx.go ?_|go_step)|refine ⟨_,hk,?_⟩|with_reducible (first|refine zI ?_|refine zV ?_)|simp (maxSteps:=9^9) (disch:=omega) only [wq]|with_reducible refine zM (fun hb=>?_) (fun hb=>?_)<;>try simp only [hb]|with_reducible refine And.intro (by first|omega|(simp;done)|(simp;omega)) ?_|simp (maxSteps:=9^9) -implicitDefEqProofs only [go_sem,p3,decide_true]))
   all_goals rfl
  ·rw [if_neg h3]
   have ev:=treeC_eq v
   rw [ev] at hk ⊢
   clear ev
   have kid0:v.kid 0=v.kids.getD 0 zeroT:=rfl
   have kid1:v.kid 1=v.kids.getD 1 zeroT:=rfl
   rw [kid0,kid1]
   clear kid0 kid1
   generalize v.kids=L at *
   obtain ⟨a,b,c,l,rfl⟩: ∃ a b c l,L=a::b::c::l:=by
    match L,h3 with
    | a::b::c::l,_=>exact ⟨a,b,c,l,rfl⟩
    | [],h=>exact absurd (by decide:([]:List Tree).length<3) h
    | [_],h=>exact absurd (by decide:1<3) h
    | [_,_],h=>exact absurd (by decide:2<3) h
   have hb:=kget_m (G:=G) b rfl (by have:=hkw b (by simp);omega)
   have hbd:b.data.length≤30000000:=by
    have:=hkw b (by simp)
    have:=b.wt_data
    omega
   have ihl: ∀ x∈c::l,∀ (cs:List D) (k:Nat),treeC x=cs→x.wt≤30000000→k≤4→Spec Tryz.prog G 121 [.g cs,.c (.v (.int .i64 (k:Int)))] (.one (.g (sbC (readS x k)))):=fun x hx=>ih x (by simp only [List.mem_cons] at hx ⊢;right;right;exact hx)
   have hml:(c::l).length≤30000000:=by
    simp only [List.length_cons] at h5 ⊢
    omega
   have hmw: ∀ x∈c::l,x.wt≤30000000:=fun x hx=>by
    have:=hkw x (by simp only [List.mem_cons] at hx ⊢;right;right;exact hx)
    omega
   have p3:decide (((l.length+1+1+1:Nat):Int)<3)=false:=by
    rw [decide_eq_false_iff_not]
    omega
   have q1:(a.data==[110,97,109,101])=decide (a.data=tName):=by
    by_cases h:a.data=tName
    ·rw [decide_eq_true h,h];rfl
    ·rw [decide_eq_false h,beq_eq_false_iff_ne];exact h
   rw [show (a::b::c::l).getD 0 zeroT=a from rfl,show (a::b::c::l).getD 1 zeroT=b from rfl,show (a::b::c::l).drop 2=c::l from rfl,show (a::b::c::l).drop 3=l from rfl]
   clear hkw ih h5
   by_cases c1:a.data=tName
   ·rw [if_pos c1]
    rw [decide_eq_true c1] at q1
    rw [sbC_mk]
    obtain ⟨s,d,hsd⟩: ∃ s d,(getK b).getD (false,[])=(s,d):=⟨_,_,rfl⟩
    have hsd2:keyD (getK b)=[.v (.bool s),bytesD d]:=by
     rw [keyD,keyC]
     cases hgb:getK b with
     | none =>
      rw [hgb] at hsd
      injection hsd with h1 h2
      subst h1 h2
      rfl
     | some q =>
      rw [hgb] at hsd
      simp only [Option.getD_some] at hsd
      subst hsd
      rfl
    rw [hsd2] at hb
    rw [hsd]
    generalize (if (getK b).isSome=true then (0:Int) else 7)=eb at *
    have hma: ∀ x∈c::l,x.data.length≤30000000:=fun x hx=>by
     have:=hmw x hx
     have:=x.wt_data
     omega
    simp only [List.flatMap_cons,treeC_eq a,treeC_eq b,List.cons_append,List.nil_append,List.length_cons] at hk ⊢
    rw [show treeC c++l.flatMap treeC=(c::l).flatMap treeC from rfl] at hk ⊢
    rw [treeC_eq b] at hb
    have hl1:l.length+1=(c::l).length:=rfl
    rw [hl1] at hk
    rw [hl1] at p3
    rw [hl1]
    clear hl1
    generalize c::l=m at *
    unfold bD bytesD at *
    refine spec_of Tryz.func121 rfl rfl rfl (by kernel_rfl) rfl fun K=>?_
    (repeat' (first|with_reducible (first|refine zA fun Kn hK=>?_|refine zU ?_|refine Nx.go ?_|go_step)|refine ⟨_,hk,?_⟩|refine ⟨_,hb,?_⟩|with_reducible (first|refine zI ?_|refine zV ?_)|simp (maxSteps:=9^9) (disch:=omega) only [wq]|with_reducible refine zM (fun hb=>?_) (fun hb=>?_)<;>try simp only [hb]|with_reducible refine And.intro (by first|omega|(simp;done)|(simp;omega)) ?_|simp (maxSteps:=9^9) -implicitDefEqProofs only [go_sem,p3,q1,List.length_cons,decide_true]))
    refine sound_voidC 7 3 1000 1 22 (by rfl) (by rfl) (by rfl) (by rfl) ?_
    refine sound_loopR (fun x:{k:Nat // k≤m.length}=>⟨[(4,vP 4 0),(7,vP 7 0),(46,vD (.sl m.length (m.flatMap treeC))),(47,vI m.length),(48,vI x.1)],[(4,some ⟨28,zeroOf Tryz.prog 28,true,false⟩),(7,some ⟨28,[.d (.v (.int .u8 2)),.d (.v (.bool s)),.d (.sl d.length (d.map bD)),.row 1000 1 0 x.1 .grow,.d (.v (.int .i64 0)),.nil],true,false⟩),(1000,some ⟨22,((m.take x.1).map fun y=>D.sl y.data.length (y.data.map bD)).map C.d,false,false⟩)]⟩) (fun x=>m.length-x.1) ⟨0,by omega⟩ [] (by (iterate 2 ((try simp (maxSteps:=9^9) -implicitDefEqProofs only [go_sem,bD,List.take_zero,List.flatMap_nil,List.map_nil]);(try simp (maxSteps:=9^9) (disch:=omega) only [wq])));try simp;exact List.take_of_length_le (by rw [treeC_flen];exact Nat.le_refl _)) (fun ⟨k,hk⟩=>?_)
    by_cases hlt:k<m.length
    ·obtain ⟨x,hx⟩: ∃ x,m[k]?=some x:=⟨_,List.getElem?_eq_getElem hlt⟩
     have hb:decide ((k:Int)<(m.length:Int))=true:=by simpa using hlt
     have hm:=List.mem_of_getElem? hx
     have ht:((m.take (k+1)).map fun y=>D.sl y.data.length (y.data.map bD))=((m.take k).map fun y=>D.sl y.data.length (y.data.map bD))++[D.sl x.data.length (x.data.map bD)]:=by
      rw [List.take_add_one,hx,List.map_append]
      rfl
     have hlen:((m.take k).map fun y=>D.sl y.data.length (y.data.map bD)).length=k:=by
      rw [List.length_map,List.length_take,Nat.min_eq_left hk]
     have hxv:=bclone_m (G:=G) x.data (by have:=hma x hm;omega)
     have hf:=flat_at treeC_len hx
     rw [treeC_eq x] at hf
     unfold bytesD at hxv hf
     generalize ((m.take k).map fun y=>D.sl y.data.length (y.data.map bD))=W at *
     (repeat' (first|with_reducible (first|refine zA fun Kn hK=>?_|refine zU ?_|refine Nx.go ?_|go_step)|refine ⟨_,hxv,?_⟩|with_reducible (first|refine zI ?_|refine zV ?_)|simp (maxSteps:=9^9) (disch:=omega) only [wq]|with_reducible refine zM (fun hb=>?_) (fun hb=>?_)<;>try simp only [hb]|with_reducible refine And.intro (by first|omega|(simp;done)|(simp;omega)) ?_|simp (maxSteps:=9^9) -implicitDefEqProofs only [go_sem,hb,rep1,hlen,List.length_map,true_and,Nat.le_refl,List.append_nil,Nat.mul_one,hf]))
     refine ⟨[(1000,58)],⟨k+1,hlt⟩,?_⟩
     rw [ht]
     (iterate 2 ((try simp (maxSteps:=9^9) -implicitDefEqProofs only [go_sem,bD]);(try simp (maxSteps:=9^9) (disch:=omega) only [wq])))
     (simp only [ijq,true_and,and_true];first|done|omega|(split<;>omega)|(simp;done)|(simp;omega))
    ·have hb:decide ((k:Int)<(m.length:Int))=false:=by simpa using hlt
     obtain rfl:k=m.length:=by omega
     rw [List.take_length]
     (repeat' (first|with_reducible (first|refine zA fun Kn hK=>?_|refine zU ?_|refine Nx.go ?_|go_step)|with_reducible (first|refine zI ?_|refine zV ?_)|simp (maxSteps:=9^9) (disch:=omega) only [wq]|with_reducible refine zM (fun hb=>?_) (fun hb=>?_)<;>try simp only [hb]|with_reducible refine And.intro (by first|omega|(simp;done)|(simp;omega)) ?_|simp (maxSteps:=9^9) -implicitDefEqProofs only [go_sem,hb,List.length_map,Nat.mul_one]))
     all_goals (rw [List.map_map];rfl)
   ·rw [if_neg c1]
    rw [decide_eq_false c1] at q1
    by_cases c2:3<k
    ·have p4:decide ((k:Int)>3)=true:=by
      rw [decide_eq_true_iff]
      omega
     rw [if_pos c2,show Sb.none= .mk 0 false [] [] 0 [] from rfl,sbC_mk]
     simp only [List.flatMap_cons,treeC_eq a,List.cons_append,List.nil_append,List.length_cons] at hk ⊢
     unfold bD bytesD at *
     refine spec_of Tryz.func121 rfl rfl rfl (by kernel_rfl) rfl fun K=>?_
     (repeat' (first|with_reducible (first|refine zA fun Kn hK=>?_|refine zU ?_|refine Nx.go ?_|go_step)|refine ⟨_,hk,?_⟩|with_reducible (first|refine zI ?_|refine zV ?_)|simp (maxSteps:=9^9) (disch:=omega) only [wq]|with_reducible refine zM (fun hb=>?_) (fun hb=>?_)<;>try simp only [hb]|with_reducible refine And.intro (by first|omega|(simp;done)|(simp;omega)) ?_|simp (maxSteps:=9^9) -implicitDefEqProofs only [go_sem,p3,p4,q1,List.length_cons,decide_true]))
     all_goals rfl
    ·have p4:decide ((k:Int)>3)=false:=by
      rw [decide_eq_false_iff_not]
      omega
     rw [if_neg c2,sbC_mk]
     have hgl:=getlen_m (G:=G) b.data (by omega)
     rw [lenO_P] at hgl
     unfold iD at hgl
     generalize (lenO b.data).2.1=g1 at *
     generalize (lenO b.data).2.2=g2 at *
     generalize lenP b.data=N at *
     simp only [List.flatMap_cons,treeC_eq a,treeC_eq b,treeC_eq c,List.cons_append,List.nil_append,List.length_cons] at hk ⊢
     have hll:l.length≤30000000:=by
      simp only [List.length_cons] at hml
      omega
     have hil: ∀ x∈l,Spec Tryz.prog G 121 [.g (treeC x),.c (.v (.int .i64 ((k:Int)+1)))] (.one (.g (sbC (readS x (k+1))))):=fun x hx=>by
      have:=ihl x (by simp only [List.mem_cons];right;exact hx) _ (k+1) rfl (hmw x (by simp only [List.mem_cons];right;exact hx)) (by omega)
      rwa [show ((k+1:Nat):Int)=(k:Int)+1 from by omega] at this
     clear ihl hmw hb hml
     unfold bD bytesD at *
     refine spec_of Tryz.func121 rfl rfl rfl (by kernel_rfl) rfl fun K=>?_
     (repeat' (first|with_reducible (first|refine zA fun Kn hK=>?_|refine zU ?_|refine Nx.go ?_|go_step)|refine ⟨_,hk,?_⟩|refine ⟨_,hgl,?_⟩|with_reducible (first|refine zI ?_|refine zV ?_)|simp (maxSteps:=9^9) (disch:=omega) only [wq]|with_reducible refine zM (fun hb=>?_) (fun hb=>?_)<;>try simp only [hb]|with_reducible refine And.intro (by first|omega|(simp;done)|(simp;omega)) ?_|simp (maxSteps:=9^9) -implicitDefEqProofs only [go_sem,p3,p4,q1,List.length_cons,decide_true]))
     refine sound_voidC 10 5 1000 6 28 (by rfl) (by rfl) (by rfl) (by rfl) ?_
     refine sound_loopR (fun x:{j:Nat // j≤l.length}=>⟨[(1,vI k),(4,vP 4 0),(10,vP 10 0),(79,vD (.sl l.length (l.flatMap treeC))),(80,vI l.length),(81,vI x.1)],[(4,some ⟨28,zeroOf Tryz.prog 28,true,false⟩),(10,some ⟨28,[.d (.v (.int .u8 3)),.d (.v (.bool false)),.nil,.nil,.d (.v (.int .i64 N)),.row 1000 6 0 x.1 .grow],true,false⟩),(1000,some ⟨28,((l.take x.1).flatMap fun y=>sbC (readS y (k+1))).map C.d,false,false⟩)]⟩) (fun x=>l.length-x.1) ⟨0,by omega⟩ [] (by (iterate 2 ((try simp (maxSteps:=9^9) -implicitDefEqProofs only [go_sem,bD,List.take_zero,List.flatMap_nil,List.map_nil]);(try simp (maxSteps:=9^9) (disch:=omega) only [wq])));try simp;exact List.take_of_length_le (by rw [treeC_flen];exact Nat.le_refl _)) (fun ⟨j,hj⟩=>?_)
     by_cases hlt:j<l.length
     ·obtain ⟨x,hx⟩: ∃ x,l[j]?=some x:=⟨_,List.getElem?_eq_getElem hlt⟩
      have hb:decide ((j:Int)<(l.length:Int))=true:=by simpa using hlt
      have hm:=List.mem_of_getElem? hx
      have ht:((l.take (j+1)).flatMap fun y=>sbC (readS y (k+1)))=((l.take j).flatMap fun y=>sbC (readS y (k+1)))++sbC (readS x (k+1)):=by
       rw [List.take_add_one,hx,List.flatMap_append]
       simp
      have hlen:((l.take j).flatMap fun y=>sbC (readS y (k+1))).length=j*6:=by
       rw [show ((l.take j).flatMap fun y=>sbC (readS y (k+1)))=((l.take j).map fun y=>readS y (k+1)).flatMap sbC from by rw [List.flatMap_map],sbC_flen,List.length_map,List.length_take,Nat.min_eq_left hj]
      have hxv:=hil x hm
      have hf:=flat_at treeC_len hx
      rw [treeC_eq x] at hf hxv
      unfold bytesD at hxv hf
      generalize ((l.take j).flatMap fun y=>sbC (readS y (k+1)))=W at *
      (repeat' (first|with_reducible (first|refine zA fun Kn hK=>?_|refine zU ?_|refine Nx.go ?_|go_step)|refine ⟨_,hxv,?_⟩|with_reducible (first|refine zI ?_|refine zV ?_)|simp (maxSteps:=9^9) (disch:=omega) only [wq]|with_reducible refine zM (fun hb=>?_) (fun hb=>?_)<;>try simp only [hb]|with_reducible refine And.intro (by first|omega|(simp;done)|(simp;omega)) ?_|simp (maxSteps:=9^9) -implicitDefEqProofs only [go_sem,hb,rep1,hlen,List.length_map,true_and,Nat.le_refl,List.append_nil,hf]))
      refine ⟨[(1000,92)],⟨j+1,hlt⟩,?_⟩
      rw [ht]
      (iterate 2 ((try simp (maxSteps:=9^9) -implicitDefEqProofs only [go_sem,bD]);(try simp (maxSteps:=9^9) (disch:=omega) only [wq])))
      (simp only [ijq,true_and,and_true];first|done|omega|(split<;>omega)|(simp;done)|(simp;omega))
     ·have hb:decide ((j:Int)<(l.length:Int))=false:=by simpa using hlt
      obtain rfl:j=l.length:=by omega
      rw [List.take_length]
      have hlen:(l.flatMap fun y=>sbC (readS y (k+1))).length=l.length*6:=by
       rw [show (l.flatMap fun y=>sbC (readS y (k+1)))=(l.map fun y=>readS y (k+1)).flatMap sbC from by rw [List.flatMap_map],sbC_flen,List.length_map]
      (repeat' (first|with_reducible (first|refine zA fun Kn hK=>?_|refine zU ?_|refine Nx.go ?_|go_step)|with_reducible (first|refine zI ?_|refine zV ?_)|simp (maxSteps:=9^9) (disch:=omega) only [wq]|with_reducible refine zM (fun hb=>?_) (fun hb=>?_)<;>try simp only [hb]|with_reducible refine And.intro (by first|omega|(simp;done)|(simp;omega)) ?_|simp (maxSteps:=9^9) -implicitDefEqProofs only [go_sem,hb,hlen,List.length_map]))
      all_goals (rw [List.flatMap_map];rfl)
end
def Tree.sm (t:Tree):Prop:=t.clean=true∧t.nodes≤512∧t.form.length≤4096
theorem may_sm {t:Tree} (h:t.may=true):t.sm:=by
 unfold Tree.may at h
 simp only [Bool.and_eq_true,decide_eq_true_eq] at h
 exact ⟨h.1.1.1,h.1.1.2,h.2⟩
theorem len_nodes (l:List Tree):l.length≤(l.map Tree.nodes).sum:=by
 induction l with
 | nil=>simp
 | cons x l ih =>
  have:1≤x.nodes:=by rw [Tree.nodes_eq];omega
  simp only [List.map_cons,List.sum_cons,List.length_cons]
  omega
theorem mem_nodes {l:List Tree} {x:Tree} (h:x∈l):x.nodes≤(l.map Tree.nodes).sum:=by
 induction l with
 | nil=>cases h
 | cons y l ih =>
  simp only [List.map_cons,List.sum_cons]
  rcases List.mem_cons.1 h with rfl|h
  ·omega
  ·have:=ih h;omega
theorem mem_form {l:List Tree} {x:Tree} (h:x∈l):x.form.length≤(l.map Tree.form).flatten.length:=by
 induction l with
 | nil=>cases h
 | cons y l ih =>
  simp only [List.map_cons,List.flatten_cons,List.length_append]
  rcases List.mem_cons.1 h with rfl|h
  ·omega
  ·have:=ih h;omega
theorem fair_atom {t:Tree} (h:t.fair=true) (hl:t.list=false):t.kids=[]:=by
 unfold Tree.fair at h
 rw [hl] at h
 simp at h
 exact h.1
theorem fair_data {t:Tree} (h:t.fair=true) (hl:t.list=true):t.data=[]:=by
 unfold Tree.fair at h
 rw [hl] at h
 simp at h
 exact h.2
theorem Tree.sm.kids {t:Tree} (h:t.sm):t.kids.length≤512:=by
 have h1:=h.2.1
 have h2:=len_nodes t.kids
 rw [Tree.nodes_eq] at h1
 omega
theorem Tree.sm.kid {t x:Tree} (h:t.sm) (hx:x∈t.kids):x.sm:=by
 obtain ⟨hc,hn,hf⟩:=h
 refine ⟨kid_clean' hc hx,?_,?_⟩
 ·rw [Tree.nodes_eq] at hn
  have:=mem_nodes hx
  omega
 ·rw [Tree.form_eq] at hf
  by_cases hl:t.list=true
  ·rw [if_pos hl] at hf
   have:=mem_form hx
   simp only [List.length_append,List.length_singleton] at hf
   omega
  ·have hk:=(fair_atom (clean_fair' hc) (by simpa using hl))
   rw [hk] at hx
   cases hx
theorem Tree.sm.data {t:Tree} (h:t.sm):t.data.length≤4096:=by
 obtain ⟨hc,hn,hf⟩:=h
 rw [Tree.form_eq] at hf
 by_cases hl:t.list=true
 ·rw [fair_data (clean_fair' hc) hl]
  simp
 ·rw [if_neg hl,Tree.atomF,List.length_append] at hf
  have:(textB t.data).length=(dec t.data.length).length+1+t.data.length:=by
   rw [textB,List.length_append,List.length_append]
   rfl
  omega
theorem getK_kd {v:Tree} {s:Bool} {d:List UInt8} (h:getK v=some (s,d)):d.length≤64:=by
 have:=(getK_iff.1 h).1
 unfold keyMay at this
 cases s<;>simp at this<;>omega
theorem readS_fit: ∀ v:Tree,∀ k:Nat,v.sm→(readS v k).fit:=Tree.ind fun v ih k hs=>by
 rw [readS_eq]
 cases hg:getK v with
 | some p =>
  obtain ⟨s,d⟩:=p
  have:=getK_kd hg
  dsimp only
  rw [Sb.fit_eq]
  exact ⟨⟨Nat.zero_le _,Nat.zero_le _,by show d.length≤5000;omega,fun n hn=>by cases hn⟩,fun x hx=>by cases hx⟩
 | none =>
  dsimp only
  have hkl:=hs.kids
  split
  ·rw [Sb.fit_eq]
   exact ⟨⟨Nat.zero_le _,Nat.zero_le _,Nat.zero_le _,fun n hn=>by cases hn⟩,fun x hx=>by cases hx⟩
  split
  ·rw [Sb.fit_eq]
   refine ⟨⟨Nat.zero_le _,?_,?_,?_⟩,fun x hx=>by cases hx⟩
   ·show ((v.kids.drop 2).map Tree.data).length≤1000
    rw [List.length_map,List.length_drop]
    omega
   ·show ((getK (v.kid 1)).getD (false,[])).2.length≤5000
    cases hb:getK (v.kid 1) with
    | none=>simp
    | some p =>
     obtain ⟨s,d⟩:=p
     have:=getK_kd hb
     show d.length≤5000
     omega
   ·intro n hn
    have hn:n∈(v.kids.drop 2).map Tree.data:=hn
    obtain ⟨x,hx,rfl⟩:=List.mem_map.1 hn
    have:=(hs.kid (List.mem_of_mem_drop hx)).data
    omega
  split
  ·rw [Sb.fit_eq]
   exact ⟨⟨Nat.zero_le _,Nat.zero_le _,Nat.zero_le _,fun n hn=>by cases hn⟩,fun x hx=>by cases hx⟩
  ·rw [Sb.fit_eq]
   refine ⟨⟨?_,Nat.zero_le _,Nat.zero_le _,fun n hn=>by cases hn⟩,?_⟩
   ·show ((v.kids.drop 3).map fun x=>readS x (k+1)).length≤1000
    rw [List.length_map,List.length_drop]
    omega
   ·intro x hx
    have hx:x∈(v.kids.drop 3).map fun x=>readS x (k+1):=hx
    obtain ⟨y,hy,rfl⟩:=List.mem_map.1 hx
    exact ih y (List.mem_of_mem_drop hy) _ (hs.kid (List.mem_of_mem_drop hy))
section
variable {G:Nat→Option (List D)}
noncomputable def sbgetD (v:Tree):DR:= .many [.g (sbC ((getSb v).getD Sb.none)),.c (.v (.int .i64 (if (getSb v).isSome=true then 0 else 7)))]
theorem sbget_m (hG:G 0=some powD) (v:Tree) {cs:List D} (hcs:treeC v=cs) (hw:v.wt≤30000000):Spec Tryz.prog G 99 [.g cs] (sbgetD v):=by
 subst hcs
 have h1:=sxmay_m (G:=G) hG v rfl hw
 obtain ⟨e1,e2⟩:=getS_eq v
 have hz:sbC Sb.none=[.v (.int .u8 0),.v (.bool false),.sl 0 [],.sl 0 [],.v (.int .i64 0),.sl 0 []]:=by
  rw [show Sb.none= .mk 0 false [] [] 0 [] from rfl,sbC_mk]
  rfl
 unfold sbgetD
 cases hm:v.may with
 | false =>
  rw [hm] at h1
  have hn:getSb v=none:=by
   unfold getSb
   rw [hm]
   rfl
  rw [hn]
  rw [show (none:Option Sb).getD Sb.none=Sb.none from rfl,show (if (none:Option Sb).isSome=true then (0:Int) else 7)=7 from rfl,hz]
  rw [treeC_eq] at h1 ⊢
  unfold bytesD at *
  refine spec_of Tryz.func99 rfl rfl rfl (by kernel_rfl) rfl fun K=>?_
  (repeat' (first|with_reducible (first|refine zA fun Kn hK=>?_|refine zU ?_|refine Nx.go ?_|go_step)|refine ⟨_,h1,?_⟩|with_reducible (first|refine zI ?_|refine zV ?_)|simp (maxSteps:=9^9) (disch:=omega) only [wq]|with_reducible refine zM (fun hb=>?_) (fun hb=>?_)<;>try simp only [hb]|with_reducible refine And.intro (by first|omega|(simp;done)|(simp;omega)) ?_|simp (maxSteps:=9^9) -implicitDefEqProofs only [go_sem,decide_true]))
 | true =>
  rw [hm] at h1
  have h2:=sread_m (G:=G) v _ 1 rfl hw (by omega)
  have hf:=readS_fit v 1 (may_sm hm)
  have h3:=sbput_m (G:=G) hG (readS v 1) rfl hf
  have h4:=same_m (G:=G) v (if (readS v 1).may=true then (readS v 1).val else zeroT) _ _ rfl rfl hw
  unfold sputD at h3
  have hd:(getSb v).isSome=((readS v 1).may&&v.same (if (readS v 1).may=true then (readS v 1).val else zeroT))∧((getSb v).isSome=true→(getSb v).getD Sb.none=readS v 1):=by
   cases hg:getSb v with
   | some s =>
    obtain ⟨a,b,c⟩:=e1 s hg
    rw [a,b,if_pos rfl,c]
    exact ⟨by rw [show v.same v=true from same_iff.2 rfl];rfl,fun _=>rfl⟩
   | none =>
    have hno:=e2 hm hg
    refine ⟨?_,fun h=>by cases h⟩
    cases hmm:(readS v 1).may with
    | false=>rfl
    | true =>
     rw [if_pos rfl]
     cases hs:v.same (readS v 1).val with
     | false=>rfl
     | true=>exact (hno ⟨hmm,(same_iff.1 hs).symm⟩).elim
  have hd2:(getSb v).isSome=false→(getSb v).getD Sb.none=Sb.none:=fun h=>by
   cases hg:getSb v with
   | some s=>rw [hg] at h;cases h
   | none=>rfl
  obtain ⟨d1,d2⟩:=hd
  generalize (getSb v).getD Sb.none=R at *
  generalize (getSb v).isSome=ok at *
  generalize (readS v 1).may=q at *
  generalize (if q=true then (readS v 1).val else zeroT)=V at *
  generalize readS v 1=r at *
  generalize v.same V=z at *
  clear e1 e2 hf
  rw [treeC_eq v] at h1 h2 h4 ⊢
  rw [treeC_eq V] at h3 h4
  rw [sbC_eq r] at h2 h3
  have p1:((1:Nat):Int)=1:=rfl
  rw [p1] at h2
  cases q<;>cases z
  all_goals
   first
    | (have hok:ok=true:=d1
       rw [d2 hok,hok,sbC_eq r]
       clear d1 d2 hd2 hok
       unfold bD bytesD at *
       refine spec_of Tryz.func99 rfl rfl rfl (by kernel_rfl) rfl fun K=>?_
       (repeat' (first|with_reducible (first|refine zA fun Kn hK=>?_|refine zU ?_|refine Nx.go ?_|go_step)|refine ⟨_,h1,?_⟩|refine ⟨_,h2,?_⟩|refine ⟨_,h3,?_⟩|refine ⟨_,h4,?_⟩|with_reducible (first|refine zI ?_|refine zV ?_)|simp (maxSteps:=9^9) (disch:=omega) only [wq]|with_reducible refine zM (fun hb=>?_) (fun hb=>?_)<;>try simp only [hb]|with_reducible refine And.intro (by first|omega|(simp;done)|(simp;omega)) ?_|simp (maxSteps:=9^9) -implicitDefEqProofs only [go_sem,decide_true]))
       all_goals rfl)
    | (have hok:ok=false:=d1
       rw [hd2 hok,hok,hz]
       clear d1 d2 hd2 hok
       unfold bD bytesD at *
       refine spec_of Tryz.func99 rfl rfl rfl (by kernel_rfl) rfl fun K=>?_
       (repeat' (first|with_reducible (first|refine zA fun Kn hK=>?_|refine zU ?_|refine Nx.go ?_|go_step)|refine ⟨_,h1,?_⟩|refine ⟨_,h2,?_⟩|refine ⟨_,h3,?_⟩|refine ⟨_,h4,?_⟩|with_reducible (first|refine zI ?_|refine zV ?_)|simp (maxSteps:=9^9) (disch:=omega) only [wq]|with_reducible refine zM (fun hb=>?_) (fun hb=>?_)<;>try simp only [hb]|with_reducible refine And.intro (by first|omega|(simp;done)|(simp;omega)) ?_|simp (maxSteps:=9^9) -implicitDefEqProofs only [go_sem,decide_true]))
       all_goals rfl)
end
def wK (w:Wd):List C:=(wdC w).map C.d
theorem wK_mk (a:Bool) (n:Int) (u:Bool) (k:Int):wK ⟨a,n,u,k⟩=[.d (.v (.bool a)),.d (.v (.int .i64 n)),.d (.v (.bool u)),.d (.v (.int .i64 k))]:=rfl
theorem wK_eq (w:Wd):wK w=[.d (.v (.bool w.aft)),.d (.v (.int .i64 w.frm)),.d (.v (.bool w.unt)),.d (.v (.int .i64 w.to))]:=rfl
theorem drop5 (x:Tree) (l:List D):(treeC x++l).drop 5=l:=by
 have:=treeC_len x
 rw [List.drop_append_of_le_length (by omega),List.drop_of_length_le (by omega)]
 rfl
theorem win_wt {w:Wd} (h:w.may=true):w.val.wt≤30000000:=by
 obtain ⟨a,n,u,k⟩:=w
 cases a<;>cases u
 all_goals simp [Wd.val,wdK,endV,listT,atomT,Tree.wt_eq,Tree.hint,Tree.data,Tree.kids,dateS_len,wValid,wNB,wNA]
section
variable {G:Nat→Option (List D)}
noncomputable def wgetP (v:Tree):DR:= .many [.g (if ((readW v).may&&(readW v).val.same v)=true then wdC (readW v) else wdC Wd.none),.c (.v (.int .i64 (if ((readW v).may&&(readW v).val.same v)=true then 0 else 11)))]
theorem wget_p (v:Tree) {cs:List D} (hcs:treeC v=cs) (hw:v.wt≤30000000):Spec Tryz.prog G 98 [.g cs] (wgetP v):=by
 subst hcs
 have hput:=wput_m (G:=G) (readW v)
 have hval:(readW v).may=true→Spec Tryz.prog G 58 [.g (treeC (readW v).val),.g (treeC v)] (.one (.c (.v (.bool ((readW v).val.same v))))):=fun hm=>same_m _ _ _ _ rfl rfl (win_wt hm)
 unfold wgetP
 have h5:=v.wt_kids
 have hkw: ∀ x∈v.kids,x.wt<v.wt:=fun x hx=>Tree.wt_kid hx
 unfold readW at *
 rw [treeC_eq v] at hval ⊢
 generalize v.kids=L at *
 cases L with
 | nil =>
  rw [show ([]:List Tree).drop 1=[] from rfl,show ([]:List Tree).foldl stepW Wd.none=Wd.none from rfl] at *
  have hm:Wd.none.may=true:=by decide
  have hs:=hval hm
  unfold wputD at hput
  rw [hm,if_pos rfl] at hput
  rw [treeC_eq Wd.none.val] at hs hput
  generalize Wd.none.val.same v=q at *
  unfold wdC bytesD Wd.none at *
  have q0:decide (((0:Nat):Int)>0)=false:=rfl
  cases q
  all_goals
   refine spec_of Tryz.func98 rfl rfl rfl (by kernel_rfl) rfl fun K=>?_
   (repeat' (first|with_reducible (first|refine zA fun Kn hK=>?_|refine zU ?_|refine Nx.go ?_|go_step)|refine ⟨_,hput,?_⟩|refine ⟨_,hs,?_⟩|with_reducible (first|refine zI ?_|refine zV ?_)|simp (maxSteps:=9^9) (disch:=omega) only [wq]|with_reducible refine zM (fun hb=>?_) (fun hb=>?_)<;>try simp only [hb]|with_reducible refine And.intro (by first|omega|(simp;done)|(simp;omega)) ?_|simp (maxSteps:=9^9) -implicitDefEqProofs only [go_sem,List.length_nil,q0]))
   all_goals rfl
 | cons a l =>
  rw [List.drop_one,List.tail_cons] at *
  have hlb:l.length≤30000000:=by
   rw [List.length_cons] at h5
   omega
  have hp1:decide (((l.length:Int)+1)>0)=true:=by
   rw [decide_eq_true_iff]
   omega
  have hp2:decide (((l.length+1:Nat):Int)>0)=true:=by
   rw [decide_eq_true_iff]
   omega
  rw [List.flatMap_cons] at *
  have z0:zeroOf Tryz.prog 37=wK Wd.none:=by kernel_rfl
  refine spec_of Tryz.func98 rfl rfl rfl (by kernel_rfl) rfl fun K=>?_
  (repeat' (first|with_reducible (first|refine zA fun Kn hK=>?_|refine zU ?_|refine Nx.go ?_|go_step)|with_reducible (first|refine zI ?_|refine zV ?_)|simp (maxSteps:=9^9) (disch:=omega) only [wq]|with_reducible refine zM (fun hb=>?_) (fun hb=>?_)<;>try simp only [hb]|with_reducible refine And.intro (by first|omega|(simp;done)|(simp;omega)) ?_|simp (maxSteps:=9^9) -implicitDefEqProofs only [go_sem,drop5,List.length_cons,hp1,hp2]))
  refine sound_loopR (fun x:{k:Nat // k≤l.length}=>⟨[(1,vP 1 0),(2,vP 2 0),(4,vP 4 0),(17,vD (.sl l.length (l.flatMap treeC))),(18,vI l.length),(19,vI x.1)],[(1,some ⟨45,[.d (.v (.bool v.list)),.d (.v (.bool v.hinted)),.d (bytesD v.hint),.d (bytesD v.data),.d (.sl (l.length+1) (treeC a++l.flatMap treeC))],true,false⟩),(2,some ⟨37,zeroOf Tryz.prog 37,true,false⟩),(4,some ⟨37,wK ((l.take x.1).foldl stepW Wd.none),true,false⟩)]⟩) (fun x=>l.length-x.1) ⟨0,by omega⟩ [] (by (iterate 2 ((try simp (maxSteps:=9^9) -implicitDefEqProofs only [go_sem,wK_eq]);(try simp (maxSteps:=9^9) (disch:=omega) only [wq])));try simp;exact ⟨List.take_of_length_le (by rw [treeC_flen];exact Nat.le_refl _),rfl,rfl,rfl,rfl⟩) (fun ⟨k,hk⟩=>?_)
  by_cases hlt:k<l.length
  ·obtain ⟨x,hx⟩: ∃ x,l[k]?=some x:=⟨_,List.getElem?_eq_getElem hlt⟩
   have hb:decide ((k:Int)<(l.length:Int))=true:=by simpa using hlt
   have hst:(l.take (k+1)).foldl stepW Wd.none=stepW ((l.take k).foldl stepW Wd.none) x:=by
    rw [List.take_add_one,hx,List.foldl_append]
    rfl
   generalize (l.take k).foldl stepW Wd.none=w at *
   rw [wK_eq w]
   have hxm:=hkw x (List.mem_cons_of_mem _ (List.mem_of_getElem? hx))
   have hf:=flat_at treeC_len hx
   have ex:=treeC_eq x
   by_cases h2:x.kids.length=2
   ·obtain ⟨y,z,hxk⟩: ∃ y z,x.kids=[y,z]:=by
     match hk:x.kids,h2 with
     | [y,z],_=>exact ⟨y,z,rfl⟩
    have hz:z.data.length≤30000000:=by
     have h1:z.wt<x.wt:=Tree.wt_kid (by rw [hxk];simp)
     have h2:=z.wt_data
     omega
    have hd:=date_m (G:=G) z.data _ rfl (by omega)
    unfold resO iD at hd
    have est:stepW w x=if y.data=wNB then ⟨(dateP z.data).isSome,((dateP z.data).getD 0:Nat),w.unt,w.to⟩
      else if y.data=wNA then ⟨w.aft,w.frm,(dateP z.data).isSome,((dateP z.data).getD 0:Nat)⟩
      else w:=by unfold stepW;rw [hxk]
    generalize (dateP z.data).isSome=ok at *
    generalize (dateP z.data).getD 0=d at *
    rw [hxk] at ex
    simp only [List.flatMap_cons,List.flatMap_nil,treeC_eq y,treeC_eq z,List.cons_append,List.nil_append,List.append_nil,List.length_cons,List.length_nil] at ex
    rw [ex] at hf
    have q1:(y.data==[110,111,116,45,98,101,102,111,114,101])=decide (y.data=wNB):=by
     by_cases h:y.data=wNB
     ·rw [decide_eq_true h,h];rfl
     ·rw [decide_eq_false h,beq_eq_false_iff_ne];exact h
    have q2:(y.data==[110,111,116,45,97,102,116,101,114])=decide (y.data=wNA):=by
     by_cases h:y.data=wNA
     ·rw [decide_eq_true h,h];rfl
     ·rw [decide_eq_false h,beq_eq_false_iff_ne];exact h
    have q3:((2:Nat):Int)=2:=rfl
    have q4:((2:Int)==2)=true:=rfl
    unfold bytesD at *
    clear hput hval ex
    by_cases c1:y.data=wNB
    ·rw [if_pos c1] at est
     rw [decide_eq_true c1] at q1
     (repeat' (first|with_reducible (first|refine zA fun Kn hK=>?_|refine zU ?_|refine Nx.go ?_|go_step)|refine ⟨_,hd,?_⟩|with_reducible (first|refine zI ?_|refine zV ?_)|simp (maxSteps:=9^9) (disch:=omega) only [wq]|with_reducible refine zM (fun hb=>?_) (fun hb=>?_)<;>try simp only [hb]|with_reducible refine And.intro (by first|omega|(simp;done)|(simp;omega)) ?_|simp (maxSteps:=9^9) -implicitDefEqProofs only [go_sem,hb,hf,q1,q3,q4]))
     refine ⟨[],⟨k+1,hlt⟩,?_⟩
     rw [hst,est]
     (iterate 2 ((try simp (maxSteps:=9^9) -implicitDefEqProofs only [go_sem,wK_mk]);(try simp (maxSteps:=9^9) (disch:=omega) only [wq])))
     (simp only [ijq,true_and,and_true];first|done|omega|(split<;>omega)|(simp;done)|(simp;omega))
    ·rw [if_neg c1] at est
     rw [decide_eq_false c1] at q1
     by_cases c2:y.data=wNA
     ·rw [if_pos c2] at est
      rw [decide_eq_true c2] at q2
      (repeat' (first|with_reducible (first|refine zA fun Kn hK=>?_|refine zU ?_|refine Nx.go ?_|go_step)|refine ⟨_,hd,?_⟩|with_reducible (first|refine zI ?_|refine zV ?_)|simp (maxSteps:=9^9) (disch:=omega) only [wq]|with_reducible refine zM (fun hb=>?_) (fun hb=>?_)<;>try simp only [hb]|with_reducible refine And.intro (by first|omega|(simp;done)|(simp;omega)) ?_|simp (maxSteps:=9^9) -implicitDefEqProofs only [go_sem,hb,hf,q1,q2,q3,q4]))
      refine ⟨[],⟨k+1,hlt⟩,?_⟩
      rw [hst,est]
      (iterate 2 ((try simp (maxSteps:=9^9) -implicitDefEqProofs only [go_sem,wK_mk]);(try simp (maxSteps:=9^9) (disch:=omega) only [wq])))
      (simp only [ijq,true_and,and_true];first|done|omega|(split<;>omega)|(simp;done)|(simp;omega))
     ·rw [if_neg c2] at est
      rw [decide_eq_false c2] at q2
      (repeat' (first|with_reducible (first|refine zA fun Kn hK=>?_|refine zU ?_|refine Nx.go ?_|go_step)|refine ⟨_,hd,?_⟩|with_reducible (first|refine zI ?_|refine zV ?_)|simp (maxSteps:=9^9) (disch:=omega) only [wq]|with_reducible refine zM (fun hb=>?_) (fun hb=>?_)<;>try simp only [hb]|with_reducible refine And.intro (by first|omega|(simp;done)|(simp;omega)) ?_|simp (maxSteps:=9^9) -implicitDefEqProofs only [go_sem,hb,hf,q1,q2,q3,q4]))
      refine ⟨[],⟨k+1,hlt⟩,?_⟩
      rw [hst,est]
      (iterate 2 ((try simp (maxSteps:=9^9) -implicitDefEqProofs only [go_sem,wK_eq]);(try simp (maxSteps:=9^9) (disch:=omega) only [wq])))
      (simp only [ijq,true_and,and_true];first|done|omega|(split<;>omega)|(simp;done)|(simp;omega))
   ·have est:stepW w x=w:=by
     unfold stepW
     match hk:x.kids with
     | []=>rfl
     | [y]=>rfl
     | [y,z]=>rw [hk] at h2;exact absurd rfl h2
     | y::z::u::m=>rfl
    have q1:((x.kids.length:Int)==2)=false:=by
     rw [beq_eq_false_iff_ne]
     omega
    rw [ex] at hf
    unfold bytesD at *
    clear hput hval ex
    (repeat' (first|with_reducible (first|refine zA fun Kn hK=>?_|refine zU ?_|refine Nx.go ?_|go_step)|with_reducible (first|refine zI ?_|refine zV ?_)|simp (maxSteps:=9^9) (disch:=omega) only [wq]|with_reducible refine zM (fun hb=>?_) (fun hb=>?_)<;>try simp only [hb]|with_reducible refine And.intro (by first|omega|(simp;done)|(simp;omega)) ?_|simp (maxSteps:=9^9) -implicitDefEqProofs only [go_sem,hb,hf,q1]))
    refine ⟨[],⟨k+1,hlt⟩,?_⟩
    rw [hst,est]
    (iterate 2 ((try simp (maxSteps:=9^9) -implicitDefEqProofs only [go_sem,wK_eq]);(try simp (maxSteps:=9^9) (disch:=omega) only [wq])))
    (simp only [ijq,true_and,and_true];first|done|omega|(split<;>omega)|(simp;done)|(simp;omega))
  ·have hb:decide ((k:Int)<(l.length:Int))=false:=by simpa using hlt
   obtain rfl:k=l.length:=by omega
   rw [List.take_length]
   generalize l.foldl stepW Wd.none=w at *
   rw [wK_eq w]
   unfold wputD at hput
   cases hm:w.may with
   | true =>
    have hs:=hval hm
    rw [hm,if_pos rfl] at hput
    rw [treeC_eq w.val] at hs hput
    generalize w.val.same v=q at *
    unfold wdC bytesD at *
    cases q
    all_goals
     (repeat' (first|with_reducible (first|refine zA fun Kn hK=>?_|refine zU ?_|refine Nx.go ?_|go_step)|refine ⟨_,hput,?_⟩|refine ⟨_,hs,?_⟩|with_reducible (first|refine zI ?_|refine zV ?_)|simp (maxSteps:=9^9) (disch:=omega) only [wq]|with_reducible refine zM (fun hb=>?_) (fun hb=>?_)<;>try simp only [hb]|with_reducible refine And.intro (by first|omega|(simp;done)|(simp;omega)) ?_|simp (maxSteps:=9^9) -implicitDefEqProofs only [go_sem,hb]))
     all_goals (rw [hm];rfl)
   | false =>
    rw [hm,if_neg (by decide)] at hput
    unfold wdC zeroC at *
    (repeat' (first|with_reducible (first|refine zA fun Kn hK=>?_|refine zU ?_|refine Nx.go ?_|go_step)|refine ⟨_,hput,?_⟩|with_reducible (first|refine zI ?_|refine zV ?_)|simp (maxSteps:=9^9) (disch:=omega) only [wq]|with_reducible refine zM (fun hb=>?_) (fun hb=>?_)<;>try simp only [hb]|with_reducible refine And.intro (by first|omega|(simp;done)|(simp;omega)) ?_|simp (maxSteps:=9^9) -implicitDefEqProofs only [go_sem,hb]))
    all_goals (rw [hm];rfl)
def wgetR (o:Option Wd):DR:= .many [.g (wdC (o.getD Wd.none)),.c (.v (.int .i64 (if o.isSome then 0 else 11)))]
theorem wget_m (v:Tree) {cs:List D} (hcs:treeC v=cs) (hw:v.wt≤30000000) (hc:v.clean=true):Spec Tryz.prog G 98 [.g cs] (wgetR (getR v)):=by
 have h:=wget_p (G:=G) v hcs hw
 have he:=getW_eq hc
 suffices wgetP v=wgetR (getR v) by rwa [this] at h
 unfold wgetP wgetR
 cases hg:getR v with
 | some w =>
  obtain ⟨h1,h2,h3⟩:=he.1 w hg
  rw [h1,h2,h3]
  rw [show v.same v=true from same_iff.2 rfl]
  rfl
 | none =>
  have h1:=he.2 hg
  have:((readW v).may&&(readW v).val.same v)=false:=by
   rw [Bool.and_eq_false_iff]
   cases hm:(readW v).may with
   | false=>exact .inl rfl
   | true =>
    right
    cases hs:(readW v).val.same v with
    | false=>rfl
    | true=>exact (h1 ⟨hm,same_iff.1 hs⟩).elim
  rw [this]
  rfl
end
theorem catch_idle (p q:Addr) (w:World) :
  CallsD Tryz.prog 122 #[.pointer (some p),.pointer (some q)] .returning w fun e u' w'=>e= .returned (.tuple #[])∧u'= .returning∧w'=w:=by
 refine callsD_of_wpS Tryz.func122 rfl fun c₀ cs hu=>?_
 simp only [Tryz.ntmps122,List.size_toArray,List.length_cons,List.length_nil,Nat.reduceAdd,Nat.reduceSub,Array.replicate_succ,Array.replicate_zero,List.push_toArray,List.append_toArray,List.nil_append,List.cons_append]
 apply wpS_seq
 apply wpS_region
 simp [wpOpsS,go_sem,recoverD,hu,Exit.thenS]
 refine wpS_of_wp ?_
 go_wp2
 cases c₀
 simp_all [bodyPostS,results,Tryz.results122]
theorem under_none:(Tryz.prog.underlying 151)=some (.struct #[]):=by kernel_rfl
theorem assert_none (w:World) (xT:TypeId):(Instr.typeAssert (.iface 151 (.agg #[])) xT 151 true).run Tryz.prog w= .ok (.tuple #[.agg #[],.bool true]) w:=by
 simp [Instr.typeAssert,run_underlying under_none]
def HaltedZ (p:Prop):Prop:=p
theorem go_onZ {p:Prop} (h:p):HaltedZ p:=h
theorem haltZ {p:Prop} (h:HaltedZ p):p:=h
attribute [irreducible] HaltedZ
section
variable {P:Program} {w:World} {ops:Array Oper} {rest:List Oper} {o:Oper} {a:Act} {Q:Exit→Act→World→Prop}
theorem haltZ_load {ty:TypeId} {x:Operand} (ho:o.op= .load ty x) (h:HaltedZ (wpList P ops Q (o::rest) a w)):wpList P ops Q (o::rest) a w:=haltZ h
theorem haltZ_store {ty:TypeId} {x y:Operand} (ho:o.op= .store ty x y) (h:HaltedZ (wpList P ops Q (o::rest) a w)):wpList P ops Q (o::rest) a w:=haltZ h
end
def zTagV:List Value:=[.int .u8 0,.slice none 0 0,.slice none 0 0,.int .u8 0,.bool false,.bool false,.slice none 0 0,.bool false,.bool false,.slice none 0 0]
theorem catch_pan (T E:Nat) (w:World) (cT:Array Value) (x:Value) (hc:cT.size=10) (hT:w.heap[T]?=some (.cells cT 35 (0,0))) (hE:w.heap[E]?=some (.cells #[x] 46 (0,0))) (hne:T≠E) :
  CallsD Tryz.prog 122 #[.pointer (some ⟨T,0,none⟩),.pointer (some ⟨E,0,none⟩)] (.panicking [{ v:=vNone,recovered:=false }]) w fun e u' w'=>e= .returned (.tuple #[])∧u'= .panicking [{ v:=vNone,recovered:=true }] ∧
   Ev (fun k=>k=T∨k=E) w w'∧w'.heap[T]?=some (.cells zTagV.toArray 35 (0,0))∧w'.heap[E]?=some (.cells #[.int .i64 13] 46 (0,0)):=by
 refine callsD_of_wpS Tryz.func122 rfl fun c₀ cs hu=>?_
 unfold vNone at *
 simp only [Tryz.ntmps122,List.size_toArray,List.length_cons,List.length_nil,Nat.reduceAdd,Nat.reduceSub,Array.replicate_succ,Array.replicate_zero,List.push_toArray,List.append_toArray,List.nil_append,List.cons_append]
 apply wpS_seq
 apply wpS_region
 simp [wpOpsS,go_sem,recoverD,hu,Exit.thenS]
 refine wpS_of_wp ?_
 have hta:=assert_none
 go_wp2_with (refine haltZ_store (ty:=35) rfl ?_)
 refine go_onZ (wpList_store_row rfl 35 _ _ rfl T zTagV.toArray rfl rfl 35 cT (box_alloc hT _) (by kernel_rfl) hc (by simp [zTagV,Value.oneCell']) ?_)
 have hT2:=setRow_heap _ T cT zTagV.toArray 35 (0,0) (box_alloc hT (.cells #[] 151))
 have hE2:((w.alloc (.cells #[] 151)).setRow T zTagV.toArray).heap[E]?=_:=(setRow_other _ T E zTagV.toArray (Ne.symm hne)).trans (box_alloc hE (.cells #[] 151))
 have hev:Ev (fun k=>k=T∨k=E) w ((w.alloc (.cells #[] 151)).setRow T zTagV.toArray):=by
  refine ⟨rfl,rfl,rfl,by simp,fun k hk hn=>?_⟩
  rw [setRow_other _ _ _ _ (fun e=>hn (.inl e))]
  exact Below.heap_alloc w _ k hk
 generalize (w.alloc (.cells #[] 151)).setRow T zTagV.toArray=w2 at *
 have hc2:=boxed hE2 0 _ rfl
 have hf2:=boxed_frozen hE2 0
 go_wp2
 simp only [bodyPostS,results,Tryz.results122]
 have hev3:Ev (fun k=>k=T∨k=E) w (w2.setCell ⟨E,0,none⟩ (.int .i64 13)):=⟨hev.os,hev.tape,hev.output,by simpa [World.setCell] using hev.size,fun k hk hn=>(Below.heap_setCell w2 ⟨E,0,none⟩ _ k (fun e=>hn (.inr e))).trans (hev.block k hk hn)⟩
 exact ⟨trivial,_,rfl,.tuple #[],by simp,rfl,rfl,hev3,box_far (p:=⟨E,0,none⟩) hT2 hne _,by simpa using box_set hE2 (j:=0) (.int .i64 13)⟩
theorem results_cc {P:Program} {fn:Func} {p q:Tmp} {ty t2:TypeId} {k2:IntKind} (h:fn.results= #[.cell p ty,.cell q t2]) (tmps:Array Value) (w:World) (g e:Nat) (t:TypeId) (cs:Array Value) (fr:Nat × Nat) (d:TypeDesc) (u:Value)
  (hp:tmps.getD p undef= .pointer (some ⟨g,0,none⟩)) (hg:w.heap[g]?=some (.cells cs t fr))
  (hu:P.underlying ty=some d) (hd:(match d with| .struct _| .array _ _=>true|_=>false)=true) (hi:(P.info? ty).map (·.size)=some cs.size)
  (hq:tmps.getD q undef= .pointer (some ⟨e,0,none⟩)) (he:w.cell? ⟨e,0,none⟩=some u) (hu2:P.underlying t2=some (.int k2)) :
  (results fn tmps).run P w= .ok (.tuple #[.agg cs,u]) w:=by
 have hp':tmps[p]?.getD undef= .pointer (some ⟨g,0,none⟩):=by simpa using hp
 have hq':tmps[q]?.getD undef= .pointer (some ⟨e,0,none⟩):=by simpa using hq
 have h2:(loadVar t2 ⟨e,0,none⟩).run P w= .ok u w:=by simp [loadVar,isAgg,run_underlying hu2,go_sem,he]
 simp [results,h,hp',hq',asAddr,run_loadVar_row w g t ty cs fr d hg hu hd hi,h2]
def getDf (T E:Nat):List Deferred:=[{ target:= .fn (.func 122) #[.pointer (some ⟨T,0,none⟩),.pointer (some ⟨E,0,none⟩)],args:= #[] }]
theorem get_pan {tmps:Array Value} {R:Ending→World→Prop} (T E:Nat) (hne:T≠E) (w6:World) (cT:Array Value) (x:Value) (hc:cT.size=10) (hT:w6.heap[T]?=some (.cells cT 35 (0,0))) (hE:w6.heap[E]?=some (.cells #[x] 46 (0,0)))
  (p2:tmps.getD 2 undef= .pointer (some ⟨T,0,none⟩)) (p3:tmps.getD 3 undef= .pointer (some ⟨E,0,none⟩))
  (hR: ∀ w7,Ev (fun k=>k=T∨k=E) w6 w7→R (.returned (.tuple #[.agg zTagV.toArray,.int .i64 13])) w7):bodyPostD Tryz.prog Tryz.f100 R (.panic [{ v:=vNone,recovered:=false }]) ⟨tmps,getDf T E⟩ w6:=by
 refine leaves_cons (f:=122) (args:= #[.pointer (some ⟨T,0,none⟩),.pointer (some ⟨E,0,none⟩)]) (by simp) (by simp [go_sem]) ?_
 refine (catch_pan T E w6 _ _ hc hT hE hne).mono ?_
 rintro e u' w7 ⟨rfl,rfl,hev7,z1,z2⟩
 simp only [Leaves,settle]
 have hc7:=boxed z2 0 _ rfl
 exact ⟨.tuple #[.agg zTagV.toArray,.int .i64 13],results_cc rfl _ w7 T E 35 zTagV.toArray (0,0) _ _ p2 z1 Tryz.underlying35 rfl (by kernel_rfl) p3 hc7 Tryz.underlying46,hR w7 hev7⟩
theorem get_ret {tmps:Array Value} {R:Ending→World→Prop} (T E:Nat) (w6:World) (cT:Array Value) (hc:cT.size=10) (hT:w6.heap[T]?=some (.cells cT 35 (0,0))) (hE:w6.heap[E]?=some (.cells #[.int .i64 0] 46 (0,0)))
  (p2:tmps.getD 2 undef= .pointer (some ⟨T,0,none⟩)) (p3:tmps.getD 3 undef= .pointer (some ⟨E,0,none⟩))
  (hR:R (.returned (.tuple #[.agg cT,.int .i64 0])) w6):bodyPostD Tryz.prog Tryz.f100 R .ret ⟨tmps,getDf T E⟩ w6:=by
 refine leaves_cons (f:=122) (args:= #[.pointer (some ⟨T,0,none⟩),.pointer (some ⟨E,0,none⟩)]) (by simp) (by simp [go_sem]) ?_
 refine (catch_idle ⟨T,0,none⟩ ⟨E,0,none⟩ w6).mono ?_
 rintro e u' w7 ⟨rfl,rfl,rfl⟩
 simp only [Leaves,settle]
 have hc7:=boxed hE 0 _ rfl
 exact ⟨.tuple #[.agg cT,.int .i64 0],results_cc rfl _ w7 T E 35 cT (0,0) _ _ p2 hT Tryz.underlying35 rfl (by rw [hc];kernel_rfl) p3 hc7 Tryz.underlying46,hR⟩
theorem rd_zTag {w:World} {S:Nat→Prop}:DRd w S (.g (tagC zTg)) (.agg zTagV.toArray):=by
 refine ⟨zTagV,rfl,by rw [tagC_len];rfl,fun j x u hx hu=>?_⟩
 rw [zTg,tagC_mk] at hx
 unfold zTagV at hu
 match j with
 | 0|1|2|3|4|5|6|7|8|9 =>
  injection hx with hx
  injection hu with hu
  subst hx hu
  first|exact .v _ rfl|exact .nil none 0 (by decide)
 | j+10=>cases hx
def getO (v:Tree):DR:=match (if v.may then getT isV v else none) with
 | some t=> .many [.g (tagC t),.c (.v (.int .i64 0))]
 | none=> .many [.g (tagC zTg),.c (.v (.int .i64 13))]
section
variable {G:Nat→Option (List D)}
theorem tget_m (hG:G 0=some powD) (v:Tree) {cs:List D} (hcs:treeC v=cs) (hw:v.wt≤30000000):Spec Tryz.prog G 100 [.g cs] (getO v):=by
 subst hcs
 refine Spec.mk0 (by unfold getO;split<;>rfl) ?_
 intro w S vs hS hT hA
 have hmay:=(sxmay_m (G:=G) hG v rfl hw).get0 rfl
 have hmf: ∀ (fn:Fn) (first cap:Array Value) (w:World),(Instr.makeFunc fn first cap).run Tryz.prog w= .ok (.func fn first cap) w:=fun _ _ _ _=>rfl
 obtain ⟨hl,hc⟩:=hA
 match vs,hl with
 | [u],_ =>
 obtain ⟨us,rfl,hul,hus⟩:DRd w S (.g (treeC v)) u:=hc 0 _ _ rfl rfl
 rw [treeC_len] at hul
 match us,hul with
 | [u0,u1,u2,u3,u4],_ =>
 have hend: ∀ w7:World,DEnd w7 (fun b=>S b∨w.heap.size≤b∧b<w7.heap.size) (.many [.g (tagC zTg),.c (.v (.int .i64 13))]) (.returned (.tuple #[.agg zTagV.toArray,.int .i64 13])):=fun w7=>by
  refine ⟨[.agg zTagV.toArray,.int .i64 13],rfl,rfl,fun i x y hx hy=>?_⟩
  match i with
  | 0 =>
   have hx:some (DV.g (tagC zTg))=some x:=hx
   have hy:some (Value.agg zTagV.toArray)=some y:=hy
   injection hx with hx
   injection hy with hy
   subst hx hy
   exact rd_zTag
  | 1 =>
   have hx:some (DV.c (.v (.int .i64 13)))=some x:=hx
   have hy:some (Value.int .i64 13)=some y:=hy
   injection hx with hx
   injection hy with hy
   subst hx hy
   exact .v _ rfl
  | i+2=>simp at hx
 go_enter_defers Tryz.func100,Tryz.ntmps100
 go_wp2_with (refine haltZ_load (ty:=45) rfl ?_)
 have e3:Ev (fun _=>False) w (((w.alloc (.cells #[u0,u1,u2,u3,u4] 45)).alloc (.cells zTagV.toArray 35)).alloc (.cells #[.int .i64 0] 46)):=by
  refine ⟨rfl,rfl,rfl,by simp;omega,fun k hk _=>?_⟩
  rw [Below.heap_alloc _ _ k (by simp;omega),Below.heap_alloc _ _ k (by simp;omega),Below.heap_alloc _ _ k hk]
 have b1:(((w.alloc (.cells #[u0,u1,u2,u3,u4] 45)).alloc (.cells zTagV.toArray 35)).alloc (.cells #[.int .i64 0] 46)).heap[w.heap.size]?=some (.cells #[u0,u1,u2,u3,u4] 45 (0,0)):=box_alloc (box_alloc (box_new w _ _) _) _
 have b2:(((w.alloc (.cells #[u0,u1,u2,u3,u4] 45)).alloc (.cells zTagV.toArray 35)).alloc (.cells #[.int .i64 0] 46)).heap[w.heap.size+1]?=some (.cells zTagV.toArray 35 (0,0)):=by
  have h:=box_new (w.alloc (.cells #[u0,u1,u2,u3,u4] 45)) zTagV.toArray 35
  rw [World.size_alloc] at h
  exact box_alloc h _
 have b3:(((w.alloc (.cells #[u0,u1,u2,u3,u4] 45)).alloc (.cells zTagV.toArray 35)).alloc (.cells #[.int .i64 0] 46)).heap[w.heap.size+1+1]?=some (.cells #[.int .i64 0] 46 (0,0)):=by
  have h:=box_new ((w.alloc (.cells #[u0,u1,u2,u3,u4] 45)).alloc (.cells zTagV.toArray 35)) #[.int .i64 0] 46
  rw [World.size_alloc,World.size_alloc] at h
  exact h
 have later: ∀ w',Ev (fun _=>False) w w'→(∀ b,S b→b<w'.heap.size)∧Tables G w' S∧DArgs w' S [.g (treeC v)] [.agg #[u0,u1,u2,u3,u4]]:=fun w' h=>by
  have hb: ∀ b,S b→w'.heap[b]?=w.heap[b]?:=fun b hb=>h.block b (hS b hb) (fun h=>h)
  refine ⟨fun b hb=>Nat.lt_of_lt_of_le (hS b hb) h.size,fun g cs hg=>(hT g cs hg).mono (fun _ h=>h) hb,rfl,fun i x y hx hy=>?_⟩
  cases i with
  | zero =>
   have hx:some (DV.g (treeC v))=some x:=hx
   have hy:some (Value.agg #[u0,u1,u2,u3,u4])=some y:=hy
   injection hx with hx
   injection hy with hy
   subst hx hy
   exact ⟨[u0,u1,u2,u3,u4],rfl,by rw [treeC_len];rfl,fun j a b ha hb'=>RD.mono (fun _ h=>h) (fun p hp=>World.cell?_of_block (hb _ hp)) (hus j a b ha hb')⟩
  | succ i=>simp at hx
 unfold zTagV at e3 b1 b2 b3
 generalize hg:w.heap.size=g at *
 generalize (((w.alloc (.cells #[u0,u1,u2,u3,u4] 45)).alloc (.cells _ 35)).alloc (.cells #[.int .i64 0] 46))=w3 at *
 refine go_onZ (wpList_load_row rfl 45 _ rfl g rfl 45 #[u0,u1,u2,u3,u4] (0,0) _ b1 Tryz.underlying45 rfl (by kernel_rfl) ?_)
 go_wp2_with fail
 obtain ⟨l1,l2,l3⟩:=later w3 e3
 refine Calls.mono (hmay w3 S _ l1 l2 l3) ?_
 rintro e w4 ⟨e4,y,rfl,hy⟩
 obtain rfl:y= .bool v.may:=by
  have hy:RD w4 _ (.v (.bool v.may)) y:=hy
  cases hy
  rfl
 clear hy l1 l2 l3 hmay
 have e5:=e3.trans e4 (fun i hi h=>h)
 have k1: ∀ {k x},w3.heap[k]?=some x→w4.heap[k]?=some x:=fun {k x} h=>(e4.block k (Array.getElem?_eq_some_iff.1 h).1 (fun h=>h)).trans h
 have d1:=k1 b1
 have d2:=k1 b2
 have d3:=k1 b3
 clear k1 b1 b2 b3 e3 e4
 obtain ⟨l1,l2,l3⟩:=later w4 e5
 cases hm:v.may with
 | false =>
  have hwf:=(want_f (G:=G)).get0 rfl
  have hO:getO v= .many [.g (tagC zTg),.c (.v (.int .i64 13))]:=by
   unfold getO
   rw [hm]
   rfl
  go_wp2_with fail
  refine Calls.mono (hwf w4 S _ l1 l2 ⟨rfl,fun i x y hx hy=>?_⟩) ?_
  ·cases i with
   | zero =>
    have hx:some (DV.c (.v (.bool false)))=some x:=hx
    have hy:some (Value.bool false)=some y:=hy
    injection hx with hx
    injection hy with hy
    subst hx hy
    exact .v _ rfl
   | succ i=>simp at hx
  rintro e w6 ⟨e6,rfl⟩
  have k6: ∀ {k x},w4.heap[k]?=some x→w6.heap[k]?=some x:=fun {k x} h=>(e6.block k (Array.getElem?_eq_some_iff.1 h).1 (fun h=>h)).trans h
  go_wp2
  refine get_pan (g+1) (g+1+1) (by omega) w6 _ _ rfl (k6 d2) (k6 d3) rfl rfl fun w7 hev7=>⟨(e5.trans e6 fun _ _ h=>h).trans hev7 (fun i hi h=>by omega),?_⟩
  rw [hO,hg]
  exact hend w7
 | true =>
  have hwt:=(want_t (G:=G)).get0 rfl
  have hcl:v.clean=true:=by
   simp only [Tree.may,Bool.and_eq_true] at hm
   exact hm.1.1.1
  have hget:=(pget_m (G:=G) v _ rfl hw hcl).get0 (by unfold outT;split<;>rfl)
  go_wp2_with fail
  refine Calls.mono (hwt w4 S _ l1 l2 ⟨rfl,fun i x y hx hy=>?_⟩) ?_
  ·cases i with
   | zero =>
    have hx:some (DV.c (.v (.bool true)))=some x:=hx
    have hy:some (Value.bool true)=some y:=hy
    injection hx with hx
    injection hy with hy
    subst hx hy
    exact .v _ rfl
   | succ i=>simp at hx
  rintro e w6 ⟨e6,us6,rfl,hl6,_⟩
  obtain rfl:us6=[]:=List.length_eq_zero_iff.1 hl6
  have k6: ∀ {k x},w4.heap[k]?=some x→w6.heap[k]?=some x:=fun {k x} h=>(e6.block k (Array.getElem?_eq_some_iff.1 h).1 (fun h=>h)).trans h
  have e7:=e5.trans e6 (fun i hi h=>h)
  have q1:=k6 d1
  have q2:=k6 d2
  have q3:=k6 d3
  have z6:=(Array.getElem?_eq_some_iff.1 q3).1
  clear k6 l1 l2 l3 d1 d2 d3 hwt hl6
  go_wp2_with (refine haltZ_load (ty:=45) rfl ?_)
  refine go_onZ (wpList_load_row rfl 45 _ rfl g rfl 45 #[u0,u1,u2,u3,u4] (0,0) _ q1 Tryz.underlying45 rfl (by kernel_rfl) ?_)
  go_wp2_with fail
  obtain ⟨l1,l2,l3⟩:=later w6 e7
  refine Calls.mono (hget w6 S _ l1 l2 l3) ?_
  rintro e w8 ⟨e8,hD⟩
  have k8: ∀ {k x},w6.heap[k]?=some x→w8.heap[k]?=some x:=fun {k x} h=>(e8.block k (Array.getElem?_eq_some_iff.1 h).1 (fun h=>h)).trans h
  have r2:=k8 q2
  have r3:=k8 q3
  have e9:=e7.trans e8 (fun i hi h=>h)
  clear k8 q1 q2 q3 l1 l2 l3
  have hO0:getO v=match getT isV v with
    | some t=> .many [.g (tagC t),.c (.v (.int .i64 0))]
    | none=> .many [.g (tagC zTg),.c (.v (.int .i64 13))]:=by
   unfold getO
   rw [hm,if_pos rfl]
  cases ho:getT isV v with
  | none =>
   rw [ho] at hD hO0
   obtain rfl:e= .panicked [{ v:=vNone,recovered:=false }]:=hD
   go_wp2
   refine get_pan (g+1) (g+1+1) (by omega) w8 _ _ rfl r2 r3 rfl rfl fun w9 hev9=>⟨e9.trans hev9 (fun i hi h=>by omega),?_⟩
   rw [hO0,hg]
   exact hend w9
  | some t =>
   rw [ho] at hD hO0
   obtain ⟨y,rfl,ys,rfl,hyl,hyr⟩: ∃ y,e= .returned y∧DRd w8 _ (.g (tagC t)) y:=hD
   rw [tagC_len] at hyl
   go_wp2_with (refine haltZ_store (ty:=35) rfl ?_)
   have hones:ys.toArray.all (·.oneCell')=true:=by
    rw [← Array.all_toList,List.all_eq_true]
    intro u hu
    obtain ⟨j,hj,hju⟩:=List.mem_iff_getElem.1 hu
    have hj':j<ys.length:=by simpa using hj
    have hy:ys[j]?=some u:=by
     rw [List.getElem?_eq_getElem hj']
     exact congrArg some (by simpa using hju)
    exact RD.one (hyr j _ u (List.getElem?_eq_getElem (by rw [tagC_len,← hyl];exact hj')) hy)
   refine go_onZ (wpList_store_row rfl 35 _ _ rfl (g+1) ys.toArray rfl rfl 35 _ r2 (by rw [List.size_toArray,hyl];kernel_rfl) (by simp [hyl]) hones ?_)
   have t2:=setRow_heap w8 (g+1) _ ys.toArray 35 (0,0) r2
   have t3:=(setRow_other w8 (g+1) (g+1+1) ys.toArray (by omega)).trans r3
   have v8:Ev (fun k=>k=g+1∨k=g+1+1) w8 (w8.setRow (g+1) ys.toArray):=⟨rfl,rfl,rfl,by simp,fun k hk hn=>setRow_other _ _ _ _ (fun e=>hn (.inl e))⟩
   generalize w8.setRow (g+1) ys.toArray=w9 at *
   have hc9:=boxed t3 0 _ rfl
   have hf9:=boxed_frozen t3 0
   have s2:(w9.setCell ⟨g+1+1,0,none⟩ (.int .i64 0)).heap[g+1]?=some (.cells ys.toArray 35 (0,0)):=box_far (p:=⟨g+1+1,0,none⟩) t2 (by simp) _
   have s3:(w9.setCell ⟨g+1+1,0,none⟩ (.int .i64 0)).heap[g+1+1]?=some (.cells #[.int .i64 0] 46 (0,0)):=by simpa using box_set t3 (j:=0) (.int .i64 0)
   have v9:Ev (fun k=>k=g+1∨k=g+1+1) w8 (w9.setCell ⟨g+1+1,0,none⟩ (.int .i64 0)):=⟨v8.os,v8.tape,v8.output,by simpa [World.setCell] using v8.size,fun k hk hn=>(Below.heap_setCell w9 ⟨g+1+1,0,none⟩ _ k (fun e=>hn (.inr e))).trans (v8.block k hk hn)⟩
   go_wp2
   refine get_ret (g+1) (g+1+1) _ _ (by rw [List.size_toArray,hyl]) s2 s3 rfl rfl ⟨e9.trans v9 (fun i hi h=>by omega),?_⟩
   rw [hO0]
   generalize w9.setCell ⟨g+1+1,0,none⟩ (.int .i64 0)=w10 at *
   refine ⟨[.agg ys.toArray,.int .i64 0],rfl,rfl,fun i x y hx hy=>?_⟩
   match i with
   | 0 =>
    have hx:some (DV.g (tagC t))=some x:=hx
    have hy:some (Value.agg ys.toArray)=some y:=hy
    injection hx with hx
    injection hy with hy
    subst hx hy
    have hz8:=v9.size
    have hz6:=e8.size
    refine ⟨ys,rfl,by rw [tagC_len];exact hyl,fun j a b ha hb=>RD.mono (fun c hc=>?_) (fun p hp=>World.cell?_of_block (v9.block _ ?_ ?_)) (hyr j a b ha hb)⟩
    ·rcases hc with hc|⟨h1,h2⟩
     ·exact .inl hc
     ·exact .inr ⟨by omega,by omega⟩
    ·rcases hp with hc|⟨h1,h2⟩
     ·have:=hS _ hc
      omega
     ·exact h2
    ·rintro (h|h)
     all_goals
      rcases hp with hc|⟨h1,h2⟩
      ·have:=hS _ hc
       omega
      ·omega
   | 1 =>
    have hx:some (DV.c (.v (.int .i64 0)))=some x:=hx
    have hy:some (Value.int .i64 0)=some y:=hy
    injection hx with hx
    injection hy with hy
    subst hx hy
    exact .v _ rfl
   | i+2=>simp at hx
end
@[go_sem] def certO (cs:List D):AObj:=⟨39,cs.map C.d,true,false⟩
theorem keyD_at (o:Option (Bool × List UInt8)):keyD o=[.v (.bool (o.getD (false,[])).1),bytesD (o.getD (false,[])).2]:=by
 cases o<;>rfl
theorem getO_at (v:Tree):getO v= .many [.g (tagC ((getTg v).getD zeroTg)),.c (.v (.int .i64 (if (getTg v).isSome=true then 0 else 13)))]:=by
 unfold getO getTg
 generalize (if v.may=true then getT isV v else none)=o
 cases o<;>rfl
theorem zeroT_clean:zeroT.clean=true:=by
 unfold zeroT
 rw [Tree.clean_eq]
 rfl
theorem word_eq (a w:List UInt8):(a==w)=decide (a=w):=by
 by_cases h:a=w
 ·rw [decide_eq_true h,h,beq_self_eq_true]
 ·rw [decide_eq_false h,beq_eq_false_iff_ne]
  exact h
section
variable {G:Nat→Option (List D)}
theorem part_m (hG:G 0=some powD) (c:Ct) (v:Tree) {cs:List D} (hcs:treeC v=cs) (hw:v.wt≤30000000) (hc:v.clean=true) :
  SpecO Tryz.prog G 62 [.c (.ptr 0 0),(DV.g cs).av] [(0,certO (ctC c))] (.ret (.tup []) [(0,some (certO (ctC (stepC c v))))]):=by
 subst hcs
 have hkw: ∀ x∈v.kids,x.wt<v.wt:=fun x hx=>Tree.wt_kid hx
 have hof:=certof_m (G:=G) v rfl (fun x hx=>by have:=hkw x hx;have:=x.wt_data;omega)
 have hx:(ofP v).2.wt≤30000000∧(ofP v).2.clean=true:=by
  unfold ofP
  split
  ·exact ⟨by show zeroT.wt≤_;rw [zeroT_wt];omega,zeroT_clean⟩
  ·exact ⟨by show zeroT.wt≤_;rw [zeroT_wt];omega,zeroT_clean⟩
  ·rename_i a b m hk
   have hb:b∈v.kids:=by rw [hk];simp
   exact ⟨by have:=hkw b hb;show b.wt≤_;omega,kid_clean' hc hb⟩
 obtain ⟨hxw,hxc⟩:=hx
 have hst:stepC c v=if (ofP v).1=wIssuer then issP c (ofP v).2
  else if (ofP v).1=wSubject then { c with sub:=(getSb (ofP v).2).getD Sb.none }
  else if (ofP v).1=wProp then { c with dlg:=true }
  else if (ofP v).1=wTagW then { c with tag:=(getTg (ofP v).2).getD zeroTg }
  else if (ofP v).1=wValid then { c with win:=(getR v).getD Wd.none }
  else c:=rfl
 have g1:=kget_m (G:=G) (ofP v).2 rfl hxw
 have g2:=sbget_m (G:=G) hG (ofP v).2 rfl hxw
 have g4:=tget_m (G:=G) hG (ofP v).2 rfl hxw
 have g5:=wget_m (G:=G) v rfl hw hc
 rw [getO_at] at g4
 rw [keyD_at] at g1
 unfold sbgetD at g2
 unfold wgetR wdC at g5
 rw [hst]
 clear hst hkw
 obtain ⟨ks,kd,label,sub,dlg,tag,win⟩:=c
 obtain ⟨s1,s2,s3,s4,s5,hs⟩:=sb_cells sub
 obtain ⟨t0,t1,t2,t3,t4,t5,t6,t7,t8,t9,ht⟩:=tag_cells tag
 have hct: ∀ (ks:Bool) (kd label:List UInt8) (dlg:Bool) (win:Wd),ctC ⟨ks,kd,label,sub,dlg,tag,win⟩=[.v (.bool ks),bytesD kd,bytesD label,.v (.int .u8 (sub.kind.toNat:Int)),s1,s2,s3,s4,s5,.v (.bool dlg),t0,t1,t2,t3,t4,t5,t6,t7,t8,t9,.v (.bool win.aft),.v (.int .i64 win.frm),.v (.bool win.unt),.v (.int .i64 win.to)]:=fun ks kd label dlg win=>by
  unfold ctC wdC
  dsimp only
  rw [hs,ht]
  rfl
 have e1:=word_eq (ofP v).1 wIssuer
 have e2:=word_eq (ofP v).1 wSubject
 have e3:=word_eq (ofP v).1 wProp
 have e4:=word_eq (ofP v).1 wTagW
 have e5:=word_eq (ofP v).1 wValid
 generalize (ofP v).1=a at *
 generalize (ofP v).2=x at *
 rw [treeC_eq v] at hof g5 ⊢
 by_cases c1:a=wIssuer
 ·rw [decide_eq_true c1] at e1
  rw [if_pos c1]
  clear g2 g4 g5 e2 e3 e4 e5 c1
  unfold issP
  by_cases h3:x.kids.length=3
  ·obtain ⟨p,q,r,hk⟩: ∃ p q r,x.kids=[p,q,r]:=by
    match hk:x.kids,h3 with
    | [p,q,r],_=>exact ⟨p,q,r,rfl⟩
   have hp:x.kid 0=p:=Tree.kid_at (by rw [hk];rfl)
   have hq:x.kid 1=q:=Tree.kid_at (by rw [hk];rfl)
   have hr:x.kid 2=r:=Tree.kid_at (by rw [hk];rfl)
   have wq:=Tree.wt_kid (t:=x) (x:=q) (by rw [hk];simp)
   have wr:=Tree.wt_kid (t:=x) (x:=r) (by rw [hk];simp)
   have wp:=Tree.wt_kid (t:=x) (x:=p) (by rw [hk];simp)
   have dr:=r.wt_data
   have dp:=p.wt_data
   have g6:=kget_m (G:=G) q rfl (by omega)
   have g7:=bclone_m (G:=G) r.data (by omega)
   rw [keyD_at] at g6
   have e6:=word_eq p.data tName
   have k3:(((3:Nat):Int)==3)=true:=rfl
   rw [hp,hq,hr]
   rw [treeC_eq x] at hof g1
   rw [hk] at hof g1 ⊢
   rw [List.length_cons,List.length_cons,List.length_cons,List.length_nil] at hof g1 ⊢
   rw [treeC_eq q] at g6
   by_cases hn:p.data=tName
   ·rw [decide_eq_true hn] at e6
    rw [if_pos ⟨rfl,hn⟩]
    clear hn
    dsimp only
    rw [hct,hct]
    clear hct hs ht
    unfold wIssuer tName at *
    generalize (if (getK x).isSome=true then (0:Int) else 7)=E1 at *
    generalize (if (getK q).isSome=true then (0:Int) else 7)=E2 at *
    generalize (getK x).getD (false,[])=K1 at *
    generalize (getK q).getD (false,[])=K2 at *
    simp only [bD,bytesD,List.flatMap_cons,List.flatMap_nil,treeC_eq p,treeC_eq q,treeC_eq r,List.cons_append,List.nil_append,List.append_nil] at *
    refine specO_go Tryz.func62 rfl rfl rfl (by kernel_rfl) (by (iterate 2 ((try simp (maxSteps:=9^9) -implicitDefEqProofs only [go_sem,true_and]);(try simp (maxSteps:=9^9) (disch:=omega) only [wq])))) (by (iterate 2 ((try simp (maxSteps:=9^9) -implicitDefEqProofs only [go_sem,List.all_cons,List.all_nil]);(try simp (maxSteps:=9^9) (disch:=omega) only [wq])))) fun K m=>?_
    (repeat' (first|with_reducible (first|refine zA fun Kn hK=>?_|refine zU ?_|refine Nx.go ?_|go_step)|refine ⟨_,hof,?_⟩|refine ⟨_,g1,?_⟩|refine ⟨_,g6,?_⟩|refine ⟨_,g7,?_⟩|refine raw_f ?_|with_reducible (first|refine zI ?_|refine zK ?_ ?_|refine zL ?_ ?_|refine zV ?_)|simp (maxSteps:=9^9) (disch:=omega) only [wq]|with_reducible refine zM (fun hb=>?_) (fun hb=>?_)<;>try simp only [hb]|with_reducible refine And.intro (by first|omega|(simp;done)|(simp;omega)) ?_|simp (maxSteps:=9^9) -implicitDefEqProofs only [go_sem,e1,e6,k3,decide_true,bne,Bool.not_true,Bool.not_false]))
    all_goals first|rfl|(simp only [Option.some.injEq,AObj.mk.injEq,List.cons.injEq,SV.a.injEq,AV.c.injEq,C.d.injEq,D.v.injEq,Value.int.injEq,true_and,and_true];first|done|omega|(simp;done)|(simp;omega))
   ·rw [decide_eq_false hn] at e6
    rw [if_neg (fun h=>hn h.2)]
    clear hn g6 g7
    dsimp only
    rw [hct,hct]
    clear hct hs ht
    unfold wIssuer tName at *
    generalize (if (getK x).isSome=true then (0:Int) else 7)=E1 at *
    generalize (getK x).getD (false,[])=K1 at *
    simp only [bD,bytesD,List.flatMap_cons,List.flatMap_nil,treeC_eq p,treeC_eq q,treeC_eq r,List.cons_append,List.nil_append,List.append_nil] at *
    refine specO_go Tryz.func62 rfl rfl rfl (by kernel_rfl) (by (iterate 2 ((try simp (maxSteps:=9^9) -implicitDefEqProofs only [go_sem,true_and]);(try simp (maxSteps:=9^9) (disch:=omega) only [wq])))) (by (iterate 2 ((try simp (maxSteps:=9^9) -implicitDefEqProofs only [go_sem,List.all_cons,List.all_nil]);(try simp (maxSteps:=9^9) (disch:=omega) only [wq])))) fun K m=>?_
    (repeat' (first|with_reducible (first|refine zA fun Kn hK=>?_|refine zU ?_|refine Nx.go ?_|go_step)|refine ⟨_,hof,?_⟩|refine ⟨_,g1,?_⟩|refine raw_f ?_|with_reducible (first|refine zI ?_|refine zK ?_ ?_|refine zL ?_ ?_|refine zV ?_)|simp (maxSteps:=9^9) (disch:=omega) only [wq]|with_reducible refine zM (fun hb=>?_) (fun hb=>?_)<;>try simp only [hb]|with_reducible refine And.intro (by first|omega|(simp;done)|(simp;omega)) ?_|simp (maxSteps:=9^9) -implicitDefEqProofs only [go_sem,e1,e6,k3,decide_true,bne,Bool.not_true,Bool.not_false]))
    all_goals first|rfl|(simp only [Option.some.injEq,AObj.mk.injEq,List.cons.injEq,SV.a.injEq,AV.c.injEq,C.d.injEq,D.v.injEq,Value.int.injEq,true_and,and_true];first|done|omega|(simp;done)|(simp;omega))
  ·have k3:((x.kids.length:Int)==3)=false:=by
    rw [beq_eq_false_iff_ne]
    omega
   rw [if_neg (fun h=>h3 h.1)]
   dsimp only
   rw [hct,hct]
   clear hct hs ht
   rw [treeC_eq x] at hof g1
   unfold wIssuer at *
   generalize (if (getK x).isSome=true then (0:Int) else 7)=E1 at *
   generalize (getK x).getD (false,[])=K1 at *
   simp only [bD,bytesD] at *
   refine specO_go Tryz.func62 rfl rfl rfl (by kernel_rfl) (by (iterate 2 ((try simp (maxSteps:=9^9) -implicitDefEqProofs only [go_sem,true_and]);(try simp (maxSteps:=9^9) (disch:=omega) only [wq])))) (by (iterate 2 ((try simp (maxSteps:=9^9) -implicitDefEqProofs only [go_sem,List.all_cons,List.all_nil]);(try simp (maxSteps:=9^9) (disch:=omega) only [wq])))) fun K m=>?_
   (repeat' (first|with_reducible (first|refine zA fun Kn hK=>?_|refine zU ?_|refine Nx.go ?_|go_step)|refine ⟨_,hof,?_⟩|refine ⟨_,g1,?_⟩|refine raw_f ?_|with_reducible (first|refine zI ?_|refine zK ?_ ?_|refine zL ?_ ?_|refine zV ?_)|simp (maxSteps:=9^9) (disch:=omega) only [wq]|with_reducible refine zM (fun hb=>?_) (fun hb=>?_)<;>try simp only [hb]|with_reducible refine And.intro (by first|omega|(simp;done)|(simp;omega)) ?_|simp (maxSteps:=9^9) -implicitDefEqProofs only [go_sem,e1,k3,decide_true,bne,Bool.not_true,Bool.not_false]))
   all_goals first|rfl|(simp only [Option.some.injEq,AObj.mk.injEq,List.cons.injEq,SV.a.injEq,AV.c.injEq,C.d.injEq,D.v.injEq,Value.int.injEq,true_and,and_true];first|done|omega|(simp;done)|(simp;omega))
 rw [decide_eq_false c1] at e1
 rw [if_neg c1]
 by_cases c2:a=wSubject
 ·rw [decide_eq_true c2] at e2
  rw [if_pos c2]
  clear g1 g4 g5 e3 e4 e5 c1 c2
  dsimp only
  generalize (if (getSb x).isSome=true then (0:Int) else 7)=E1 at *
  generalize (getSb x).getD Sb.none=u at *
  obtain ⟨u1,u2,u3,u4,u5,hu⟩:=sb_cells u
  have hct':ctC ⟨ks,kd,label,u,dlg,tag,win⟩=[.v (.bool ks),bytesD kd,bytesD label,.v (.int .u8 (u.kind.toNat:Int)),u1,u2,u3,u4,u5,.v (.bool dlg),t0,t1,t2,t3,t4,t5,t6,t7,t8,t9,.v (.bool win.aft),.v (.int .i64 win.frm),.v (.bool win.unt),.v (.int .i64 win.to)]:=by
   unfold ctC wdC
   dsimp only
   rw [hu,ht]
   rfl
  rw [hct,hct']
  rw [hu] at g2
  clear hct hct' hs ht hu
  rw [treeC_eq x] at hof g2
  unfold wIssuer wSubject at *
  simp only [bD,bytesD] at *
  refine specO_go Tryz.func62 rfl rfl rfl (by kernel_rfl) (by (iterate 2 ((try simp (maxSteps:=9^9) -implicitDefEqProofs only [go_sem,true_and]);(try simp (maxSteps:=9^9) (disch:=omega) only [wq])))) (by (iterate 2 ((try simp (maxSteps:=9^9) -implicitDefEqProofs only [go_sem,List.all_cons,List.all_nil]);(try simp (maxSteps:=9^9) (disch:=omega) only [wq])))) fun K m=>?_
  (repeat' (first|with_reducible (first|refine zA fun Kn hK=>?_|refine zU ?_|refine Nx.go ?_|go_step)|refine ⟨_,hof,?_⟩|refine ⟨_,g2,?_⟩|refine raw_f ?_|with_reducible (first|refine zI ?_|refine zK ?_ ?_|refine zL ?_ ?_|refine zV ?_)|simp (maxSteps:=9^9) (disch:=omega) only [wq]|with_reducible refine zM (fun hb=>?_) (fun hb=>?_)<;>try simp only [hb]|with_reducible refine And.intro (by first|omega|(simp;done)|(simp;omega)) ?_|simp (maxSteps:=9^9) -implicitDefEqProofs only [go_sem,e1,e2,decide_true,bne,Bool.not_true,Bool.not_false]))
  all_goals first|rfl|(simp only [Option.some.injEq,AObj.mk.injEq,List.cons.injEq,SV.a.injEq,AV.c.injEq,C.d.injEq,D.v.injEq,Value.int.injEq,true_and,and_true];first|done|omega|(simp;done)|(simp;omega))
 rw [decide_eq_false c2] at e2
 rw [if_neg c2]
 by_cases c3:a=wProp
 ·rw [decide_eq_true c3] at e3
  rw [if_pos c3]
  clear g1 g2 g4 g5 e4 e5 c1 c2 c3
  dsimp only
  rw [hct,hct]
  clear hct hs ht
  rw [treeC_eq x] at hof
  unfold wIssuer wSubject wProp at *
  simp only [bD,bytesD] at *
  refine specO_go Tryz.func62 rfl rfl rfl (by kernel_rfl) (by (iterate 2 ((try simp (maxSteps:=9^9) -implicitDefEqProofs only [go_sem,true_and]);(try simp (maxSteps:=9^9) (disch:=omega) only [wq])))) (by (iterate 2 ((try simp (maxSteps:=9^9) -implicitDefEqProofs only [go_sem,List.all_cons,List.all_nil]);(try simp (maxSteps:=9^9) (disch:=omega) only [wq])))) fun K m=>?_
  (repeat' (first|with_reducible (first|refine zA fun Kn hK=>?_|refine zU ?_|refine Nx.go ?_|go_step)|refine ⟨_,hof,?_⟩|refine raw_f ?_|with_reducible (first|refine zI ?_|refine zK ?_ ?_|refine zL ?_ ?_|refine zV ?_)|simp (maxSteps:=9^9) (disch:=omega) only [wq]|with_reducible refine zM (fun hb=>?_) (fun hb=>?_)<;>try simp only [hb]|with_reducible refine And.intro (by first|omega|(simp;done)|(simp;omega)) ?_|simp (maxSteps:=9^9) -implicitDefEqProofs only [go_sem,e1,e2,e3,decide_true,bne,Bool.not_true,Bool.not_false]))
  all_goals first|rfl|(simp only [Option.some.injEq,AObj.mk.injEq,List.cons.injEq,SV.a.injEq,AV.c.injEq,C.d.injEq,D.v.injEq,Value.int.injEq,true_and,and_true];first|done|omega|(simp;done)|(simp;omega))
 rw [decide_eq_false c3] at e3
 rw [if_neg c3]
 by_cases c4:a=wTagW
 ·rw [decide_eq_true c4] at e4
  rw [if_pos c4]
  clear g1 g2 g5 e5 c1 c2 c3 c4
  dsimp only
  generalize (if (getTg x).isSome=true then (0:Int) else 13)=E1 at *
  generalize (getTg x).getD zeroTg=u at *
  obtain ⟨u0,u1,u2,u3,u4,u5,u6,u7,u8,u9,hu⟩:=tag_cells u
  have hct':ctC ⟨ks,kd,label,sub,dlg,u,win⟩=[.v (.bool ks),bytesD kd,bytesD label,.v (.int .u8 (sub.kind.toNat:Int)),s1,s2,s3,s4,s5,.v (.bool dlg),u0,u1,u2,u3,u4,u5,u6,u7,u8,u9,.v (.bool win.aft),.v (.int .i64 win.frm),.v (.bool win.unt),.v (.int .i64 win.to)]:=by
   unfold ctC wdC
   dsimp only
   rw [hs,hu]
   rfl
  rw [hct,hct']
  rw [hu] at g4
  clear hct hct' hs ht hu
  rw [treeC_eq x] at hof g4
  unfold wIssuer wSubject wProp wTagW at *
  simp only [bD,bytesD] at *
  refine specO_go Tryz.func62 rfl rfl rfl (by kernel_rfl) (by (iterate 2 ((try simp (maxSteps:=9^9) -implicitDefEqProofs only [go_sem,true_and]);(try simp (maxSteps:=9^9) (disch:=omega) only [wq])))) (by (iterate 2 ((try simp (maxSteps:=9^9) -implicitDefEqProofs only [go_sem,List.all_cons,List.all_nil]);(try simp (maxSteps:=9^9) (disch:=omega) only [wq])))) fun K m=>?_
  (repeat' (first|with_reducible (first|refine zA fun Kn hK=>?_|refine zU ?_|refine Nx.go ?_|go_step)|refine ⟨_,hof,?_⟩|refine ⟨_,g4,?_⟩|refine raw_f ?_|with_reducible (first|refine zI ?_|refine zK ?_ ?_|refine zL ?_ ?_|refine zV ?_)|simp (maxSteps:=9^9) (disch:=omega) only [wq]|with_reducible refine zM (fun hb=>?_) (fun hb=>?_)<;>try simp only [hb]|with_reducible refine And.intro (by first|omega|(simp;done)|(simp;omega)) ?_|simp (maxSteps:=9^9) -implicitDefEqProofs only [go_sem,e1,e2,e3,e4,decide_true,bne,Bool.not_true,Bool.not_false]))
  all_goals first|rfl|(simp only [Option.some.injEq,AObj.mk.injEq,List.cons.injEq,SV.a.injEq,AV.c.injEq,C.d.injEq,D.v.injEq,Value.int.injEq,true_and,and_true];first|done|omega|(simp;done)|(simp;omega))
 rw [decide_eq_false c4] at e4
 rw [if_neg c4]
 by_cases c5:a=wValid
 ·rw [decide_eq_true c5] at e5
  rw [if_pos c5]
  clear g1 g2 g4 c1 c2 c3 c4 c5
  dsimp only
  generalize (if (getR v).isSome=true then (0:Int) else 11)=E1 at *
  generalize (getR v).getD Wd.none=u at *
  rw [hct,hct]
  clear hct hs ht
  rw [treeC_eq x] at hof
  unfold wIssuer wSubject wProp wTagW wValid at *
  simp only [bD,bytesD] at *
  refine specO_go Tryz.func62 rfl rfl rfl (by kernel_rfl) (by (iterate 2 ((try simp (maxSteps:=9^9) -implicitDefEqProofs only [go_sem,true_and]);(try simp (maxSteps:=9^9) (disch:=omega) only [wq])))) (by (iterate 2 ((try simp (maxSteps:=9^9) -implicitDefEqProofs only [go_sem,List.all_cons,List.all_nil]);(try simp (maxSteps:=9^9) (disch:=omega) only [wq])))) fun K m=>?_
  (repeat' (first|with_reducible (first|refine zA fun Kn hK=>?_|refine zU ?_|refine Nx.go ?_|go_step)|refine ⟨_,hof,?_⟩|refine ⟨_,g5,?_⟩|refine raw_f ?_|with_reducible (first|refine zI ?_|refine zK ?_ ?_|refine zL ?_ ?_|refine zV ?_)|simp (maxSteps:=9^9) (disch:=omega) only [wq]|with_reducible refine zM (fun hb=>?_) (fun hb=>?_)<;>try simp only [hb]|with_reducible refine And.intro (by first|omega|(simp;done)|(simp;omega)) ?_|simp (maxSteps:=9^9) -implicitDefEqProofs only [go_sem,e1,e2,e3,e4,e5,decide_true,bne,Bool.not_true,Bool.not_false]))
  all_goals first|rfl|(simp only [Option.some.injEq,AObj.mk.injEq,List.cons.injEq,SV.a.injEq,AV.c.injEq,C.d.injEq,D.v.injEq,Value.int.injEq,true_and,and_true];first|done|omega|(simp;done)|(simp;omega))
 ·rw [decide_eq_false c5] at e5
  rw [if_neg c5]
  clear g1 g2 g4 g5 c1 c2 c3 c4 c5
  rw [hct]
  clear hct hs ht
  rw [treeC_eq x] at hof
  unfold wIssuer wSubject wProp wTagW wValid at *
  simp only [bD,bytesD] at *
  refine specO_go Tryz.func62 rfl rfl rfl (by kernel_rfl) (by (iterate 2 ((try simp (maxSteps:=9^9) -implicitDefEqProofs only [go_sem,true_and]);(try simp (maxSteps:=9^9) (disch:=omega) only [wq])))) (by (iterate 2 ((try simp (maxSteps:=9^9) -implicitDefEqProofs only [go_sem,List.all_cons,List.all_nil]);(try simp (maxSteps:=9^9) (disch:=omega) only [wq])))) fun K m=>?_
  (repeat' (first|with_reducible (first|refine zA fun Kn hK=>?_|refine zU ?_|refine Nx.go ?_|go_step)|refine ⟨_,hof,?_⟩|refine raw_f ?_|with_reducible (first|refine zI ?_|refine zK ?_ ?_|refine zL ?_ ?_|refine zV ?_)|simp (maxSteps:=9^9) (disch:=omega) only [wq]|with_reducible refine zM (fun hb=>?_) (fun hb=>?_)<;>try simp only [hb]|with_reducible refine And.intro (by first|omega|(simp;done)|(simp;omega)) ?_|simp (maxSteps:=9^9) -implicitDefEqProofs only [go_sem,e1,e2,e3,e4,e5,decide_true,bne,Bool.not_true,Bool.not_false]))
  all_goals first|rfl|(simp only [Option.some.injEq,AObj.mk.injEq,List.cons.injEq,SV.a.injEq,AV.c.injEq,C.d.injEq,D.v.injEq,Value.int.injEq,true_and,and_true];first|done|omega|(simp;done)|(simp;omega))
end
noncomputable def Sb.same (t u:Sb):Bool:= @decide (t=u) (Classical.propDecidable _)
theorem ssame_iff {t u:Sb}:t.same u=true↔t=u:=by
 unfold Sb.same
 exact @decide_eq_true_iff _ (Classical.propDecidable _)
noncomputable def sameLS (t u:List Sb):Bool:= @decide (t=u) (Classical.propDecidable _)
theorem sameLS_t {l m:List Sb} (h:l=m):sameLS l m=true:=by
 unfold sameLS
 exact @decide_eq_true _ (Classical.propDecidable _) h
theorem sameLS_f {l m:List Sb} (h:l≠m):sameLS l m=false:=by
 unfold sameLS
 exact @decide_eq_false _ (Classical.propDecidable _) h
theorem sameLS_of {l m:List Sb} (h:sameLS l m=true):l=m:=by
 unfold sameLS at h
 exact @of_decide_eq_true _ (Classical.propDecidable _) h
section
variable {G:Nat→Option (List D)}
end
end Go.Proofs.YtfammdfpgccnfaaGreatDoor
