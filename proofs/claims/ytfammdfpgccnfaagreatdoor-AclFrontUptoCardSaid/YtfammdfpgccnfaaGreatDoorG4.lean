/- Parts of the proof, laid together. -/
import Derived.Test.YtfammdfpgccnfaaGreatDoorG3
import Derived.Shelf.Strings.Builder1
import Derived.Shelf.Small.Wraps
import Derived.Shelf.Strings.BuilderF
import Derived.Shelf.Strings.BuilderK
import Derived.Shelf.Strconv.Itoa0
import Derived.Shelf.Strconv.Itoa1
import Derived.Shelf.LaysM
import Derived.Shelf.Strconv.Itoa2
import Derived.Shelf.Strconv.Itoa3
import Derived.Shelf.Strings.Search1
import Derived.Shelf.Strings.BuilderCap
import Derived.Shelf.Slices.Turned
import Derived.Ground.Names2Prog
import Derived.Shelf.Slices.SearchI
import Derived.Shelf.Bytes.SlIndexSmall
import Derived.Shelf.Bytes.SlIndexAt
import Derived.Shelf.Bytes.SlSearch0
import Derived.Shelf.Bytes.SlSearch1
import Derived.Shelf.Bytes.SlSearch2
import Derived.Shelf.Bytes.SlIndexWhole
import Derived.Ground.SlbCloneProg
import Derived.Shelf.Bytes.SlClone
import Derived.Shelf.Bytes.SlSmallAll
import Derived.Shelf.Bytes.SlEqualAll
import Derived.Ground.SlbtProg
import Derived.Shelf.Bytes.SlCut
import Derived.Shelf.Bytes.Small
import Derived.Shelf.Bytes.IndexByte
import Derived.Test.YtfammdfpgccnfaaGreatDoorProg
import Derived.Lib.AppendIntMem
import Derived.Lib.OthersKept
set_option linter.unusedVariables false
set_option linter.unusedSimpArgs false
set_option maxRecDepth 100000
set_option maxHeartbeats 8000000
namespace Go.Proofs.YtfammdfpgccnfaaGreatDoor
open Go.RowKit
theorem same_t {t u:Tree} (h:t=u):t.same u=true:=by
 unfold Tree.same
 exact @decide_eq_true _ (Classical.propDecidable _) h
theorem same_f {t u:Tree} (h:t≠u):t.same u=false:=by
 unfold Tree.same
 exact @decide_eq_false _ (Classical.propDecidable _) h
theorem same_of {t u:Tree} (h:t.same u=true):t=u:=by
 refine Classical.byContradiction fun hn=>?_
 rw [same_f hn] at h
 cases h
theorem sameref_m {G:Nat→Option (List D)}: ∀ (t u:Tree) (cs ds:List D),treeC t=cs→treeC u=ds→t.wt≤1000000000→Spec Tryz.prog G 16 [.g cs,.g ds] (.one (.c (.v (.bool (t.same u))))):=Tree.ind fun t ih u cs ds hcs hds hw=>by
 subst hcs hds
 refine spec_of Tryz.func16 rfl rfl rfl (by kernel_rfl) rfl fun K=>?_
 rw [treeC_eq t,treeC_eq u]
 refine zA fun Kn hK=>?_
 refine zU ?_
 (iterate 2 ((try simp (maxSteps:=9^9) -implicitDefEqProofs only [go_sem,true_and]);(try simp (maxSteps:=9^9) (disch:=omega) only [wq])))
 refine hK _ ?_;clear hK;clear Kn
 refine zA fun Kn hK=>?_
 have hL : (t.list=u.list∧t.hinted=u.hinted∧t.hint=u.hint∧t.data=u.data∧t.kids.length=u.kids.length)→ ∀ s,LessL (renK []) ⟨[(2,vP 2 0),(3,vP 3 0)],[(2,some ⟨45,treeK t,true,false⟩),(3,some ⟨45,treeK u,true,false⟩)]⟩ (Fr0 Tryz.f16.ntmps) s→Kn s:=by
  intro hf s hl
  refine hK _ (sound_lessR _ _ hl ?_)
  clear hK hl
  (repeat' (first|with_reducible (first|refine zA fun Kn hK=>?_|refine zU ?_|refine Nx.go ?_|go_step)|with_reducible (first|refine zI ?_|refine zV ?_)|simp (maxSteps:=9^9) (disch:=omega) only [wq]|with_reducible refine zM (fun hb=>?_) (fun hb=>?_)<;>try simp only [hb]|with_reducible refine And.intro (by first|omega|(simp;done)|(simp;omega)) ?_|simp (maxSteps:=9^9) -implicitDefEqProofs only [go_sem,true_and]))
  refine sound_loopR (fun x:{k:Nat // k≤t.kids.length∧t.kids.take k=u.kids.take k}=>⟨[(2,vP 2 0),(3,vP 3 0),(47,vI t.kids.length),(48,vI x.1)],[(2,some ⟨45,treeK t,true,false⟩),(3,some ⟨45,treeK u,true,false⟩)]⟩) (fun x=>t.kids.length-x.1) ⟨0,by simp⟩ [] (by simp (maxSteps:=9^9) -implicitDefEqProofs only [go_sem];simp) (fun ⟨k,hk,hall⟩=>?_)
  have h5:=t.wt_kids
  by_cases hlt:k<t.kids.length
  ·obtain ⟨x,hx⟩: ∃ x,t.kids[k]?=some x:=⟨_,List.getElem?_eq_getElem hlt⟩
   obtain ⟨y,hy⟩: ∃ y,u.kids[k]?=some y:=⟨_,List.getElem?_eq_getElem (by omega)⟩
   have hb:decide ((k:Int)<(t.kids.length:Int))=true:=by simpa using hlt
   have hm:=List.mem_of_getElem? hx
   (repeat' (first|with_reducible (first|refine zA fun Kn hK=>?_|refine zU ?_|refine Nx.go ?_|go_step)|(refine ⟨_,ih x hm y _ _ rfl rfl (by have:=Tree.wt_kid hm;omega),?_⟩)|with_reducible (first|refine zI ?_|refine zV ?_)|simp (maxSteps:=9^9) (disch:=omega) only [wq]|with_reducible refine zM (fun hb=>?_) (fun hb=>?_)<;>try simp only [hb]|with_reducible refine And.intro (by first|omega|(simp;done)|(simp;omega)) ?_|simp (maxSteps:=9^9) -implicitDefEqProofs only [go_sem,hb,flat_at treeC_len hx,flat_at treeC_len hy]))
   ·refine ⟨[],⟨k+1,hlt,?_⟩,?_⟩
    ·rw [List.take_add_one,List.take_add_one,hx,hy,hall,same_of hb]
    ·(iterate 2 ((try simp (maxSteps:=9^9) -implicitDefEqProofs only [go_sem,true_and,or_false]);(try simp (maxSteps:=9^9) (disch:=omega) only [wq])))
     (simp only [ijq,true_and,and_true];first|done|omega|(split<;>omega)|(simp;done)|(simp;omega))
   ·rw [same_f]
    rintro rfl
    rw [hx] at hy
    injection hy with hy
    rw [same_t hy] at hb
    cases hb
  ·have hb:decide ((k:Int)<(t.kids.length:Int))=false:=by simpa using hlt
   obtain rfl:k=t.kids.length:=by omega
   (repeat' (first|with_reducible (first|refine zA fun Kn hK=>?_|refine zU ?_|refine Nx.go ?_|go_step)|with_reducible (first|refine zI ?_|refine zV ?_)|simp (maxSteps:=9^9) (disch:=omega) only [wq]|with_reducible refine zM (fun hb=>?_) (fun hb=>?_)<;>try simp only [hb]|with_reducible refine And.intro (by first|omega|(simp;done)|(simp;omega)) ?_|simp (maxSteps:=9^9) -implicitDefEqProofs only [go_sem,hb]))
   rw [List.take_length,hf.2.2.2.2,List.take_length] at hall
   rw [same_t (Tree.ext_iff.2 ⟨hf.1,hf.2.1,hf.2.2.1,hf.2.2.2.1,hall⟩)]
 clear hK
 (repeat' (first|with_reducible (first|refine zA fun Kn hK=>?_|refine zU ?_|refine Nx.go ?_|go_step)|(refine hL (by refine ⟨?_,?_,?_,?_,?_⟩<;>first|(simp_all;done)|(simp_all;omega)) _ ?_)|with_reducible (first|refine zI ?_|refine zV ?_)|simp (maxSteps:=9^9) (disch:=omega) only [wq]|with_reducible refine zM (fun hb=>?_) (fun hb=>?_)<;>try simp only [hb]|with_reducible refine And.intro (by first|omega|(simp;done)|(simp;omega)) ?_|simp (maxSteps:=9^9) -implicitDefEqProofs only [go_sem,true_and]))
 all_goals first|(simp;done)|(rw [same_f];rintro rfl;simp at hb)
noncomputable def sameL (l m:List Tree):Bool:= @decide (l=m) (Classical.propDecidable _)
theorem sameL_t {l m:List Tree} (h:l=m):sameL l m=true:=by
 unfold sameL
 exact @decide_eq_true _ (Classical.propDecidable _) h
theorem sameL_f {l m:List Tree} (h:l≠m):sameL l m=false:=by
 unfold sameL
 exact @decide_eq_false _ (Classical.propDecidable _) h
theorem eqfunc_m {G:Nat→Option (List D)} (l m:List Tree) (hl:l.length≤100000000)
  (ih: ∀ x∈l,∀ (u:Tree) (cs ds:List D),treeC x=cs→treeC u=ds→Spec Tryz.prog G 58 [.g cs,.g ds] (.one (.c (.v (.bool (x.same u)))))) :
  Spec Tryz.prog G 101 [.c (.sl l.length (l.flatMap treeC)),.c (.sl m.length (m.flatMap treeC)),.c (.v (.func (.func 58) #[] #[]))] (.one (.c (.v (.bool (sameL l m))))):=by
 refine spec_of Tryz.func101 rfl rfl rfl (by kernel_rfl) rfl fun K=>?_
 by_cases hn:l.length=m.length
 ·have d1:((l.length:Int)==(m.length:Int))=true:=by simp [hn]
  (repeat' (first|with_reducible (first|refine zA fun Kn hK=>?_|refine zU ?_|refine Nx.go ?_|go_step)|with_reducible (first|refine zI ?_|refine zV ?_)|simp (maxSteps:=9^9) (disch:=omega) only [wq]|with_reducible refine zM (fun hb=>?_) (fun hb=>?_)<;>try simp only [hb]|with_reducible refine And.intro (by first|omega|(simp;done)|(simp;omega)) ?_|simp (maxSteps:=9^9) -implicitDefEqProofs only [go_sem,d1]))
  refine sound_loopR (fun x:{k:Nat // k≤l.length∧l.take k=m.take k}=>⟨[(1,vD (.sl m.length (m.flatMap treeC))),(2,vD (.v (.func (.func 58) #[] #[]))),(15,vD (.sl l.length (l.flatMap treeC))),(16,vI l.length),(17,vI x.1)],[]⟩) (fun x=>l.length-x.1) ⟨0,by simp⟩ [] (by (iterate 2 ((try simp (maxSteps:=9^9) -implicitDefEqProofs only [go_sem,true_and]);(try simp (maxSteps:=9^9) (disch:=omega) only [wq])));try simp) (fun ⟨k,hk,hall⟩=>?_)
  by_cases hlt:k<l.length
  ·obtain ⟨x,hx⟩: ∃ x,l[k]?=some x:=⟨_,List.getElem?_eq_getElem hlt⟩
   obtain ⟨y,hy⟩: ∃ y,m[k]?=some y:=⟨_,List.getElem?_eq_getElem (by omega)⟩
   have hb:decide ((k:Int)<(l.length:Int))=true:=by simpa using hlt
   have hlm:k<m.length:=by omega
   (repeat' (first|with_reducible (first|refine zA fun Kn hK=>?_|refine zU ?_|refine Nx.go ?_|go_step)|(refine ⟨_,ih x (List.mem_of_getElem? hx) y _ _ rfl rfl,?_⟩)|with_reducible (first|refine zI ?_|refine zV ?_)|simp (maxSteps:=9^9) (disch:=omega) only [wq]|with_reducible refine zM (fun hb=>?_) (fun hb=>?_)<;>try simp only [hb]|with_reducible refine And.intro (by first|omega|(simp;done)|(simp;omega)) ?_|simp (maxSteps:=9^9) -implicitDefEqProofs only [go_sem,hb,flat_at treeC_len hx,flat_at treeC_len hy,List.length_map]))
   ·refine ⟨[],⟨k+1,hlt,?_⟩,?_⟩
    ·rw [List.take_add_one,List.take_add_one,hx,hy,hall,same_of hb]
    ·(iterate 2 ((try simp (maxSteps:=9^9) -implicitDefEqProofs only [go_sem,true_and]);(try simp (maxSteps:=9^9) (disch:=omega) only [wq])))
     try (simp only [ijq,true_and,and_true];first|done|omega|(split<;>omega)|(simp;done)|(simp;omega))
   ·rw [sameL_f]
    rintro rfl
    rw [hx] at hy
    injection hy with hy
    rw [same_t hy] at hb
    cases hb
  ·have hb:decide ((k:Int)<(l.length:Int))=false:=by simpa using hlt
   obtain rfl:k=l.length:=by omega
   rw [List.take_length,hn,List.take_length] at hall
   (repeat' (first|with_reducible (first|refine zA fun Kn hK=>?_|refine zU ?_|refine Nx.go ?_|go_step)|with_reducible (first|refine zI ?_|refine zV ?_)|simp (maxSteps:=9^9) (disch:=omega) only [wq]|with_reducible refine zM (fun hb=>?_) (fun hb=>?_)<;>try simp only [hb]|with_reducible refine And.intro (by first|omega|(simp;done)|(simp;omega)) ?_|simp (maxSteps:=9^9) -implicitDefEqProofs only [go_sem,hb]))
   rw [sameL_t hall]
 ·have d1:((l.length:Int)==(m.length:Int))=false:=by
   rw [beq_eq_false_iff_ne]
   omega
  (repeat' (first|with_reducible (first|refine zA fun Kn hK=>?_|refine zU ?_|refine Nx.go ?_|go_step)|with_reducible (first|refine zI ?_|refine zV ?_)|simp (maxSteps:=9^9) (disch:=omega) only [wq]|with_reducible refine zM (fun hb=>?_) (fun hb=>?_)<;>try simp only [hb]|with_reducible refine And.intro (by first|omega|(simp;done)|(simp;omega)) ?_|simp (maxSteps:=9^9) -implicitDefEqProofs only [go_sem,d1]))
  rw [sameL_f]
  rintro rfl
  exact hn rfl
theorem same_m {G:Nat→Option (List D)}: ∀ (t u:Tree) (cs ds:List D),treeC t=cs→treeC u=ds→t.wt≤30000000→Spec Tryz.prog G 58 [.g cs,.g ds] (.one (.c (.v (.bool (t.same u))))):=Tree.ind fun t ih u cs ds hcs hds hw=>by
 subst hcs hds
 refine spec_of Tryz.func58 rfl rfl rfl (by kernel_rfl) rfl fun K=>?_
 rw [treeC_eq t,treeC_eq u]
 have hlk:=t.wt_kids
 have he:t.same u=(t.list==u.list&&t.hinted==u.hinted&&t.hint==u.hint&&t.data==u.data&&sameL t.kids u.kids):=by
  rw [Bool.eq_iff_iff]
  simp only [Bool.and_eq_true,beq_iff_eq]
  refine ⟨fun h=>?_,fun ⟨⟨⟨⟨h1,h2⟩,h3⟩,h4⟩,h5⟩=>?_⟩
  ·cases same_of h
   exact ⟨⟨⟨⟨rfl,rfl⟩,rfl⟩,rfl⟩,sameL_t rfl⟩
  ·refine same_t (Tree.ext_iff.2 ⟨h1,h2,h3,h4,?_⟩)
   refine Classical.byContradiction fun hn=>?_
   rw [sameL_f hn] at h5
   cases h5
 (repeat' (first|with_reducible (first|refine zA fun Kn hK=>?_|refine zU ?_|refine Nx.go ?_|go_step)|refine ⟨_,equal_m t.hint u.hint,?_⟩|refine ⟨_,equal_m t.data u.data,?_⟩|(refine ⟨_,eqfunc_m t.kids u.kids (by omega) (fun x hx v cs ds h1 h2=>ih x hx v cs ds h1 h2 (by have:=Tree.wt_kid hx;omega)),?_⟩)|with_reducible (first|refine zI ?_|refine zV ?_)|simp (maxSteps:=9^9) (disch:=omega) only [wq]|with_reducible refine zM (fun hb=>?_) (fun hb=>?_)<;>try simp only [hb]|with_reducible refine And.intro (by first|omega|(simp;done)|(simp;omega)) ?_|simp (maxSteps:=9^9) -implicitDefEqProofs only [go_sem,true_and]))
 all_goals (rw [he];simp only [*];rfl)
end Go.Proofs.YtfammdfpgccnfaaGreatDoor
namespace Go.Proofs
open Go.Shelf
def Tryz.lays169_ren:Go.Shelf.Ren:=⟨fun|169=>158|n=>n,fun|70=>180|9=>9|0=>0|72=>182|37=>22|127=>204|3=>3|5=>5|n=>n,fun|n=>n⟩
theorem Tryz.lays169:Go.Proofs.Lays.n169 Tryz.prog Tryz.lays169_ren:={
 mixed:=by kernel_rfl
 f169:=Tryz.func158.trans (congrArg some (by kernel_rfl))
 t0:=Tryz.underlying0
 a0:=Tryz.isAgg0
 z0:=Tryz.sizeOf0
 v0:=Tryz.zeroValue0
 t3:=Tryz.underlying3
 a3:=Tryz.isAgg3
 z3:=Tryz.sizeOf3
 v3:=Tryz.zeroValue3
 t9:=Tryz.underlying9
 a9:=Tryz.isAgg9
 z9:=Tryz.sizeOf9
 v9:=Tryz.zeroValue9
 t37:=Tryz.underlying22
 a37:=Tryz.isAgg22
 z37:=Tryz.sizeOf22
 v37:=Tryz.zeroValue22
 t70:=Tryz.underlying180
 a70:=Tryz.isAgg180
 z70:=Tryz.sizeOf180
 v70:=Tryz.zeroValue180
 t72:=Tryz.underlying182
 a72:=Tryz.isAgg182
 z72:=Tryz.sizeOf182
 v72:=Tryz.zeroValue182
 t127:=Tryz.underlying204
 a127:=Tryz.isAgg204
 z127:=Tryz.sizeOf204
 v127:=Tryz.zeroValue204 }
theorem Tryz.Builder_Extra_169:Builder.Extra Tryz.prog Tryz.lays169_ren:={
 sizeBuilder:=by kernel_rfl
 liesBuilder:=by kernel_rfl
 t5:=Tryz.underlying5
 a5:=Tryz.isAgg5
 z5:=Tryz.sizeOf5
 v5:=Tryz.zeroValue5
 infoByte:=by kernel_rfl
 cellsByte:=by kernel_rfl
 sizeByte:=by kernel_rfl
 neB5:=by decide }
open Go.RowKit in
theorem Tryz.Builder_String_any (B b:Nat) (l:List UInt8) (w:World) (h:Lib.IsBuilder 182 5 B b (Lib.byteCells l) w) (hBw:B≤w.heap.size) :
  Calls Tryz.prog 158 #[.pointer (some ⟨b,0,none⟩)] w fun e w'=>e= .returned (.string ⟨l.toArray⟩)∧Below B w w':=Any.Builder_String_any Tryz.lays169 Tryz.Builder_Extra_169 B b l w h hBw
def Tryz.laysM171_ren:Go.Shelf.Ren:=⟨fun|171=>156|243=>175|246=>183|283=>187|284=>188|285=>189|286=>190|129=>199|317=>198|318=>200|319=>201|320=>202|337=>218|338=>219|n=>n,fun|3=>3|9=>9|2=>2|4=>4|171=>216|0=>0|53=>217|37=>22|5=>5|173=>220|212=>227|51=>228|20=>20|213=>229|46=>230|232=>256|233=>257|n=>n,fun|17=>0|18=>2|19=>3|n=>n⟩
theorem Tryz.laysM171:Go.Proofs.LaysM.n171 Tryz.prog Tryz.laysM171_ren:={
 mixed:=by kernel_rfl
 f129:=Tryz.func199.trans (congrArg some (by kernel_rfl))
 f171:=Tryz.func156.trans (congrArg some (by kernel_rfl))
 f243:=Tryz.func175.trans (congrArg some (by kernel_rfl))
 f246:=Tryz.func183.trans (congrArg some (by kernel_rfl))
 f283:=Tryz.func187.trans (congrArg some (by kernel_rfl))
 f284:=Tryz.func188.trans (congrArg some (by kernel_rfl))
 f285:=Tryz.func189.trans (congrArg some (by kernel_rfl))
 f286:=Tryz.func190.trans (congrArg some (by kernel_rfl))
 f317:=Tryz.func198.trans (congrArg some (by kernel_rfl))
 f318:=Tryz.func200.trans (congrArg some (by kernel_rfl))
 f319:=Tryz.func201.trans (congrArg some (by kernel_rfl))
 f320:=Tryz.func202.trans (congrArg some (by kernel_rfl))
 f337:=Tryz.func218.trans (congrArg some (by kernel_rfl))
 f338:=Tryz.func219.trans (congrArg some (by kernel_rfl))
 t0:=Tryz.underlying0
 a0:=Tryz.isAgg0
 z0:=Tryz.sizeOf0
 v0:=Tryz.zeroValue0
 t2:=Tryz.underlying2
 a2:=Tryz.isAgg2
 z2:=Tryz.sizeOf2
 v2:=Tryz.zeroValue2
 t3:=Tryz.underlying3
 a3:=Tryz.isAgg3
 z3:=Tryz.sizeOf3
 v3:=Tryz.zeroValue3
 t4:=Tryz.underlying4
 a4:=Tryz.isAgg4
 z4:=Tryz.sizeOf4
 v4:=Tryz.zeroValue4
 t5:=Tryz.underlying5
 a5:=Tryz.isAgg5
 z5:=Tryz.sizeOf5
 v5:=Tryz.zeroValue5
 t9:=Tryz.underlying9
 a9:=Tryz.isAgg9
 z9:=Tryz.sizeOf9
 v9:=Tryz.zeroValue9
 t20:=Tryz.underlying20
 a20:=Tryz.isAgg20
 z20:=Tryz.sizeOf20
 v20:=Tryz.zeroValue20
 t37:=Tryz.underlying22
 a37:=Tryz.isAgg22
 z37:=Tryz.sizeOf22
 v37:=Tryz.zeroValue22
 t46:=Tryz.underlying230
 a46:=Tryz.isAgg230
 z46:=Tryz.sizeOf230
 v46:=Tryz.zeroValue230
 t51:=Tryz.underlying228
 a51:=Tryz.isAgg228
 z51:=Tryz.sizeOf228
 v51:=Tryz.zeroValue228
 t53:=Tryz.underlying217
 a53:=Tryz.isAgg217
 z53:=Tryz.sizeOf217
 v53:=Tryz.zeroValue217
 t171:=Tryz.underlying216
 a171:=Tryz.isAgg216
 z171:=Tryz.sizeOf216
 v171:=Tryz.zeroValue216
 t173:=Tryz.underlying220
 a173:=Tryz.isAgg220
 z173:=Tryz.sizeOf220
 v173:=Tryz.zeroValue220
 t212:=Tryz.underlying227
 a212:=Tryz.isAgg227
 z212:=Tryz.sizeOf227
 v212:=Tryz.zeroValue227
 t213:=Tryz.underlying229
 a213:=Tryz.isAgg229
 z213:=Tryz.sizeOf229
 t232:=Tryz.underlying256
 a232:=Tryz.isAgg256
 z232:=Tryz.sizeOf256
 v232:=Tryz.zeroValue256
 t233:=Tryz.underlying257
 a233:=Tryz.isAgg257
 z233:=Tryz.sizeOf257
 v233:=Tryz.zeroValue257
 g17:=by kernel_rfl
 g18:=by kernel_rfl
 g19:=by kernel_rfl
 i0:=by kernel_rfl
 i2:=by kernel_rfl
 i3:=by kernel_rfl
 i4:=by kernel_rfl
 i5:=by kernel_rfl
 i9:=by kernel_rfl
 i20:=by kernel_rfl
 i37:=by kernel_rfl
 i46:=by kernel_rfl
 i51:=by kernel_rfl
 i53:=by kernel_rfl
 i171:=by kernel_rfl
 i173:=by kernel_rfl
 i212:=by kernel_rfl
 i232:=by kernel_rfl
 i233:=by kernel_rfl
 m17:=by kernel_rfl
 m18:=by kernel_rfl
 m19:=by kernel_rfl }
open Go.RowKit Go.Sort Go.Lib in
theorem Tryz.strconv_Itoa (n : Int) (h0 : -9223372036854775808 ≤ n) (h1 : n ≤ 9223372036854775807) (w : World) (htab : Lib.TabIs Tryz.prog w "internal/strconv.uint64pow10" .u64 Lib.pow10Tab) :
  Calls Tryz.prog 156 #[.int .i64 n] w fun e w'=>e= .returned (.string ⟨(Lib.itoa n).toArray⟩)∧ ∃ k os,w'=grow (w.drewN k) os:=Any.strconv_Itoa Tryz.laysM171 n h0 h1 w htab
end Go.Proofs
namespace Go.Proofs.YtfammdfpgccnfaaGreatDoor
open Go.RowKit
theorem dec_libM (n:Nat):Lib.decDigits n=dec n:=by
 induction n using Nat.strongRecOn with
 | _ n ih =>
  rw [Lib.decDigits,dec]
  split
  ·rfl
  ·rw [ih _ (by omega)]
theorem itoa_libM (n:Nat):Lib.itoa (n:Int)=dec n:=by
 rw [Lib.itoa,if_neg (by omega),← dec_libM]
 rfl
def powD:List D:=Lib.pow10Tab.map fun z=> .v (.int .u64 z)
theorem powG_ok : Tryz.prog.globalNamed "internal/strconv.uint64pow10" = some 0 := by kernel_rfl
theorem tab_is {w : World} {S : Nat → Prop} (h : Tab w S 0 powD) : Lib.TabIs Tryz.prog w "internal/strconv.uint64pow10" .u64 Lib.pow10Tab := by
 obtain ⟨h1,h2,arr,ty,fz,h3,h4⟩:=h
 unfold Lib.TabIs World.var?
 rw [powG_ok,Option.bind_some,h3]
 show some arr=_
 refine congrArg some (Array.ext ?_ ?_)
 ·rw [h4]
  simp [powD]
 ·intro i hi hj
  have hi':i<powD.length:=by omega
  generalize hp:Value.pointer (some ⟨0,0,none⟩)=u at h1
  cases h1 with
  | ptr off b o cs us hb hw hr =>
   injection hp with hp
   injection hp with hp
   injection hp with hp1 hp2
   subst hp1
   have ho:o=0:=by omega
   subst ho
   have g0:powD[i]?=some powD[i]:=List.getElem?_eq_getElem hi'
   have g1:=hw i _ g0
   have g2:=hr i _ g0
   have g3:powD[i]= .v (.int .u64 (Lib.pow10Tab[i]'(by simpa [powD] using hi'))):=by simp [powD]
   rw [g3] at g2
   generalize us i=q at g1 g2
   cases g2
   have hq:i<arr.size:=by rw [h4];exact hi'
   simp only [World.cell?,h3,Nat.zero_add,Array.getElem?_eq_getElem hq,Option.some.injEq] at g1
   simp
   injection g1
theorem itoa_m {G:Nat→Option (List D)} (hG:G 0=some powD) (n:Nat) (hn:n≤9223372036854775807):Spec Tryz.prog G 156 [.c (.v (.int .i64 n))] (.one (.c (.v (.string ⟨(dec n).toArray⟩)))):=by
 intro w S vs hS hT hA
 obtain ⟨hl,hc⟩:=hA
 match vs,hl with
 | [u],_ =>
  obtain rfl:u= .int .i64 n:=by
   have h:=hc 0 _ _ rfl rfl
   have h:RD w S (.v (.int .i64 n)) u:=h
   cases h
   rfl
  refine Calls.mono (Tryz.strconv_Itoa n (by omega) (by omega) w (tab_is (hT _ _ hG))) ?_
  rintro e w1 ⟨rfl,k,os,rfl⟩
  rw [itoa_libM]
  have hB:=Lib.below_grow w.heap.size w (Nat.le_refl _) k os
  exact ⟨⟨hB.os,hB.tape,hB.output,hB.size,fun k hk _=>hB.block k hk⟩,_,rfl,.v _ rfl⟩
theorem putlen_m {G:Nat→Option (List D)} (hG:G 0=some powD) (n:Nat) (hn:n≤9223372036854775807):Spec Tryz.prog G 130 [.c (.v (.int .i64 n))] (.one (.c (.v (.string ⟨(dec n).toArray⟩)))):=by
 refine spec_of Tryz.func130 rfl rfl rfl (by kernel_rfl) rfl fun K=>?_
 (repeat' (first|with_reducible (first|refine zA fun Kn hK=>?_|refine zU ?_|refine Nx.go ?_|go_step)|refine ⟨_,itoa_m hG n hn,?_⟩|with_reducible (first|refine zI ?_|refine zV ?_)|simp (maxSteps:=9^9) (disch:=omega) only [wq]|with_reducible refine zM (fun hb=>?_) (fun hb=>?_)<;>try simp only [hb]|with_reducible refine And.intro (by first|omega|(simp;done)|(simp;omega)) ?_|simp (maxSteps:=9^9) -implicitDefEqProofs only [go_sem,true_and]))
end Go.Proofs.YtfammdfpgccnfaaGreatDoor
namespace Go.Proofs.YtfammdfpgccnfaaGreatDoor
def okT (t:Tree) (n d:Nat):Bool:=t.clean&&decide (n+t.nodes≤512)&&decide (t.deep+d≤17)
theorem Tree.nodes_pos (t:Tree):1≤t.nodes:=by rw [Tree.nodes_eq];omega
theorem okT_many {t:Tree} {n d:Nat} (h:512<n+1):okT t n d=false:=by
 have:=t.nodes_pos
 simp [okT]
 intro _ _
 omega
theorem okT_unfair {t:Tree} {n d:Nat} (h:t.fair=false):okT t n d=false:=by simp [okT,Tree.clean_eq,h]
theorem okT_atom {t:Tree} {n d:Nat} (hl:t.list=false) (hf:t.fair=true) (hk:t.kids=[]) (hn:n+1≤512) (hd:d≤17):okT t n d=true:=by
 have h1:t.nodes=1:=by rw [Tree.nodes_eq,hk];rfl
 have h2:t.deep=0:=by rw [Tree.deep_eq,hl];rfl
 simp [okT,Tree.clean_eq,hf,hk,h1,h2]
 omega
theorem okT_deep {t:Tree} {n d:Nat} (hl:t.list=true) (h:16<d):okT t n d=false:=by
 have h1:1≤t.deep:=by rw [Tree.deep_eq,hl];simp
 simp [okT]
 intro _ _
 omega
def CInv (t:Tree) (n d k:Nat):Prop:=
 (t.kids.take k).all Tree.clean=true∧n+1+((t.kids.take k).map Tree.nodes).sum≤512∧ ∀ x∈t.kids.take k,x.deep+(d+1)≤17
theorem CInv.zero {t:Tree} {n d:Nat} (h:n+1≤512):CInv t n d 0:=⟨by simp,by simpa using h,by simp⟩
theorem okT_parts {x:Tree} {m d:Nat} (h:okT x m d=true):x.clean=true∧m+x.nodes≤512∧x.deep+d≤17:=by
 simp [okT] at h
 exact ⟨h.1.1,h.1.2,h.2⟩
theorem CInv.step {t x:Tree} {n d k:Nat} (h:CInv t n d k) (hx:t.kids[k]?=some x) (ho:okT x (n+1+((t.kids.take k).map Tree.nodes).sum) (d+1)=true):CInv t n d (k+1):=by
 obtain ⟨h1,h2,h3⟩:=h
 obtain ⟨o1,o2,o3⟩:=okT_parts ho
 refine ⟨by rw [List.take_add_one,hx,Option.toList_some,List.all_append,List.all_cons,List.all_nil,Bool.and_true,h1,o1];rfl,by rw [sum_at Tree.nodes hx];omega,fun y hy=>?_⟩
 rw [List.take_add_one,hx] at hy
 simp only [Option.toList_some,List.mem_append,List.mem_singleton] at hy
 rcases hy with hy|rfl
 ·exact h3 y hy
 ·exact o3
theorem CInv.done {t:Tree} {n d k:Nat} (h:CInv t n d k) (hk:t.kids.length≤k) (hl:t.list=true) (hf:t.fair=true) (hd:d≤16):okT t n d=true:=by
 obtain ⟨h1,h2,h3⟩:=h
 rw [List.take_of_length_le hk] at h1 h2 h3
 have e1:t.clean=true:=by rw [Tree.clean_eq,hf,h1];rfl
 have e2:n+t.nodes≤512:=by rw [Tree.nodes_eq];omega
 have e3:t.deep+d≤17:=by
  have:most (t.kids.map Tree.deep)≤16-d:=most_le.2 fun m hm=>by
   obtain ⟨x,hx,rfl⟩:=List.mem_map.1 hm
   have:=h3 x hx
   omega
  rw [Tree.deep_eq,hl]
  simp only [if_true]
  omega
 simp [okT,e1,e2,e3]
theorem okT_kid {t x:Tree} {n d k:Nat} (hl:t.list=true) (hx:t.kids[k]?=some x) (ho:okT x (n+1+((t.kids.take k).map Tree.nodes).sum) (d+1)=false):okT t n d=false:=by
 cases hq:okT t n d with
 | false=>rfl
 | true =>
  obtain ⟨o1,o2,o3⟩:=okT_parts hq
  have hm:=List.mem_of_getElem? hx
  have e1:x.clean=true:=by
   rw [Tree.clean_eq,Bool.and_eq_true,List.all_eq_true] at o1
   exact o1.2 x hm
  have e2:n+1+((t.kids.take k).map Tree.nodes).sum+x.nodes≤512:=by
   rw [Tree.nodes_eq] at o2
   have:=sum_upto (l:=t.kids) (k:=k+1) Tree.nodes
   rw [sum_at Tree.nodes hx] at this
   omega
  have e3:x.deep+(d+1)≤17:=by
   rw [Tree.deep_eq,hl] at o3
   simp only [if_true] at o3
   have:x.deep≤most (t.kids.map Tree.deep):=most_le.1 (Nat.le_refl _) _ (List.mem_map.2 ⟨x,hm,rfl⟩)
   omega
  rw [okT,e1,decide_eq_true e2,decide_eq_true e3] at ho
  cases ho
theorem form_list {t:Tree} (hl:t.list=true):t.form.length=2+(t.kids.map Tree.form).flatten.length:=by
 rw [Tree.form_eq,hl]
 simp only [if_true,List.length_append,List.length_singleton]
 omega
theorem form_atom {t:Tree} (hl:t.list=false):t.form.length=(if t.hinted then 2+(textB t.hint).length else 0)+(textB t.data).length:=by
 rw [Tree.form_eq,hl,Tree.atomF]
 simp only [Bool.false_eq_true,if_false,List.length_append]
 split<;>simp only [List.length_append,List.length_singleton,List.length_nil]<;>omega
def rightF (t:Tree) (n s d:Nat):Bool × Nat × Nat:=
 if 512<n+1 then (false,n+1,s)
 else if t.list then
  if (decide (16<d)||t.hinted||decide (0<t.hint.length+t.data.length)) then (false,n+1,s)
  else t.kids.attach.foldl (fun st x=>if st.1 then rightF x.1 st.2.1 st.2.2 (d+1) else st) (true,n+1,s+2)
 else (t.kids.length==0&&(t.hinted||t.hint.length==0),n+1,s+(if t.hinted then 2+(textB t.hint).length else 0)+(textB t.data).length)
termination_by SizeOf.sizeOf t
decreasing_by exact Tree.kid_lt x.2
def rightK (d:Nat) (st:Bool × Nat × Nat) (x:Tree):Bool × Nat × Nat:=if st.1 then rightF x st.2.1 st.2.2 (d+1) else st
theorem rightF_eq (t:Tree) (n s d:Nat):rightF t n s d=if 512<n+1 then (false,n+1,s)
 else if t.list then
  if (decide (16<d)||t.hinted||decide (0<t.hint.length+t.data.length)) then (false,n+1,s)
  else t.kids.foldl (rightK d) (true,n+1,s+2)
 else (t.kids.length==0&&(t.hinted||t.hint.length==0),n+1,s+(if t.hinted then 2+(textB t.hint).length else 0)+(textB t.data).length):=by
 rw [rightF]
 have:t.kids.attach.foldl (fun st x=>if st.1 then rightF x.1 st.2.1 st.2.2 (d+1) else st) (true,n+1,s+2)=t.kids.foldl (rightK d) (true,n+1,s+2):=by
  conv=>rhs;rw [← List.attach_map_subtype_val t.kids,List.foldl_map]
  rfl
 rw [this]
theorem foldl_at {α β:Type} {f:β→α→β} {l:List α} {k:Nat} {x:α} {b:β} (h:l[k]?=some x):(l.take (k+1)).foldl f b=f ((l.take k).foldl f b) x:=by
 rw [List.take_add_one,h]
 simp
structure RightOk (t:Tree) (n s d:Nat):Prop where
 cn:(rightF t n s d).2.1≤513
 cs:(rightF t n s d).2.2≤s+t.form.length
 ok:(rightF t n s d).1=okT t n d
 yes:(rightF t n s d).1=true→(rightF t n s d).2.1=n+t.nodes∧(rightF t n s d).2.2=s+t.form.length
theorem fair_list {t:Tree} {d:Nat} (hl:t.list=true):(decide (16<d)||t.hinted||decide (0<t.hint.length+t.data.length))=(decide (16<d)|| !t.fair):=by
 unfold Tree.fair
 rw [hl]
 simp only [if_true]
 rw [Bool.eq_iff_iff]
 have h9:(0<t.hint.length+t.data.length)↔ ¬ (t.hint.length=0∧t.data.length=0):=by omega
 cases t.hinted<;>simp only [h9]<;>by_cases h16:16<d<;>by_cases ha:t.hint.length=0<;>by_cases hb:t.data.length=0<;>simp [h16,ha,hb]
theorem rightF_kids {t:Tree} {n s d:Nat} (hl:t.list=true) (hn:n+1≤512) (hd:d≤16) (ih: ∀ x∈t.kids,∀ n s d,n≤512→d≤17→RightOk x n s d): ∀ k,k≤t.kids.length →
  let st:=(t.kids.take k).foldl (rightK d) (true,n+1,s+2)
  st.2.1≤513∧st.2.2≤s+2+((t.kids.take k).map fun x=>x.form.length).sum∧(st.1=true→CInv t n d k∧st.2.1=n+1+((t.kids.take k).map Tree.nodes).sum∧st.2.2=s+2+((t.kids.take k).map fun x=>x.form.length).sum)∧(st.1=false→okT t n d=false)
 | 0,_=>by
  refine ⟨by simp;omega,by simp,fun _=>⟨CInv.zero hn,by simp,by simp⟩,fun h=>by cases h⟩
 | k + 1,hk=>by
  obtain ⟨x,hx⟩: ∃ x,t.kids[k]?=some x:=⟨_,List.getElem?_eq_getElem hk⟩
  have h:=rightF_kids (n:=n) (s:=s) (d:=d) hl hn hd ih k (by omega)
  intro st
  have hst:st=rightK d ((t.kids.take k).foldl (rightK d) (true,n+1,s+2)) x:=foldl_at hx
  have hs:=sum_at (fun x:Tree=>x.form.length) hx
  have hs2:=sum_at Tree.nodes hx
  generalize (t.kids.take k).foldl (rightK d) (true,n+1,s+2)=st0 at h hst
  obtain ⟨h1,h2,h3,h4⟩:=h
  rw [hst]
  unfold rightK
  split
  ·rename_i hb
   obtain ⟨c1,c2,c3⟩:=h3 hb
   have hr:=ih x (List.mem_of_getElem? hx) st0.2.1 st0.2.2 (d+1) (by rw [c2];exact c1.2.1) (by omega)
   refine ⟨hr.cn,?_,fun hy=>?_,fun hf=>?_⟩
   ·rw [hs]
    have:=hr.cs
    omega
   ·obtain ⟨y1,y2⟩:=hr.yes hy
    refine ⟨c1.step hx ?_,by rw [y1,hs2];omega,by rw [y2,hs];omega⟩
    rw [← c2,← hr.ok]
    exact hy
   ·refine okT_kid hl hx ?_
    rw [← c2,← hr.ok]
    exact hf
  ·rename_i hb
   refine ⟨h1,?_,fun hy=>absurd hy hb,fun _=>h4 (by simpa using hb)⟩
   show st0.2.2≤_
   rw [hs]
   omega
theorem form_sum {t:Tree} (hl:t.list=true):t.form.length=2+(t.kids.map fun x=>x.form.length).sum:=by
 rw [form_list hl,List.length_flatten,List.map_map]
 rfl
theorem right_ok: ∀ (t:Tree) (n s d:Nat),n≤512→d≤17→RightOk t n s d:=Tree.ind fun t ih n s d hn hd=>by
 have he:=rightF_eq t n s d
 by_cases h1:512<n+1
 ·rw [if_pos h1] at he
  exact ⟨by rw [he];show n+1≤513;omega,by rw [he];exact Nat.le_add_right _ _,by rw [he,okT_many h1],fun h=>by rw [he] at h;cases h⟩
 rw [if_neg h1] at he
 cases hl:t.list with
 | true =>
  rw [hl,if_pos rfl,fair_list hl] at he
  by_cases h2:(decide (16<d)|| !t.fair)=true
  ·rw [if_pos h2] at he
   refine ⟨by rw [he];show n+1≤513;omega,by rw [he];exact Nat.le_add_right _ _,?_,fun h=>by rw [he] at h;cases h⟩
   rw [he]
   simp only [Bool.or_eq_true,decide_eq_true_eq,Bool.not_eq_true'] at h2
   rcases h2 with h2|h2
   ·rw [okT_deep hl h2]
   ·rw [okT_unfair h2]
  ·rw [if_neg h2] at he
   simp only [Bool.or_eq_true,decide_eq_true_eq,Bool.not_eq_true',not_or,Bool.not_eq_false] at h2
   have hk:=rightF_kids (n:=n) (s:=s) (d:=d) hl (by omega) (by omega) ih t.kids.length (Nat.le_refl _)
   simp only [List.take_length] at hk
   rw [← he] at hk
   obtain ⟨k1,k2,k3,k4⟩:=hk
   have hf:=form_sum hl
   refine ⟨k1,by omega,?_,fun hy=>?_⟩
   ·cases hb:(rightF t n s d).1 with
    | false=>rw [k4 hb]
    | true=>rw [(k3 hb).1.done (Nat.le_refl _) hl h2.2 (by omega)]
   ·obtain ⟨c1,c2,c3⟩:=k3 hy
    exact ⟨by rw [c2,Tree.nodes_eq];omega,by rw [c3,hf];omega⟩
 | false =>
  rw [hl,if_neg (by simp)] at he
  have hf:=form_atom hl
  have hfair:t.fair=(t.kids.length==0&&(t.hinted||t.hint.length==0)):=by rw [Tree.fair,hl];rfl
  rw [← hfair] at he
  refine ⟨by rw [he];show n+1≤513;omega,by rw [he];show s+_+_≤_;omega,?_,fun hy=>?_⟩
  ·rw [he]
   show t.fair=_
   cases hb:t.fair with
   | false=>rw [okT_unfair hb]
   | true =>
    have hb2:=hb
    rw [hfair,Bool.and_eq_true] at hb2
    rw [okT_atom hl hb (List.eq_nil_of_length_eq_zero (by simpa using hb2.1)) (by omega) hd]
  ·rw [he] at hy
   have hy:t.fair=true:=hy
   rw [hfair,Bool.and_eq_true] at hy
   have hk:t.kids=[]:=List.eq_nil_of_length_eq_zero (by simpa using hy.1)
   rw [he]
   exact ⟨by rw [Tree.nodes_eq,hk];rfl,by show s+_+_=_;omega⟩
theorem may_okT (t:Tree):t.may=(okT t 0 1&&decide (t.form.length≤4096)):=by
 rw [Tree.may,okT,Nat.zero_add]
 congr 2
 rw [decide_eq_decide]
 omega
theorem rightK_stop {d:Nat}: ∀ (l:List Tree) (st:Bool × Nat × Nat),st.1=false→l.foldl (rightK d) st=st
 | [],_,_=>rfl
 | x::l,st,h=>by
  have:rightK d st x=st:=by simp [rightK,h]
  rw [List.foldl_cons,this,rightK_stop l st h]
theorem rightK_end {d k:Nat} {l:List Tree} {st0:Bool × Nat × Nat} (h:((l.take k).foldl (rightK d) st0).1=false):l.foldl (rightK d) st0=(l.take k).foldl (rightK d) st0:=by
 conv=>lhs;rw [← List.take_append_drop k l,List.foldl_append]
 exact rightK_stop _ _ h
end Go.Proofs.YtfammdfpgccnfaaGreatDoor
namespace Go.Proofs.YtfammdfpgccnfaaGreatDoor
open Go.RowKit
@[go_sem] def cntO (n s:Int):AObj:=⟨119,[.d (.v (.int .i64 n)),.d (.v (.int .i64 s))],true,false⟩
theorem cbytes_m {G:Nat→Option (List D)} (hG:G 0=some powD) (b:List UInt8) (n s:Int) (hb:b.length≤30000000) (h0:0≤s) (hs:s≤1000000000000) :
  SpecO Tryz.prog G 116 [.c (.ptr 0 0),.c (.d (bytesD b))] [(0,cntO n s)] (.ret (.tup []) [(0,some (cntO n (s+(textB b).length)))]):=by
 have hl:=textB_len (b:=b) (n:=30000000) hb (by omega)
 have he:(textB b).length=(dec b.length).length+1+b.length:=by simp [textB];omega
 refine specO_go Tryz.func116 rfl rfl rfl (by kernel_rfl) (by (iterate 2 ((try simp (maxSteps:=9^9) -implicitDefEqProofs only [go_sem,true_and]);(try simp (maxSteps:=9^9) (disch:=omega) only [wq])))) (by (iterate 2 ((try simp (maxSteps:=9^9) -implicitDefEqProofs only [go_sem,List.all_cons,List.all_nil]);(try simp (maxSteps:=9^9) (disch:=omega) only [wq])))) fun K m=>?_
 (repeat' (first|with_reducible (first|refine zA fun Kn hK=>?_|refine zU ?_|refine Nx.go ?_|go_step)|(refine ⟨_,putlen_m hG b.length (by omega),?_⟩)|refine raw_f ?_|with_reducible (first|refine zI ?_|refine zK ?_ ?_|refine zL ?_ ?_|refine zV ?_)|simp (maxSteps:=9^9) (disch:=omega) only [wq]|with_reducible refine zM (fun hb=>?_) (fun hb=>?_)<;>try simp only [hb]|with_reducible refine And.intro (by first|omega|(simp;done)|(simp;omega)) ?_|simp (maxSteps:=9^9) -implicitDefEqProofs only [go_sem,str_size]))
 (simp only [Option.some.injEq,AObj.mk.injEq,List.cons.injEq,SV.a.injEq,AV.c.injEq,C.d.injEq,D.v.injEq,Value.int.injEq,true_and,and_true];first|done|omega|(simp;done)|(simp;omega))
theorem right_m {G:Nat→Option (List D)} (hG:G 0=some powD): ∀ (t:Tree) (cs:List D) (n s d:Nat),treeC t=cs→t.wt≤30000000→n≤512→d≤17→s+t.form.length≤1000000000 →
  SpecO Tryz.prog G 88 [.c (.ptr 0 0),(DV.g cs).av,.c (.d (.v (.int .i64 d)))] [(0,cntO n s)] (.ret (vB (rightF t n s d).1) [(0,some (cntO (rightF t n s d).2.1 (rightF t n s d).2.2))]):=Tree.ind fun t ih cs n s d hcs hw hn hd hs=>by
 subst hcs
 rw [treeC_eq]
 refine specO_go Tryz.func88 rfl rfl rfl (by kernel_rfl) (by (iterate 2 ((try simp (maxSteps:=9^9) -implicitDefEqProofs only [go_sem,true_and]);(try simp (maxSteps:=9^9) (disch:=omega) only [wq])))) (by (iterate 2 ((try simp (maxSteps:=9^9) -implicitDefEqProofs only [go_sem,List.all_cons,List.all_nil]);(try simp (maxSteps:=9^9) (disch:=omega) only [wq])))) fun K m=>?_
 have hlh:=t.wt_hint
 have hld:=t.wt_data
 have hlk:=t.wt_kids
 have hth:=textB_len (b:=t.hint) (n:=30000000) (by omega) (by omega)
 have he:=rightF_eq t n s d
 by_cases h1:512<n+1
 ·rw [if_pos h1] at he
  rw [he]
  have d1:decide ((512:Int)<(n:Int)+1)=true:=decide_eq_true (by omega)
  (repeat' (first|with_reducible (first|refine zA fun Kn hK=>?_|refine zU ?_|refine Nx.go ?_|go_step)|refine raw_f ?_|with_reducible (first|refine zI ?_|refine zK ?_ ?_|refine zL ?_ ?_|refine zV ?_)|simp (maxSteps:=9^9) (disch:=omega) only [wq]|with_reducible refine zM (fun hb=>?_) (fun hb=>?_)<;>try simp only [hb]|with_reducible refine And.intro (by first|omega|(simp;done)|(simp;omega)) ?_|simp (maxSteps:=9^9) -implicitDefEqProofs only [go_sem,d1,gt_iff_lt]))
  (simp only [Option.some.injEq,AObj.mk.injEq,List.cons.injEq,SV.a.injEq,AV.c.injEq,C.d.injEq,D.v.injEq,Value.int.injEq,true_and,and_true];first|done|omega|(simp;done)|(simp;omega))
 have d1:decide ((512:Int)<(n:Int)+1)=false:=decide_eq_false (by omega)
 rw [if_neg h1] at he
 cases hl:t.list with
 | false =>
  rw [hl,if_neg (by simp)] at he
  rw [he]
  have hf:=form_atom hl
  cases hh:t.hinted with
  | false =>
   rw [hh] at hf
   (repeat' (first|with_reducible (first|refine zA fun Kn hK=>?_|refine zU ?_|refine Nx.go ?_|go_step)|refine ⟨some [0],?_⟩|(refine ⟨_,cbytes_m hG t.data _ _ (by omega) (by omega) (by omega),?_⟩)|refine raw_f ?_|with_reducible (first|refine zI ?_|refine zK ?_ ?_|refine zL ?_ ?_|refine zV ?_)|simp (maxSteps:=9^9) (disch:=omega) only [wq]|with_reducible refine zM (fun hb=>?_) (fun hb=>?_)<;>try simp only [hb]|with_reducible refine And.intro (by first|omega|(simp;done)|(simp;omega)) ?_|simp (maxSteps:=9^9) -implicitDefEqProofs only [go_sem,d1,hl,hh,gt_iff_lt,int_beq0]))
   all_goals first|(simp only [Option.some.injEq,AObj.mk.injEq,List.cons.injEq,SV.a.injEq,AV.c.injEq,C.d.injEq,D.v.injEq,Value.int.injEq,true_and,and_true];first|done|omega|(simp;done)|(simp;omega))|rfl|(simp only [*];rfl)|(simp [*];done)
  | true =>
   rw [hh] at hf
   (repeat' (first|with_reducible (first|refine zA fun Kn hK=>?_|refine zU ?_|refine Nx.go ?_|go_step)|refine ⟨some [0],?_⟩|(refine ⟨_,cbytes_m hG t.hint _ _ (by omega) (by omega) (by omega),?_⟩)|(refine ⟨_,cbytes_m hG t.data _ _ (by omega) (by omega) (by omega),?_⟩)|refine raw_f ?_|with_reducible (first|refine zI ?_|refine zK ?_ ?_|refine zL ?_ ?_|refine zV ?_)|simp (maxSteps:=9^9) (disch:=omega) only [wq]|with_reducible refine zM (fun hb=>?_) (fun hb=>?_)<;>try simp only [hb]|with_reducible refine And.intro (by first|omega|(simp;done)|(simp;omega)) ?_|simp (maxSteps:=9^9) -implicitDefEqProofs only [go_sem,d1,hl,hh,gt_iff_lt,int_beq0]))
   all_goals first|(simp only [Option.some.injEq,AObj.mk.injEq,List.cons.injEq,SV.a.injEq,AV.c.injEq,C.d.injEq,D.v.injEq,Value.int.injEq,true_and,and_true];first|done|omega|(simp;done)|(simp;omega))|rfl|(simp only [*];rfl)|(simp [*];done)
 | true =>
  rw [hl,if_pos rfl] at he
  have hfs:=form_sum hl
  by_cases h2:(decide (16<d)||t.hinted||decide (0<t.hint.length+t.data.length))=true
  ·rw [if_pos h2] at he
   rw [he]
   have e1:decide ((16:Int)<(d:Int))=decide (16<d):=by rw [decide_eq_decide];omega
   have e2:decide ((0:Int)<(t.hint.length:Int)+(t.data.length:Int))=decide (0<t.hint.length+t.data.length):=by rw [decide_eq_decide];omega
   refine zA fun Kn hK=>?_
   (repeat' (first|with_reducible (first|refine zA fun Kn hK=>?_|refine zU ?_|refine Nx.go ?_|go_step)|refine raw_f ?_|with_reducible (first|refine zI ?_|refine zK ?_ ?_|refine zL ?_ ?_|refine zV ?_)|simp (maxSteps:=9^9) (disch:=omega) only [wq]|with_reducible refine zM (fun hb=>?_) (fun hb=>?_)<;>try simp only [hb]|with_reducible refine And.intro (by first|omega|(simp;done)|(simp;omega)) ?_|simp (maxSteps:=9^9) -implicitDefEqProofs only [go_sem,d1,hl,gt_iff_lt,e1,e2]))
   all_goals first|(simp only [Option.some.injEq,AObj.mk.injEq,List.cons.injEq,SV.a.injEq,AV.c.injEq,C.d.injEq,D.v.injEq,Value.int.injEq,true_and,and_true];first|done|omega|(simp;done)|(simp;omega))|rfl|(exfalso;revert h2;simp only [*];simp;done)
  ·rw [if_neg h2] at he
   simp only [Bool.or_eq_true,decide_eq_true_eq,not_or,Bool.not_eq_true] at h2
   obtain ⟨⟨h3,h4⟩,h5⟩:=h2
   have e1:decide ((16:Int)<(d:Int))=false:=decide_eq_false (by omega)
   have e2:decide ((0:Int)<(t.hint.length:Int)+(t.data.length:Int))=false:=decide_eq_false (by omega)
   have hr:=rightF_kids (n:=n) (s:=s) (d:=d) hl (by omega) (by omega) (fun x hx n s d=>right_ok x n s d)
   (repeat' (first|with_reducible (first|refine zA fun Kn hK=>?_|refine zU ?_|refine Nx.go ?_|go_step)|refine raw_f ?_|with_reducible (first|refine zI ?_|refine zK ?_ ?_|refine zL ?_ ?_|refine zV ?_)|simp (maxSteps:=9^9) (disch:=omega) only [wq]|with_reducible refine zM (fun hb=>?_) (fun hb=>?_)<;>try simp only [hb]|with_reducible refine And.intro (by first|omega|(simp;done)|(simp;omega)) ?_|simp (maxSteps:=9^9) -implicitDefEqProofs only [go_sem,d1,hl,h4,gt_iff_lt,e1,e2]))
   refine sound_loopR (fun x:{k:Nat // k≤t.kids.length∧((t.kids.take k).foldl (rightK d) (true,n+1,s+2)).1=true}=>⟨[(0,vP 0 0),(2,vI d),(79,vD (.sl t.kids.length (t.kids.flatMap treeC))),(80,vI t.kids.length),(81,vI x.1)],
    [(0,some (cntO ((t.kids.take x.1).foldl (rightK d) (true,n+1,s+2)).2.1 ((t.kids.take x.1).foldl (rightK d) (true,n+1,s+2)).2.2))]⟩) (fun x=>t.kids.length-x.1) ⟨0,by simp⟩ [] (by (iterate 2 ((try simp (maxSteps:=9^9) -implicitDefEqProofs only [go_sem,hl]);(try simp (maxSteps:=9^9) (disch:=omega) only [wq])));try (simp only [Option.some.injEq,AObj.mk.injEq,List.cons.injEq,SV.a.injEq,AV.c.injEq,C.d.injEq,D.v.injEq,Value.int.injEq,true_and,and_true];first|done|omega|(simp;done)|(simp;omega))) (fun ⟨k,hk,hall⟩=>?_)
   obtain ⟨b1,b2,b3,_⟩:=hr k hk
   obtain ⟨b3,b4,b5⟩:=b3 hall
   have b6:=b3.2.1
   have b7:=sum_upto (l:=t.kids) (k:=k) fun x:Tree=>x.form.length
   by_cases hlt:k<t.kids.length
   ·obtain ⟨x,hx⟩: ∃ x,t.kids[k]?=some x:=⟨_,List.getElem?_eq_getElem hlt⟩
    have hb:decide ((k:Int)<(t.kids.length:Int))=true:=by simpa using hlt
    have hm:=List.mem_of_getElem? hx
    have b8:=sum_at (fun x:Tree=>x.form.length) hx
    have b9:=sum_upto (l:=t.kids) (k:=k+1) fun x:Tree=>x.form.length
    have hst:=foldl_at (f:=rightK d) (b:=(true,n+1,s+2)) hx
    have hend:=rightK_end (d:=d) (k:=k+1) (l:=t.kids) (st0:=(true,n+1,s+2))
    rw [hst] at hend
    rw [rightK,if_pos hall] at hst hend
    (repeat' (first|with_reducible (first|refine zA fun Kn hK=>?_|refine zU ?_|refine Nx.go ?_|go_step)|refine ⟨some [0],?_⟩|(refine ⟨_,ih x hm _ _ _ (d+1) rfl (by have:=Tree.wt_kid hm;omega) (by omega) (by omega) (by omega),?_⟩)|refine raw_f ?_|with_reducible (first|refine zI ?_|refine zK ?_ ?_|refine zL ?_ ?_|refine zV ?_)|simp (maxSteps:=9^9) (disch:=omega) only [wq]|with_reducible refine zM (fun hb=>?_) (fun hb=>?_)<;>try simp only [hb]|with_reducible refine And.intro (by first|omega|(simp;done)|(simp;omega)) ?_|simp (maxSteps:=9^9) -implicitDefEqProofs only [go_sem,hb,flat_at treeC_len hx,List.length_map,treeC_len]))
    ·refine ⟨[],⟨k+1,hlt,by rw [hst];assumption⟩,?_⟩
     (iterate 2 ((try simp (maxSteps:=9^9) -implicitDefEqProofs only [go_sem,hst]);(try simp (maxSteps:=9^9) (disch:=omega) only [wq])))
     try (simp only [ijq,true_and,and_true];first|done|omega|(split<;>omega)|(simp;done)|(simp;omega))
    all_goals
     rw [he,hend (by assumption)]
     try rw [hb]
   ·have hb:decide ((k:Int)<(t.kids.length:Int))=false:=by simpa using hlt
    obtain rfl:k=t.kids.length:=by omega
    rw [List.take_length] at hall
    (repeat' (first|with_reducible (first|refine zA fun Kn hK=>?_|refine zU ?_|refine Nx.go ?_|go_step)|refine raw_f ?_|with_reducible (first|refine zI ?_|refine zK ?_ ?_|refine zL ?_ ?_|refine zV ?_)|simp (maxSteps:=9^9) (disch:=omega) only [wq]|with_reducible refine zM (fun hb=>?_) (fun hb=>?_)<;>try simp only [hb]|with_reducible refine And.intro (by first|omega|(simp;done)|(simp;omega)) ?_|simp (maxSteps:=9^9) -implicitDefEqProofs only [go_sem,hb,hall,List.take_length]))
    all_goals (rw [he];try rw [hall])
theorem sxmay_m {G:Nat→Option (List D)} (hG:G 0=some powD) (t:Tree) {cs:List D} (hcs:treeC t=cs) (hw:t.wt≤30000000):Spec Tryz.prog G 46 [.g cs] (.one (.c (.v (.bool t.may)))):=by
 have hf:=Tree.form_wt t hw
 have hr:=right_ok t 0 0 1 (by omega) (by omega)
 have hm:=may_okT t
 have h1:=right_m hG t cs 0 0 1 hcs hw (by omega) (by omega) (by omega)
 subst hcs
 rw [hr.ok] at h1
 have hy:=hr.yes
 rw [hr.ok,Nat.zero_add,Nat.zero_add] at hy
 have e1:okT t 0 1=true→decide (((rightF t 0 0 1).2.2:Int)≤4096)=decide (t.form.length≤4096):=fun h=>by
  rw [decide_eq_decide,(hy h).2]
  omega
 rw [treeC_eq] at h1 ⊢
 refine spec_of Tryz.func46 rfl rfl rfl (by kernel_rfl) rfl fun K=>?_
 cases hb:okT t 0 1 with
 | true =>
  rw [hb] at h1
  have e1:=e1 hb
  (repeat' (first|with_reducible (first|refine zA fun Kn hK=>?_|refine zU ?_|refine Nx.go ?_|go_step)|refine ⟨some [0],?_⟩|refine ⟨_,h1,?_⟩|with_reducible (first|refine zI ?_|refine zV ?_)|simp (maxSteps:=9^9) (disch:=omega) only [wq]|with_reducible refine zM (fun hb=>?_) (fun hb=>?_)<;>try simp only [hb]|with_reducible refine And.intro (by first|omega|(simp;done)|(simp;omega)) ?_|simp (maxSteps:=9^9) -implicitDefEqProofs only [go_sem,e1]))
  rw [hm,hb]
  rfl
 | false =>
  rw [hb] at h1
  (repeat' (first|with_reducible (first|refine zA fun Kn hK=>?_|refine zU ?_|refine Nx.go ?_|go_step)|refine ⟨some [0],?_⟩|refine ⟨_,h1,?_⟩|with_reducible (first|refine zI ?_|refine zV ?_)|simp (maxSteps:=9^9) (disch:=omega) only [wq]|with_reducible refine zM (fun hb=>?_) (fun hb=>?_)<;>try simp only [hb]|with_reducible refine And.intro (by first|omega|(simp;done)|(simp;omega)) ?_|simp (maxSteps:=9^9) -implicitDefEqProofs only [go_sem,true_and]))
  rw [hm,hb]
  rfl
theorem ptr_cells {cs:List D} {off:Nat} {x:Tree} (h:(cs.drop off).take 5=treeC x):cs[off]?=some (.v (.bool x.list))∧cs[off+1]?=some (.v (.bool x.hinted))∧cs[off+2]?=some (bytesD x.hint)∧cs[off+3]?=some (bytesD x.data)∧cs[off+4]?=some (.sl x.kids.length (x.kids.flatMap treeC)):=by
 rw [treeC_eq] at h
 have key: ∀ i,i<5→cs[off+i]?=((cs.drop off).take 5)[i]?:=fun i hi=>by rw [List.getElem?_take,if_pos hi,List.getElem?_drop]
 refine ⟨?_,?_,?_,?_,?_⟩
 ·have:=key 0 (by omega)
  rw [Nat.add_zero,h] at this
  exact this
 all_goals (rw [key _ (by omega),h];rfl)
end Go.Proofs.YtfammdfpgccnfaaGreatDoor
namespace Go.Proofs.YtfammdfpgccnfaaGreatDoor
def keyMay (s:Bool) (d:List UInt8):Bool:=if s then d.length==64 else d.length==32
def tHash:List UInt8:=[104,97,115,104]
def tSha:List UInt8:=[115,104,97,53,49,50]
def tPub:List UInt8:=[112,117,98,108,105,99,45,107,101,121]
def tEd:List UInt8:=[101,100,50,53,53,49,57]
def keyV (s:Bool) (d:List UInt8):Tree:=if s then listT [atomT tHash,atomT tSha,atomT d] else listT [atomT tPub,listT [atomT tEd,atomT d]]
def zeroT:Tree:= .mk false false [] [] []
def keyOut (s:Bool) (d:List UInt8):Tree:=if keyMay s d then keyV s d else zeroT
def keyErr (s:Bool) (d:List UInt8):Int:=if keyMay s d then 0 else 7
def Tree.kid (t:Tree) (i:Nat):Tree:=t.kids.getD i zeroT
theorem Tree.kid_at {t x:Tree} {i:Nat} (h:t.kids[i]?=some x):t.kid i=x:=by simp [Tree.kid,h]
def plainB (t:Tree) (n:Nat):Bool:= !t.list&& !t.hinted&&t.data.length==n
def rgetK (v:Tree):Option (Bool × List UInt8):=
 if headB v tHash&&v.kids.length==3&&isB (v.kid 1) tSha&&plainB (v.kid 2) 64 then some (true,(v.kid 2).data)
 else if headB v tPub&&v.kids.length==2&&headB (v.kid 1) tEd&&(v.kid 1).kids.length==2&&plainB ((v.kid 1).kid 1) 32 then some (false,((v.kid 1).kid 1).data) else none
def candK (v:Tree):Option (Bool × List UInt8):=
 if v.kids.length==3 then some (true,(v.kid 2).data) else if v.kids.length==2&&(v.kid 1).kids.length==2 then some (false,((v.kid 1).kid 1).data) else none
noncomputable def getK (v:Tree):Option (Bool × List UInt8):=
 match candK v with
 | some k=>if keyErr k.1 k.2==0&&v.same (keyOut k.1 k.2) then some k else none
 | none=>none
theorem same_iff {t u:Tree}:t.same u=true↔t=u:=⟨same_of,same_t⟩
theorem same_refl' (t:Tree):t.same t=true:=same_t rfl
theorem Tree.clean_parts {t:Tree} (h:t.clean=true):t.fair=true∧ ∀ x∈t.kids,x.clean=true:=by
 rw [Tree.clean_eq,Bool.and_eq_true,List.all_eq_true] at h
 exact h
theorem plainB_iff {t:Tree} {n:Nat} (h:t.fair=true):plainB t n=true↔t=atomT t.data∧t.data.length=n:=by
 constructor
 ·intro hi
  simp [plainB] at hi
  obtain ⟨⟨h1,h2⟩,h3⟩:=hi
  exact ⟨fair_atomT h h1 h2,h3⟩
 ·rintro ⟨h1,h2⟩
  rw [h1] at h2 ⊢
  simp [plainB,atomT,Tree.list,Tree.hinted,Tree.data] at h2 ⊢
  exact h2
theorem headB_iff {t:Tree} {s:List UInt8} (h:t.clean=true):headB t s=true↔ ∃ l,t=listT (atomT s::l):=by
 obtain ⟨hf,hk⟩:=Tree.clean_parts h
 constructor
 ·intro hi
  rw [headB,Bool.and_eq_true] at hi
  obtain ⟨h1,h2⟩:=hi
  have ht:=fair_listT hf h1
  cases hq:t.kids with
  | nil=>rw [hq] at h2;cases h2
  | cons x l =>
   rw [hq] at h2
   have hx:=(isB_iff (Tree.clean_parts (hk x (by rw [hq];simp))).1).1 h2
   exact ⟨l,by rw [ht,hq,hx]⟩
 ·rintro ⟨l,rfl⟩
  simp [headB,isB,listT,atomT,Tree.list,Tree.kids,Tree.hinted,Tree.data]
theorem Tree.kid_clean {t:Tree} (h:t.clean=true) {i:Nat} (hi:i<t.kids.length):(t.kid i).clean=true:=by
 have:t.kid i=t.kids[i]:=Tree.kid_at (List.getElem?_eq_getElem hi)
 rw [this]
 exact (Tree.clean_parts h).2 _ (List.getElem_mem hi)
theorem keyMay_err {s:Bool} {d:List UInt8}:(keyErr s d==0)=keyMay s d:=by
 rw [keyErr]
 cases keyMay s d<;>rfl
theorem candK_keyV (s:Bool) (d:List UInt8):candK (keyV s d)=some (s,d):=by
 cases s<;>rfl
theorem getK_iff {v:Tree} {s:Bool} {d:List UInt8}:getK v=some (s,d)↔keyMay s d=true∧v=keyV s d:=by
 unfold getK
 constructor
 ·intro h
  cases hc:candK v with
  | none=>rw [hc] at h;cases h
  | some k =>
   rw [hc] at h
   dsimp only at h
   split at h
   ·rename_i hq
    injection h with h
    subst h
    rw [Bool.and_eq_true,keyMay_err,same_iff] at hq
    obtain ⟨h1,h2⟩:=hq
    refine ⟨h1,?_⟩
    rw [h2,keyOut,h1]
    rfl
   ·cases h
 ·rintro ⟨h1,rfl⟩
  rw [candK_keyV]
  dsimp only
  rw [keyMay_err,h1,keyOut,h1]
  simp [same_refl']
theorem rgetK_iff {v:Tree} (hv:v.clean=true) {s:Bool} {d:List UInt8}:rgetK v=some (s,d)↔keyMay s d=true∧v=keyV s d:=by
 unfold rgetK
 constructor
 ·intro h
  split at h
  ·rename_i hq
   injection h with h
   injection h with h1 h2
   subst h1 h2
   simp only [Bool.and_eq_true,beq_iff_eq] at hq
   obtain ⟨⟨⟨a1,a2⟩,a3⟩,a4⟩:=hq
   obtain ⟨l,rfl⟩:=(headB_iff hv).1 a1
   have b1:=(isB_iff (Tree.clean_parts (Tree.kid_clean hv (i:=1) (by omega))).1).1 a3
   have b2:=(plainB_iff (Tree.clean_parts (Tree.kid_clean hv (i:=2) (by omega))).1).1 a4
   match l,a2,b1,b2 with
   | [x,y],_,b1,b2 =>
    have c1:x=atomT tSha:=b1
    have c2:y=atomT y.data∧y.data.length=64:=b2
    refine ⟨?_,?_⟩
    ·show (if true=true then y.data.length==64 else _)=true
     rw [if_pos rfl,c2.2]
     rfl
    ·show listT [atomT tHash,x,y]=listT [atomT tHash,atomT tSha,atomT y.data]
     rw [c1,← c2.1]
  ·split at h
   ·rename_i hq
    injection h with h
    injection h with h1 h2
    subst h1 h2
    simp only [Bool.and_eq_true,beq_iff_eq] at hq
    obtain ⟨⟨⟨⟨a1,a2⟩,a3⟩,a4⟩,a5⟩:=hq
    obtain ⟨l,rfl⟩:=(headB_iff hv).1 a1
    have hk:=Tree.kid_clean hv (i:=1) (by omega)
    obtain ⟨m,hm⟩:=(headB_iff hk).1 a3
    rw [hm] at a4 a5 hk
    have b2:=(plainB_iff (Tree.clean_parts (Tree.kid_clean hk (i:=1) (by omega))).1).1 a5
    match l,a2,m,a4,hm,b2 with
    | [x],_,[y],_,hm,b2 =>
     have c1:x=listT [atomT tEd,y]:=hm
     have c2:y=atomT y.data∧y.data.length=32:=b2
     have e:(Tree.kid (Tree.kid (listT [atomT tPub,x]) 1) 1).data=y.data:=by
      show (x.kid 1).data=_
      rw [c1]
      rfl
     rw [e]
     refine ⟨?_,?_⟩
     ·show (if false=true then _ else y.data.length==32)=true
      rw [if_neg (by simp),c2.2]
      rfl
     ·show listT [atomT tPub,x]=listT [atomT tPub,listT [atomT tEd,atomT y.data]]
      rw [c1,← c2.1]
   ·cases h
 ·rintro ⟨h1,rfl⟩
  cases s
  ·have h2:d.length=32:=by simpa [keyMay] using h1
   have e1:headB (keyV false d) tHash=false:=by simp [keyV,headB,isB,listT,atomT,Tree.list,Tree.kids,Tree.hinted,Tree.data,tPub,tHash]
   have e2:headB (keyV false d) tPub=true:=by simp [keyV,headB,isB,listT,atomT,Tree.list,Tree.kids,Tree.hinted,Tree.data]
   have e3:headB ((keyV false d).kid 1) tEd=true:=by simp [keyV,Tree.kid,headB,isB,listT,atomT,Tree.list,Tree.kids,Tree.hinted,Tree.data]
   have e4:plainB (((keyV false d).kid 1).kid 1) 32=true:=by simp [keyV,Tree.kid,plainB,listT,atomT,Tree.list,Tree.kids,Tree.hinted,Tree.data,h2]
   rw [e1,e2,e3,e4]
   rfl
  ·have h2:d.length=64:=by simpa [keyMay] using h1
   have e1:headB (keyV true d) tHash=true:=by simp [keyV,headB,isB,listT,atomT,Tree.list,Tree.kids,Tree.hinted,Tree.data]
   have e3:isB ((keyV true d).kid 1) tSha=true:=by simp [keyV,Tree.kid,isB,listT,atomT,Tree.list,Tree.kids,Tree.hinted,Tree.data]
   have e4:plainB ((keyV true d).kid 2) 64=true:=by simp [keyV,Tree.kid,plainB,listT,atomT,Tree.list,Tree.kids,Tree.hinted,Tree.data,h2]
   rw [e1,e3,e4]
   rfl
end Go.Proofs.YtfammdfpgccnfaaGreatDoor
namespace Go.Proofs.YtfammdfpgccnfaaGreatDoor
open Go.RowKit
structure Bd where
 is:Bool
 opn:Bool
 txt:List UInt8
deriving DecidableEq
inductive Tg where
 | mk (kind:UInt8) (data:List UInt8) (kids:List Tg) (ord:UInt8) (lo hi:Bd)
def Tg.kind:Tg→UInt8| .mk k _ _ _ _ _=>k
def Tg.data:Tg→List UInt8| .mk _ d _ _ _ _=>d
def Tg.kids:Tg→List Tg| .mk _ _ k _ _ _=>k
def Tg.ord:Tg→UInt8| .mk _ _ _ o _ _=>o
def Tg.lo:Tg→Bd| .mk _ _ _ _ b _=>b
def Tg.hi:Tg→Bd| .mk _ _ _ _ _ b=>b
theorem Tg.kid_lt {t x:Tg} (h:x∈t.kids):SizeOf.sizeOf x<SizeOf.sizeOf t:=by
 cases t
 have:=List.sizeOf_lt_of_mem h
 simp only [Tg.kids] at this
 simp only [Tg.mk.sizeOf_spec]
 omega
theorem Tg.ind {P:Tg→Prop} (h: ∀ t,(∀ x∈t.kids,P x)→P t) (t:Tg):P t:=
 h t fun x hx=>Tg.ind h x
termination_by SizeOf.sizeOf t
decreasing_by exact Tg.kid_lt hx
def u8V (x:UInt8):Value:= .int .u8 (x.toNat:Int)
def Tg.rd (w:World) (S:Nat→Prop) (cs:List Value) (t:Tg):Prop:=
 ∃ A1 n1 c1 A2 n2 c2 A3 n3 c3 A4 n4 c4,cs=[u8V t.kind,.slice A1 n1 c1,.slice A2 n2 c2,u8V t.ord,.bool t.lo.is,.bool t.lo.opn,.slice A3 n3 c3,.bool t.hi.is,.bool t.hi.opn,.slice A4 n4 c4]∧Rep.u8.sl w S A1 n1 c1 t.data∧Rep.u8.sl w S A3 n3 c3 t.lo.txt∧Rep.u8.sl w S A4 n4 c4 t.hi.txt ∧
  t.kids.length=n2∧n2≤c2∧c2≤9223372036854775807∧(0<n2→ ∃ b o,A2=some ⟨b,o,none⟩∧S b ∧
   ∀ i x,(hx:t.kids[i]?=some x)→ ∃ es,Tg.rd w S es x∧ ∀ j u,es[j]?=some u→w.cell? ⟨b,o+i*10+j,none⟩=some u)
termination_by SizeOf.sizeOf t
decreasing_by exact Tg.kid_lt (List.mem_of_getElem? hx)
theorem Tg.rd_len {w:World} {S:Nat→Prop} {cs:List Value} {t:Tg} (h:Tg.rd w S cs t):cs.length=10:=by
 rw [Tg.rd] at h
 obtain ⟨_,_,_,_,_,_,_,_,_,_,_,_,rfl,_⟩:=h
 rfl
theorem Tg.rd_keep {w w':World} {S:Nat→Prop} (hk: ∀ p:Addr,S p.block→w'.cell? p=w.cell? p): ∀ (t:Tg) {cs:List Value},Tg.rd w S cs t→Tg.rd w' S cs t:=by
 refine Tg.ind fun t ih cs h=>?_
 rw [Tg.rd] at h ⊢
 obtain ⟨A1,n1,c1,A2,n2,c2,A3,n3,c3,A4,n4,c4,rfl,h1,h2,h7,h3,h4,h5,h6⟩:=h
 refine ⟨A1,n1,c1,A2,n2,c2,A3,n3,c3,A4,n4,c4,rfl,Rep.sl_keep h1 hk,Rep.sl_keep h2 hk,Rep.sl_keep h7 hk,h3,h4,h5,fun hn=>?_⟩
 obtain ⟨b,o,rfl,hb,hr⟩:=h6 hn
 refine ⟨b,o,rfl,hb,fun i x hx=>?_⟩
 obtain ⟨es,he,hc⟩:=hr i x hx
 exact ⟨es,ih x (List.mem_of_getElem? hx) he,fun j u hu=>by rw [hk _ hb];exact hc j u hu⟩
theorem Tg.rd_more {w:World} {S S':Nat→Prop} (hS: ∀ b,S b→S' b): ∀ (t:Tg) {cs:List Value},Tg.rd w S cs t→Tg.rd w S' cs t:=by
 refine Tg.ind fun t ih cs h=>?_
 rw [Tg.rd] at h ⊢
 obtain ⟨A1,n1,c1,A2,n2,c2,A3,n3,c3,A4,n4,c4,rfl,h1,h2,h7,h3,h4,h5,h6⟩:=h
 refine ⟨A1,n1,c1,A2,n2,c2,A3,n3,c3,A4,n4,c4,rfl,Rep.sl_more h1 hS,Rep.sl_more h2 hS,Rep.sl_more h7 hS,h3,h4,h5,fun hn=>?_⟩
 obtain ⟨b,o,rfl,hb,hr⟩:=h6 hn
 refine ⟨b,o,rfl,hS _ hb,fun i x hx=>?_⟩
 obtain ⟨es,he,hc⟩:=hr i x hx
 exact ⟨es,ih x (List.mem_of_getElem? hx) he,hc⟩
def Rep.tag:Rep Tg where
 size:=10
 pos:=by omega
 rd:=Tg.rd
 len:=Tg.rd_len
 keep:=fun h hk=>Tg.rd_keep hk _ h
 more:=fun h hS=>Tg.rd_more hS _ h
 one:=fun h u hu=>by
  rw [Tg.rd] at h
  obtain ⟨_,_,_,_,_,_,_,_,_,_,_,_,rfl,_⟩:=h
  simp only [List.mem_cons,List.not_mem_nil,or_false] at hu
  rcases hu with rfl|rfl|rfl|rfl|rfl|rfl|rfl|rfl|rfl|rfl<;>rfl
def Tg.wt (t:Tg):Nat:=1+t.data.length+t.lo.txt.length+t.hi.txt.length+(t.kids.attach.map fun x=>Tg.wt x.1).sum
termination_by SizeOf.sizeOf t
decreasing_by exact Tg.kid_lt x.2
theorem Tg.wt_eq (t:Tg):t.wt=1+t.data.length+t.lo.txt.length+t.hi.txt.length+(t.kids.map Tg.wt).sum:=by
 rw [Tg.wt]
 congr 2
 simp
theorem tsum_mem {l:List Tg} {x:Tg} (f:Tg→Nat) (h:x∈l):f x≤(l.map f).sum:=by
 induction l with
 | nil=>cases h
 | cons y l ih =>
  simp only [List.map_cons,List.sum_cons]
  rcases List.mem_cons.1 h with rfl|h
  ·omega
  ·have:=ih h;omega
theorem Tg.wt_kid {t x:Tg} (h:x∈t.kids):x.wt<t.wt:=by
 rw [Tg.wt_eq t]
 have:=tsum_mem Tg.wt h
 omega
theorem Tg.wt_kids (t:Tg):t.kids.length≤t.wt:=by
 rw [Tg.wt_eq t]
 have: ∀ l:List Tg,l.length≤(l.map Tg.wt).sum:=by
  intro l
  induction l with
  | nil=>simp
  | cons y l ih =>
   have:1≤y.wt:=by rw [Tg.wt_eq];omega
   simp only [List.map_cons,List.sum_cons,List.length_cons]
   omega
 have:=this t.kids
 omega
end Go.Proofs.YtfammdfpgccnfaaGreatDoor
namespace Go.Proofs.YtfammdfpgccnfaaGreatDoor
def wStar:List UInt8:=[42]
def wSet:List UInt8:=[115,101,116]
def wPrefix:List UInt8:=[112,114,101,102,105,120]
def wRange:List UInt8:=[114,97,110,103,101]
def wG:List UInt8:=[103]
def wL:List UInt8:=[108]
def ordW:List (List UInt8):=[[97,108,112,104,97],[110,117,109,101,114,105,99],[116,105,109,101],[98,105,110,97,114,121],[100,97,116,101]]
def ordN (o:UInt8):List UInt8:=(ordW[o.toNat-1]?).getD []
def Bd.none:Bd:=⟨false,false,[]⟩
def Tg.plain (t:Tg):Bool:=decide (t.ord=0)&&(decide (t.lo=Bd.none)&&decide (t.hi=Bd.none))
def emptyL {α:Type} (l:List α):Bool:=match l with
 | []=>true
 | _=>false
theorem emptyL_iff {α:Type} {l:List α}:emptyL l=true↔l=[]:=by cases l<;>simp [emptyL]
section
variable (isV:UInt8→List UInt8→Bool)
def mayE (o:UInt8) (b:Bd):Bool:=if b.is then isV o b.txt else !b.opn&&emptyL b.txt
def mayR (o:UInt8) (lo hi:Bd):Bool:=decide (1≤o.toNat∧o.toNat≤5)&&(mayE isV o lo&&mayE isV o hi)
def Tg.blank (t:Tg):Bool:=
 if t.kind=1 then t.plain&&(emptyL t.data&&emptyL t.kids)
 else if t.kind=2∨t.kind=5 then t.plain&&emptyL t.kids
 else if t.kind=3∨t.kind=4 then t.plain&&emptyL t.data
 else decide (t.kind=6)&&(mayR isV t.ord t.lo t.hi&&(emptyL t.data&&emptyL t.kids))
def Tg.starA (t:Tg):Bool:=decide (t.kind=2)&&decide (t.data=wStar)
def headA (l:List Tg):Bool:=match l with
 | []=>false
 | x::_=>x.starA
def Tg.starL (t:Tg):Bool:=decide (t.kind=3)&&headA t.kids
def Tg.ok (t:Tg):Bool:=t.blank isV&& !t.starL
def Tg.right (t:Tg):Bool:=t.ok isV&&t.kids.attach.all fun x=>Tg.right x.1
termination_by SizeOf.sizeOf t
decreasing_by exact Tg.kid_lt x.2
theorem Tg.right_eq (t:Tg):t.right isV=(t.ok isV&&t.kids.all (Tg.right isV)):=by
 rw [Tg.right]
 congr 1
 simp
def bdT (b:Bd) (w:List UInt8):List Tree:=if b.is then [atomT (if b.opn then w else w++[101]),atomT b.txt] else []
def Tg.val (t:Tg):Tree:=
 if t.kind=1 then listT [atomT wStar]
 else if t.kind=2 then atomT t.data
 else if t.kind=4 then listT (atomT wStar::atomT wSet::t.kids.attach.map fun x=>Tg.val x.1)
 else if t.kind=5 then listT [atomT wStar,atomT wPrefix,atomT t.data]
 else if t.kind=6 then listT (atomT wStar::atomT wRange::atomT (ordN t.ord)::(bdT t.lo wG++bdT t.hi wL))
 else listT (t.kids.attach.map fun x=>Tg.val x.1)
termination_by SizeOf.sizeOf t
decreasing_by all_goals exact Tg.kid_lt x.2
theorem Tg.val_eq (t:Tg):t.val =
  if t.kind=1 then listT [atomT wStar]
  else if t.kind=2 then atomT t.data
  else if t.kind=4 then listT (atomT wStar::atomT wSet::t.kids.map Tg.val)
  else if t.kind=5 then listT [atomT wStar,atomT wPrefix,atomT t.data]
  else if t.kind=6 then listT (atomT wStar::atomT wRange::atomT (ordN t.ord)::(bdT t.lo wG++bdT t.hi wL))
  else listT (t.kids.map Tg.val):=by
 rw [Tg.val]
 simp
def aTg (d:List UInt8):Tg:= .mk 2 d [] 0 Bd.none Bd.none
def kTg (k:UInt8) (l:List Tg):Tg:= .mk k [] l 0 Bd.none Bd.none
def allSome {α:Type}:List (Option α)→Option (List α)
 | []=>some []
 | none::_=>none
 | some x::l=>(allSome l).map (x:: ·)
def endT (l:List Tree) (w:List UInt8):Option (Bd × List Tree):=match l with
 | []=>some (Bd.none,[])
 | x :: l=>if isB x w||isB x (w++[101]) then (match l with
   | []=>none
   | y::l=>if y.list||y.hinted then none else some (⟨true,isB x w,y.data⟩,l))
  else some (Bd.none,x::l)
def findW (x:Tree):List (List UInt8)→Nat→Option Nat
 | [],_=>none
 | w::ws,k=>if isB x w then some k else findW x ws (k+1)
def rangeT (l:List Tree):Option Tg:=match l with
 | []=>none
 | x :: l=>match findW x ordW 1 with
  | none=>none
  | some o=>match endT l wG with
   | none=>none
   | some (lo,l1)=>match endT l1 wL with
    | none=>none
    | some (hi,l2)=>if emptyL l2&&mayR isV (UInt8.ofNat o) lo hi then some (.mk 6 [] [] (UInt8.ofNat o) lo hi) else none
def prefT (l:List Tree):Option Tg:=match l with
 | [y]=>if y.list||y.hinted then none else some (.mk 5 y.data [] 0 Bd.none Bd.none)
 | _=>none
def starT (l:List Tree) (sub:Option (List Tg)):Option Tg:=match l with
 | []=>some (kTg 1 [])
 | x::l=>if isB x wSet then sub.map (kTg 4)
  else if isB x wPrefix then prefT l
  else if isB x wRange then rangeT isV l
  else none
def getT (t:Tree):Option Tg:=
 if t.list then
  if headB t wStar then starT isV (t.kids.drop 1) (allSome ((t.kids.attach.map fun x=>getT x.1).drop 2))
  else (allSome (t.kids.attach.map fun x=>getT x.1)).map (kTg 3)
 else if t.hinted then none else some (aTg t.data)
termination_by SizeOf.sizeOf t
decreasing_by all_goals exact Tree.kid_lt x.2
theorem getT_eq (t:Tree):getT isV t =
  if t.list then
   if headB t wStar then starT isV (t.kids.drop 1) (allSome ((t.kids.map (getT isV)).drop 2))
   else (allSome (t.kids.map (getT isV))).map (kTg 3)
  else if t.hinted then none else some (aTg t.data):=by
 rw [getT]
 simp
end
theorem allSome_map {α β:Type} {f:α→Option β} {l:List α} {m:List β} (h:allSome (l.map f)=some m):l.length=m.length∧ ∀ (i:Nat) x,l[i]?=some x→ ∃ y,f x=some y∧m[i]?=some y:=by
 induction l generalizing m with
 | nil =>
  simp [allSome] at h
  subst h
  exact ⟨rfl,fun i x hx=>by simp at hx⟩
 | cons a l ih =>
  rw [List.map_cons] at h
  cases ha:f a with
  | none=>rw [ha] at h;simp [allSome] at h
  | some b =>
   rw [ha] at h
   simp only [allSome,Option.map_eq_some_iff] at h
   obtain ⟨k,hk,rfl⟩:=h
   obtain ⟨h1,h2⟩:=ih hk
   refine ⟨by simp [h1],fun i x hx=>?_⟩
   cases i with
   | zero=>simp at hx;subst hx;exact ⟨b,ha,rfl⟩
   | succ i=>simpa using h2 i x (by simpa using hx)
theorem allSome_of {α β:Type} {f:α→Option β} {g:β→α} {m:List β} (h: ∀ y∈m,f (g y)=some y):allSome ((m.map g).map f)=some m:=by
 induction m with
 | nil=>rfl
 | cons y m ih =>
  rw [List.map_cons,List.map_cons,h y (by simp),allSome,ih fun z hz=>h z (by simp [hz])]
  rfl
section
variable {isV:UInt8→List UInt8→Bool}
theorem map_back_val {l:List Tree} {m:List Tg} (h1:l.length=m.length) (h2: ∀ (i:Nat) x y,l[i]?=some x→m[i]?=some y→y.val=x):m.map Tg.val=l:=by
 refine List.ext_getElem? fun i=>?_
 rw [List.getElem?_map]
 by_cases hi:i<m.length
 ·rw [List.getElem?_eq_getElem hi,List.getElem?_eq_getElem (by omega:i<l.length)]
  simp only [Option.map_some]
  exact congrArg some (h2 i _ _ (List.getElem?_eq_getElem (by omega)) (List.getElem?_eq_getElem hi))
 ·rw [List.getElem?_eq_none (by omega),List.getElem?_eq_none (by omega)]
  rfl
theorem kid_clean {v x:Tree} (h:v.clean=true) (hx:x∈v.kids):x.clean=true:=by
 rw [Tree.clean_eq,Bool.and_eq_true] at h
 exact List.all_eq_true.1 h.2 x hx
theorem clean_fair {v:Tree} (h:v.clean=true):v.fair=true:=by
 rw [Tree.clean_eq,Bool.and_eq_true] at h
 exact h.1
theorem isB_atom {a b:List UInt8}:isB (atomT a) b=decide (a=b):=by
 rw [Bool.eq_iff_iff]
 simp [isB,atomT,Tree.list,Tree.hinted,Tree.data]
theorem endT_bdT {b:Bd} {w:List UInt8} {l:List Tree} {o:UInt8} (hm:mayE isV o b=true) (hl: ∀ x l',l=x::l'→isB x w=false∧isB x (w++[101])=false):endT (bdT b w++l) w=some (b,l):=by
 unfold bdT
 cases hb:b.is with
 | true =>
  have hne: ¬ (w++[101]=w):=fun e=>by
   have:=congrArg List.length e
   simp at this
  obtain ⟨i,o,t⟩:=b
  dsimp only at hb
  subst hb
  cases o<;>simp [endT,isB_atom,hne]<;>simp [atomT,Tree.list,Tree.hinted,Tree.data]
 | false =>
  rw [mayE,hb] at hm
  simp only [Bool.false_eq_true,if_false,Bool.and_eq_true,Bool.not_eq_true',emptyL_iff] at hm
  have e:b=Bd.none:=by
   obtain ⟨i,o,t⟩:=b
   simp at hb hm
   simp [Bd.none,hb,hm]
  rw [e]
  simp only [Bool.false_eq_true,if_false,List.nil_append]
  cases l with
  | nil=>rfl
  | cons x l =>
   obtain ⟨h1,h2⟩:=hl x l rfl
   simp [endT,h1,h2]
theorem bdT_endT {l l':List Tree} {b:Bd} {w:List UInt8} (hc: ∀ x∈l,x.clean=true) (h:endT l w=some (b,l')):l=bdT b w++l'∧(∀ x∈l',x.clean=true):=by
 cases l with
 | nil =>
  simp [endT] at h
  obtain ⟨rfl,rfl⟩:=h
  exact ⟨rfl,hc⟩
 | cons x l =>
  have hx:=clean_fair (hc x (by simp))
  simp only [endT] at h
  by_cases hw:(isB x w||isB x (w++[101]))=true
  ·rw [if_pos hw] at h
   cases l with
   | nil=>simp at h
   | cons y l =>
    have hy:=clean_fair (hc y (by simp))
    dsimp only at h
    by_cases hp:(y.list||y.hinted)=true
    ·rw [if_pos hp] at h
     cases h
    ·rw [if_neg hp] at h
     simp only [Option.some.injEq,Prod.mk.injEq] at h
     obtain ⟨rfl,rfl⟩:=h
     simp only [Bool.or_eq_true,not_or,Bool.not_eq_true] at hp
     refine ⟨?_,fun z hz=>hc z (by simp [hz])⟩
     have hye:=fair_atomT hy hp.1 hp.2
     have hxe:x=atomT (if isB x w then w else w++[101]):=by
      cases h1:isB x w with
      | true=>exact (isB_iff hx).1 h1
      | false =>
       rw [h1] at hw
       exact (isB_iff hx).1 (by simpa using hw)
     show x::y::l=_
     rw [bdT]
     simp only [if_true]
     rw [← hxe,← hye]
     rfl
  ·rw [if_neg hw] at h
   simp only [Option.some.injEq,Prod.mk.injEq] at h
   obtain ⟨rfl,rfl⟩:=h
   exact ⟨rfl,hc⟩
theorem ordN_ne {o:UInt8} (h:1≤o.toNat∧o.toNat≤5):findW (atomT (ordN o)) ordW 1=some o.toNat:=by
 have key: ∀ n,1≤n→n≤5→findW (atomT ((ordW[n-1]?).getD [])) ordW 1=some n:=by
  intro n h1 h2
  match n,h1,h2 with
  | 1,_,_=>decide
  | 2,_,_=>decide
  | 3,_,_=>decide
  | 4,_,_=>decide
  | 5,_,_=>decide
 exact key _ h.1 h.2
theorem findW_spec {x:Tree} (hx:x.fair=true): ∀ {ws:List (List UInt8)} {k o:Nat},findW x ws k=some o→ ∃ j w,o=k+j∧ws[j]?=some w∧x=atomT w
 | [],k,o,h=>by simp [findW] at h
 | w :: ws,k,o,h=>by
  rw [findW] at h
  by_cases hw:isB x w=true
  ·rw [if_pos hw] at h
   simp at h
   subst h
   exact ⟨0,w,rfl,rfl,(isB_iff hx).1 hw⟩
  ·rw [if_neg hw] at h
   obtain ⟨j,w',rfl,h1,h2⟩:=findW_spec hx h
   exact ⟨j+1,w',by omega,by simpa using h1,h2⟩
theorem range_back {l:List Tree} {u:Tg} (hc: ∀ x∈l,x.clean=true) (h:rangeT isV l=some u): ∃ o lo hi,u= .mk 6 [] [] o lo hi∧mayR isV o lo hi=true∧l=atomT (ordN o)::(bdT lo wG++bdT hi wL):=by
 cases l with
 | nil=>simp [rangeT] at h
 | cons x l =>
  have hx:=clean_fair (hc x (by simp))
  rw [rangeT] at h
  cases ho:findW x ordW 1 with
  | none=>rw [ho] at h;cases h
  | some o =>
   rw [ho] at h
   dsimp only at h
   cases h1:endT l wG with
   | none=>rw [h1] at h;cases h
   | some p =>
    obtain ⟨lo,l1⟩:=p
    rw [h1] at h
    dsimp only at h
    cases h2:endT l1 wL with
    | none=>rw [h2] at h;cases h
    | some p =>
     obtain ⟨hi,l2⟩:=p
     rw [h2] at h
     dsimp only at h
     by_cases h3:(emptyL l2&&mayR isV (UInt8.ofNat o) lo hi)=true
     ·rw [if_pos h3] at h
      simp only [Option.some.injEq] at h
      subst h
      rw [Bool.and_eq_true,emptyL_iff] at h3
      obtain ⟨rfl,hm⟩:=h3
      obtain ⟨e1,c1⟩:=bdT_endT (fun z hz=>hc z (by simp [hz])) h1
      obtain ⟨e2,c2⟩:=bdT_endT c1 h2
      obtain ⟨j,w,rfl,hj,hxw⟩:=findW_spec hx ho
      have hj5:j<5:=(List.getElem?_eq_some_iff.1 hj).1
      refine ⟨_,lo,hi,rfl,hm,?_⟩
      have hon:ordN (UInt8.ofNat (1+j))=w:=by
       unfold ordN
       rw [UInt8.toNat_ofNat_of_lt' (by simp only [UInt8.size];omega),Nat.add_sub_cancel_left,hj]
       rfl
      rw [hon,← hxw,e1,e2,List.append_nil]
     ·rw [if_neg h3] at h
      cases h
theorem range_fwd {o:UInt8} {lo hi:Bd} (hm:mayR isV o lo hi=true):rangeT isV (atomT (ordN o)::(bdT lo wG++bdT hi wL))=some (.mk 6 [] [] o lo hi):=by
 have hm':=hm
 rw [mayR,Bool.and_eq_true,Bool.and_eq_true,decide_eq_true_eq] at hm
 obtain ⟨ho,h1,h2⟩:=hm
 have hhi: ∀ x l',bdT hi wL=x::l'→isB x wG=false∧isB x (wG++[101])=false:=fun x l' e=>by
  unfold bdT at e
  split at e
  ·simp only [List.cons.injEq] at e
   rw [← e.1,isB_atom,isB_atom]
   split<;>decide
  ·cases e
 have e1:=endT_bdT (isV:=isV) (l:=bdT hi wL) h1 hhi
 have e2:=endT_bdT (isV:=isV) (b:=hi) (w:=wL) (l:=[]) h2 (fun x l' e=>by cases e)
 rw [List.append_nil] at e2
 rw [rangeT,ordN_ne ho]
 dsimp only
 rw [e1]
 dsimp only
 rw [e2]
 dsimp only
 have eo:UInt8.ofNat o.toNat=o:=UInt8.toNat_inj.1 (by rw [UInt8.toNat_ofNat_of_lt' o.toNat_lt])
 rw [eo,hm']
 rfl
theorem plain_mk {k:UInt8} {d:List UInt8} {l:List Tg}:(Tg.mk k d l 0 Bd.none Bd.none).plain=true:=by simp [Tg.plain,Tg.ord,Tg.lo,Tg.hi]
theorem get_ok: ∀ (v:Tree) (u:Tg),v.clean=true→getT isV v=some u→u.right isV=true∧u.val=v:=by
 refine Tree.ind fun v ih u hc h=>?_
 have hf:=clean_fair hc
 have hkc: ∀ x∈v.kids,x.clean=true:=fun x hx=>kid_clean hc hx
 have sub: ∀ (n:Nat) (m:List Tg),allSome ((v.kids.map (getT isV)).drop n)=some m→m.map Tg.val=v.kids.drop n∧m.all (Tg.right isV)=true:=fun n m hm=>by
  rw [← List.map_drop] at hm
  obtain ⟨h1,h2⟩:=allSome_map hm
  have h3: ∀ (i:Nat) x y,(v.kids.drop n)[i]?=some x→m[i]?=some y→y.right isV=true∧y.val=x:=fun i x y hx hy=>by
   obtain ⟨y',hy',e⟩:=h2 i x hx
   rw [hy] at e
   simp at e
   subst e
   have hmem:x∈v.kids:=List.mem_of_mem_drop (List.mem_of_getElem? hx)
   exact ih x hmem y (hkc x hmem) hy'
  refine ⟨map_back_val h1 fun i x y hx hy=>(h3 i x y hx hy).2,List.all_eq_true.2 fun y hy=>?_⟩
  obtain ⟨i,hi⟩:=List.getElem?_of_mem hy
  have hil:i<m.length:=(List.getElem?_eq_some_iff.1 hi).1
  exact (h3 i _ y (List.getElem?_eq_getElem (by omega)) hi).1
 rw [getT_eq] at h
 cases hl:v.list with
 | false =>
  rw [hl] at h
  simp only [Bool.false_eq_true,if_false] at h
  cases hh:v.hinted with
  | true=>rw [hh] at h;simp at h
  | false =>
   rw [hh] at h
   simp at h
   subst h
   have hv:=fair_atomT hf hl hh
   refine ⟨?_,?_⟩
   ·rw [Tg.right_eq]
    simp [Tg.ok,Tg.blank,Tg.starL,aTg,Tg.kind,Tg.kids,plain_mk,emptyL]
   ·rw [Tg.val_eq]
    simp [aTg,Tg.kind,Tg.data]
    exact hv.symm
 | true =>
  have hv:=fair_listT hf hl
  rw [hl] at h
  simp only [if_true] at h
  by_cases hs:headB v wStar=true
  ·rw [if_pos hs] at h
   rw [headB,hl,Bool.true_and] at hs
   cases hk:v.kids with
   | nil=>rw [hk] at hs;simp at hs
   | cons x l =>
    rw [hk] at hs
    dsimp only at hs
    have hxs:x=atomT wStar:=(isB_iff (clean_fair (hkc x (by rw [hk];simp)))).1 hs
    have hd:v.kids.drop 1=l:=by rw [hk];rfl
    have hlc: ∀ z∈l,z.clean=true:=fun z hz=>hkc z (by rw [hk];simp [hz])
    rw [hd] at h
    cases l with
    | nil =>
     simp [starT] at h
     subst h
     refine ⟨?_,?_⟩
     ·rw [Tg.right_eq]
      simp [Tg.ok,Tg.blank,Tg.starL,kTg,Tg.kind,Tg.kids,Tg.data,plain_mk,emptyL]
     ·rw [hv,hk,hxs,Tg.val_eq]
      simp [kTg,Tg.kind]
    | cons y l =>
     have hyf:=clean_fair (hlc y (by simp))
     rw [starT] at h
     by_cases h1:isB y wSet=true
     ·rw [if_pos h1,Option.map_eq_some_iff] at h
      obtain ⟨m,hm,rfl⟩:=h
      obtain ⟨e1,e2⟩:=sub 2 m hm
      have hd2:v.kids.drop 2=l:=by rw [hk];rfl
      refine ⟨?_,?_⟩
      ·rw [Tg.right_eq]
       simp [Tg.ok,Tg.blank,Tg.starL,kTg,Tg.kind,Tg.kids,Tg.data,plain_mk,emptyL]
       simpa using e2
      ·rw [hv,hk,hxs,Tg.val_eq]
       simp only [kTg,Tg.kind,Tg.kids]
       rw [e1,hd2,(isB_iff hyf).1 h1]
       simp
     ·rw [if_neg h1] at h
      by_cases h2:isB y wPrefix=true
      ·rw [if_pos h2] at h
       match l,h,hk,hlc with
       | [z],h,hk,hlc =>
        simp only [prefT] at h
        by_cases hp:(z.list||z.hinted)=true
        ·rw [if_pos hp] at h
         cases h
        ·rw [if_neg hp] at h
         simp only [Option.some.injEq] at h
         subst h
         simp only [Bool.or_eq_true,not_or,Bool.not_eq_true] at hp
         have hz:=fair_atomT (clean_fair (hlc z (by simp))) hp.1 hp.2
         refine ⟨?_,?_⟩
         ·rw [Tg.right_eq]
          simp [Tg.ok,Tg.blank,Tg.starL,Tg.kind,Tg.kids,Tg.data,plain_mk,emptyL]
         ·rw [hv,hk,hxs,Tg.val_eq,(isB_iff hyf).1 h2]
          simp only [Tg.kind,Tg.data]
          rw [← hz]
          simp
       | [],h,_,_=>cases h
       | _::_::_,h,_,_=>cases h
      ·rw [if_neg h2] at h
       by_cases h3:isB y wRange=true
       ·rw [if_pos h3] at h
        obtain ⟨o,lo,hi,rfl,hm,e⟩:=range_back (fun z hz=>hlc z (by simp [hz])) h
        refine ⟨?_,?_⟩
        ·rw [Tg.right_eq]
         simp [Tg.ok,Tg.blank,Tg.starL,Tg.kind,Tg.kids,Tg.data,Tg.ord,Tg.lo,Tg.hi,emptyL,hm]
        ·rw [hv,hk,hxs,Tg.val_eq,(isB_iff hyf).1 h3,e]
         simp [Tg.kind,Tg.ord,Tg.lo,Tg.hi]
       ·rw [if_neg h3] at h
        cases h
  ·rw [if_neg hs,Option.map_eq_some_iff] at h
   obtain ⟨m,hm,rfl⟩:=h
   obtain ⟨e1,e2⟩:=sub 0 m (by rw [List.drop_zero];exact hm)
   rw [List.drop_zero] at e1
   have hst:(kTg 3 m).starL=false:=by
    cases m with
    | nil=>simp [kTg,Tg.starL,headA,Tg.kind,Tg.kids]
    | cons y m =>
     cases hsa:y.starA with
     | false=>simp [kTg,Tg.starL,headA,Tg.kind,Tg.kids,hsa]
     | true =>
      exfalso
      apply hs
      simp only [Tg.starA,Bool.and_eq_true,decide_eq_true_eq] at hsa
      have:y.val=atomT wStar:=by
       rw [Tg.val_eq,hsa.1,hsa.2]
       simp
      rw [headB,hl,Bool.true_and,← e1,List.map_cons]
      dsimp only
      rw [this,isB_atom]
      simp
   refine ⟨?_,?_⟩
   ·rw [Tg.right_eq,Tg.ok,hst]
    simp only [Tg.blank,kTg,Tg.kind,Tg.kids,Tg.data,plain_mk,emptyL]
    simpa using e2
   ·rw [hv,Tg.val_eq]
    simp only [kTg,Tg.kind,Tg.kids]
    rw [e1]
    simp
theorem val_list {t:Tg} (h:t.kind≠2):t.val.list=true:=by
 rw [Tg.val_eq]
 repeat' split
 all_goals first|rfl|contradiction
theorem star_val {t:Tg}:isB t.val wStar=t.starA:=by
 by_cases h:t.kind=2
 ·rw [Tg.val_eq,h,Tg.starA,h]
  simp [isB_atom]
 ·have:=val_list h
  simp [isB,this,Tg.starA,h]
theorem blank_of (k:UInt8) (d:List UInt8) (l:List Tg) (o:UInt8) (lo hi:Bd):(Tg.mk k d l o lo hi).blank isV =
  if k=1 then (Tg.mk k d l o lo hi).plain&&(emptyL d&&emptyL l)
  else if k=2∨k=5 then (Tg.mk k d l o lo hi).plain&&emptyL l
  else if k=3∨k=4 then (Tg.mk k d l o lo hi).plain&&emptyL d
  else decide (k=6)&&(mayR isV o lo hi&&(emptyL d&&emptyL l)):=rfl
theorem val_of (k:UInt8) (d:List UInt8) (l:List Tg) (o:UInt8) (lo hi:Bd):(Tg.mk k d l o lo hi).val =
  if k=1 then listT [atomT wStar]
  else if k=2 then atomT d
  else if k=4 then listT (atomT wStar::atomT wSet::l.map Tg.val)
  else if k=5 then listT [atomT wStar,atomT wPrefix,atomT d]
  else if k=6 then listT (atomT wStar::atomT wRange::atomT (ordN o)::(bdT lo wG++bdT hi wL))
  else listT (l.map Tg.val):=by
 rw [Tg.val_eq]
 rfl
theorem blank_mk {t:Tg} (hp:t.plain=true):t.ord=0∧t.lo=Bd.none∧t.hi=Bd.none:=by
 simpa [Tg.plain] using hp
theorem put_ok: ∀ t:Tg,t.right isV=true→getT isV t.val=some t:=by
 refine Tg.ind fun t ih h=>?_
 rw [Tg.right_eq,Bool.and_eq_true,List.all_eq_true] at h
 obtain ⟨hok,hk⟩:=h
 have ihk: ∀ x∈t.kids,getT isV x.val=some x:=fun x hx=>ih x hx (hk x hx)
 have hall:=allSome_of (f:=getT isV) (g:=Tg.val) ihk
 obtain ⟨k,d,l,o,lo,hi⟩:=t
 simp only [Tg.ok,Bool.and_eq_true,Bool.not_eq_true'] at hok
 obtain ⟨hb,hs⟩:=hok
 have hkv:(Tg.mk k d l o lo hi).kids=l:=rfl
 rw [hkv] at hall ihk hk
 rw [val_of]
 rw [blank_of] at hb
 by_cases h1:k=1
 ·subst h1
  simp only [if_true,Bool.and_eq_true,emptyL_iff] at hb ⊢
  obtain ⟨hp,rfl,rfl⟩:=hb
  obtain ⟨rfl,rfl,rfl⟩:o=0∧lo=Bd.none∧hi=Bd.none:=blank_mk hp
  rw [getT_eq]
  simp [listT,headB,Tree.list,Tree.kids,isB_atom,starT,kTg]
 rw [if_neg h1] at hb
 rw [if_neg h1]
 by_cases h2:k=2
 ·subst h2
  simp only [true_or,if_true,Bool.and_eq_true,emptyL_iff] at hb ⊢
  obtain ⟨hp,rfl⟩:=hb
  obtain ⟨rfl,rfl,rfl⟩:o=0∧lo=Bd.none∧hi=Bd.none:=blank_mk hp
  rw [getT_eq]
  simp [atomT,Tree.list,Tree.hinted,Tree.data,aTg]
 rw [if_neg h2]
 by_cases h4:k=4
 ·subst h4
  simp only [if_true,Bool.and_eq_true,emptyL_iff] at hb ⊢
  simp at hb
  obtain ⟨hp,hd⟩:=hb
  rw [emptyL_iff] at hd
  subst hd
  obtain ⟨rfl,rfl,rfl⟩:o=0∧lo=Bd.none∧hi=Bd.none:=blank_mk hp
  rw [getT_eq]
  have e:((listT (atomT wStar::atomT wSet::l.map Tg.val)).kids.map (getT isV)).drop 2=(l.map Tg.val).map (getT isV):=rfl
  rw [e,hall]
  simp [listT,headB,Tree.list,Tree.kids,isB_atom,starT,kTg]
 rw [if_neg h4]
 by_cases h5:k=5
 ·subst h5
  simp at hb ⊢
  obtain ⟨hp,hd⟩:=hb
  rw [emptyL_iff] at hd
  subst hd
  obtain ⟨rfl,rfl,rfl⟩:o=0∧lo=Bd.none∧hi=Bd.none:=blank_mk hp
  rw [getT_eq]
  have e1:isB (atomT wPrefix) wSet=false:=by decide
  have e2:isB (atomT wPrefix) wPrefix=true:=by decide
  have e0:isB (atomT wStar) wStar=true:=by decide
  simp [listT,headB,Tree.list,Tree.kids,starT,prefT,e0,e1,e2]
  simp [atomT,Tree.list,Tree.hinted,Tree.data]
 rw [if_neg h5]
 by_cases h6:k=6
 ·subst h6
  simp at hb ⊢
  obtain ⟨hm,hd,hl⟩:=hb
  rw [emptyL_iff] at hd hl
  subst hd hl
  rw [getT_eq]
  have e1:isB (atomT wRange) wSet=false:=by decide
  have e2:isB (atomT wRange) wPrefix=false:=by decide
  have e3:isB (atomT wRange) wRange=true:=by decide
  have e4:headB (listT (atomT wStar::atomT wRange::atomT (ordN o)::(bdT lo wG++bdT hi wL))) wStar=true:=by simp [headB,listT,Tree.list,Tree.kids,isB_atom]
  rw [e4]
  simp only [listT,Tree.list,Tree.kids,if_true,List.drop_succ_cons,List.drop_zero,starT,e1,e2,e3,Bool.false_eq_true,if_false]
  exact range_fwd hm
 rw [if_neg h6]
 by_cases h3:k=3
 ·subst h3
  simp at hb
  obtain ⟨hp,hd⟩:=hb
  rw [emptyL_iff] at hd
  subst hd
  obtain ⟨rfl,rfl,rfl⟩:o=0∧lo=Bd.none∧hi=Bd.none:=blank_mk hp
  rw [getT_eq]
  have e4:headB (listT (l.map Tg.val)) wStar=false:=by
   cases l with
   | nil=>simp [headB,listT,Tree.list,Tree.kids]
   | cons x l =>
    simp only [Tg.starL,headA,Tg.kind,Tg.kids,decide_true,Bool.true_and] at hs
    simp only [headB,listT,Tree.list,Tree.kids,List.map_cons,Bool.true_and]
    rw [star_val,hs]
  have e5:(listT (l.map Tg.val)).kids.map (getT isV)=(l.map Tg.val).map (getT isV):=rfl
  rw [e4,e5,hall]
  simp [listT,Tree.list,kTg]
 ·exfalso
  simp [h2,h5,h3,h4,h6] at hb
end
inductive Sb where
 | mk (kind:UInt8) (ks:Bool) (kd:List UInt8) (names:List (List UInt8)) (k:Int) (kids:List Sb)
def Sb.kind:Sb→UInt8| .mk a _ _ _ _ _=>a
def Sb.ks:Sb→Bool| .mk _ a _ _ _ _=>a
def Sb.kd:Sb→List UInt8| .mk _ _ a _ _ _=>a
def Sb.names:Sb→List (List UInt8)| .mk _ _ _ a _ _=>a
def Sb.k:Sb→Int| .mk _ _ _ _ a _=>a
def Sb.kids:Sb→List Sb| .mk _ _ _ _ _ a=>a
theorem Sb.kid_lt {t x:Sb} (h:x∈t.kids):SizeOf.sizeOf x<SizeOf.sizeOf t:=by
 cases t
 have:=List.sizeOf_lt_of_mem h
 simp only [Sb.kids] at this
 simp only [Sb.mk.sizeOf_spec]
 omega
theorem Sb.ind {P:Sb→Prop} (h: ∀ t,(∀ x∈t.kids,P x)→P t) (t:Sb):P t:=
 h t fun x hx=>Sb.ind h x
termination_by SizeOf.sizeOf t
decreasing_by exact Sb.kid_lt hx
def Sb.none:Sb:= .mk 0 false [] [] 0 []
def tName:List UInt8:=[110,97,109,101]
def tKofN:List UInt8:=[107,45,111,102,45,110]
def Sb.plain (s:Sb):Bool:=decide (s.k=0)&&(emptyL s.kids&&keyMay s.ks s.kd)
def Sb.names2 (s:Sb):Bool:= !emptyL s.names&&(decide (s.names.length≤8)&&s.names.all fun n=> !emptyL n)
def Sb.ok3 (s:Sb) (deep:Nat):Bool:=decide (deep≤3)&&(!s.ks&&(emptyL s.kd&&(emptyL s.names&&decide (1≤s.k∧s.k≤(s.kids.length:Int)∧s.kids.length≤8))))
def Sb.right (s:Sb) (deep:Nat):Bool:=
 if s.kind=1 then s.plain&&emptyL s.names
 else if s.kind=2 then s.plain&&s.names2
 else if s.kind=3 then s.ok3 deep&&s.kids.attach.all fun x=>Sb.right x.1 (deep+1)
 else false
termination_by SizeOf.sizeOf s
decreasing_by exact Sb.kid_lt x.2
theorem Sb.right_eq (s:Sb) (deep:Nat):s.right deep =
  if s.kind=1 then s.plain&&emptyL s.names
  else if s.kind=2 then s.plain&&s.names2
  else if s.kind=3 then s.ok3 deep&&s.kids.all fun x=>x.right (deep+1)
  else false:=by
 rw [Sb.right]
 simp
def Sb.val (s:Sb):Tree:=
 if s.kind=1 then keyV s.ks s.kd
 else if s.kind=2 then listT (atomT tName::keyV s.ks s.kd::s.names.map atomT)
 else listT (atomT tKofN::atomT (dec s.k.toNat)::atomT (dec s.kids.length)::s.kids.attach.map fun x=>Sb.val x.1)
termination_by SizeOf.sizeOf s
decreasing_by exact Sb.kid_lt x.2
theorem Sb.val_eq (s:Sb):s.val =
  if s.kind=1 then keyV s.ks s.kd
  else if s.kind=2 then listT (atomT tName::keyV s.ks s.kd::s.names.map atomT)
  else listT (atomT tKofN::atomT (dec s.k.toNat)::atomT (dec s.kids.length)::s.kids.map Sb.val):=by
 rw [Sb.val]
 simp
def smallT (v:Tree):Option Nat:=if isB v (dec 1) then some 1 else if isB v (dec 2) then some 2 else if isB v (dec 3) then some 3 else if isB v (dec 4) then some 4
 else if isB v (dec 5) then some 5 else if isB v (dec 6) then some 6 else if isB v (dec 7) then some 7 else if isB v (dec 8) then some 8 else none
def nameOk (n:Tree):Bool:= !n.list&&(!n.hinted&& !emptyL n.data)
def refS (v:Tree) (deep:Nat):Option Sb:=
 match rgetK v with
 | some k=>some (.mk 1 k.1 k.2 [] 0 [])
 | none =>
  if headB v tName&&decide (3≤v.kids.length∧v.kids.length≤10) then
   (match rgetK (v.kid 1) with
   | some k=>if (v.kids.drop 2).all nameOk then some (.mk 2 k.1 k.2 ((v.kids.drop 2).map Tree.data) 0 []) else none
   | none=>none)
  else if headB v tKofN&&decide (4≤v.kids.length∧deep≤3) then
   (match smallT (v.kid 1),smallT (v.kid 2) with
   | some a,some b=>if b=v.kids.length-3∧a≤b then (allSome ((v.kids.attach.map fun x=>refS x.1 (deep+1)).drop 3)).map fun l=> .mk 3 false [] [] (a:Nat) l else none
   | _,_=>none)
  else none
termination_by SizeOf.sizeOf v
decreasing_by exact Tree.kid_lt x.2
theorem refS_eq (v:Tree) (deep:Nat):refS v deep =
 match rgetK v with
 | some k=>some (.mk 1 k.1 k.2 [] 0 [])
 | none =>
  if headB v tName&&decide (3≤v.kids.length∧v.kids.length≤10) then
   (match rgetK (v.kid 1) with
   | some k=>if (v.kids.drop 2).all nameOk then some (.mk 2 k.1 k.2 ((v.kids.drop 2).map Tree.data) 0 []) else none
   | none=>none)
  else if headB v tKofN&&decide (4≤v.kids.length∧deep≤3) then
   (match smallT (v.kid 1),smallT (v.kid 2) with
   | some a,some b=>if b=v.kids.length-3∧a≤b then (allSome ((v.kids.drop 3).map fun x=>refS x (deep+1))).map fun l=> .mk 3 false [] [] (a:Nat) l else none
   | _,_=>none)
  else none:=by
 rw [refS]
 simp only [List.map_drop,List.map_attach_eq_pmap,List.pmap_eq_map]
def lenC:Nat→List UInt8→Option Nat
 | n,[]=>some n
 | n,c::l=>if 48≤c.toNat∧c.toNat≤57 then (if 8<c.toNat-48∨(8-(c.toNat-48))/10<n then none else lenC (10*n+(c.toNat-48)) l) else some n
def lenP (b:List UInt8):Nat:=match b with
 | []=>0
 | c::l=>if 48≤c.toNat∧c.toNat≤57 then (if c.toNat=48 then 0 else (lenC 0 (c::l)).getD 0) else 0
noncomputable def readS (v:Tree) (deep:Nat):Sb:=
 match getK v with
 | some k=> .mk 1 k.1 k.2 [] 0 []
 | none =>
  if v.kids.length<3 then Sb.none
  else if (v.kid 0).data=tName then .mk 2 (((getK (v.kid 1)).getD (false,[])).1) (((getK (v.kid 1)).getD (false,[])).2) ((v.kids.drop 2).map Tree.data) 0 []
  else if 3<deep then Sb.none
  else .mk 3 false [] [] (lenP (v.kid 1).data:Nat) ((v.kids.attach.map fun x=>readS x.1 (deep+1)).drop 3)
termination_by SizeOf.sizeOf v
decreasing_by exact Tree.kid_lt x.2
theorem readS_eq (v:Tree) (deep:Nat):readS v deep =
 match getK v with
 | some k=> .mk 1 k.1 k.2 [] 0 []
 | none =>
  if v.kids.length<3 then Sb.none
  else if (v.kid 0).data=tName then .mk 2 (((getK (v.kid 1)).getD (false,[])).1) (((getK (v.kid 1)).getD (false,[])).2) ((v.kids.drop 2).map Tree.data) 0 []
  else if 3<deep then Sb.none
  else .mk 3 false [] [] (lenP (v.kid 1).data:Nat) ((v.kids.drop 3).map fun x=>readS x (deep+1)):=by
 rw [readS]
 simp only [List.map_drop,List.map_attach_eq_pmap,List.pmap_eq_map]
end Go.Proofs.YtfammdfpgccnfaaGreatDoor
namespace Go.Proofs.YtfammdfpgccnfaaGreatDoor
open Go.RowKit
def iD (n:Nat):DV:= .c (.v (.int .i64 (n:Int)))
def longB (y:Nat):Bool:=decide (y%4=0)&&(!decide (y%100=0)||decide (y%400=0))
def daysN (y m:Nat):Nat:=if m=2 then (if longB y=true then 29 else 28) else if m=4∨m=6∨m=9∨m=11 then 30 else 31
theorem tm (y k:Nat):(y:Int).tmod (k:Int)=((y%k:Nat):Int):=by rw [Int.tmod_eq_emod_of_nonneg (by omega)];rfl
theorem tq (y k:Nat):(y:Int).tdiv (k:Int)=((y/k:Nat):Int):=by rw [Int.tdiv_eq_ediv_of_nonneg (by omega)];rfl
theorem nbeq (a b:Nat):(((a:Int))==((b:Int)))=decide (a=b):=by rw [Bool.eq_iff_iff];simp [Int.ofNat_inj]
section
variable {G:Nat→Option (List D)}
theorem long_m (y:Nat):Spec Tryz.prog G 167 [iD y] (.one (.c (.v (.bool (longB y))))):=by
 have t4:(y:Int).tmod 4=((y%4:Nat):Int):=tm y 4
 have t100:(y:Int).tmod 100=((y%100:Nat):Int):=tm y 100
 have t400:(y:Int).tmod 400=((y%400:Nat):Int):=tm y 400
 have e4:(((y%4:Nat):Int)==0)=decide (y%4=0):=nbeq _ 0
 have e100:(((y%100:Nat):Int)==0)=decide (y%100=0):=nbeq _ 0
 have e400:(((y%400:Nat):Int)==0)=decide (y%400=0):=nbeq _ 0
 unfold longB iD
 generalize decide (y%4=0)=p at *
 generalize decide (y%100=0)=q at *
 generalize decide (y%400=0)=r at *
 refine spec_of Tryz.func167 rfl rfl rfl (by kernel_rfl) rfl fun K=>?_
 (repeat' (first|with_reducible (first|refine zA fun Kn hK=>?_|refine zU ?_|refine Nx.go ?_|go_step)|with_reducible (first|refine zI ?_|refine zV ?_)|simp (maxSteps:=9^9) (disch:=omega) only [wq]|with_reducible refine zM (fun hb=>?_) (fun hb=>?_)<;>try simp only [hb]|with_reducible refine And.intro (by first|omega|(simp;done)|(simp;omega)) ?_|simp (maxSteps:=9^9) -implicitDefEqProofs only [go_sem,t4,t100,t400,e4,e100,e400,bne]))
 all_goals simp_all
theorem days_m (y m:Nat):Spec Tryz.prog G 141 [iD y,iD m] (.one (iD (daysN y m))):=by
 have h2:((m:Int)==2)=decide (m=2):=nbeq m 2
 have h4:((m:Int)==4)=decide (m=4):=nbeq m 4
 have h6:((m:Int)==6)=decide (m=6):=nbeq m 6
 have h9:((m:Int)==9)=decide (m=9):=nbeq m 9
 have h11:((m:Int)==11)=decide (m=11):=nbeq m 11
 unfold daysN iD
 by_cases c2:m=2
 ·rw [decide_eq_true c2] at h2
  rw [if_pos c2]
  cases hl:longB y
  all_goals
   have hl':=long_m (G:=G) y
   rw [hl] at hl'
  ·refine spec_of Tryz.func141 rfl rfl rfl (by kernel_rfl) rfl fun K=>?_
   (repeat' (first|with_reducible (first|refine zA fun Kn hK=>?_|refine zU ?_|refine Nx.go ?_|go_step)|refine ⟨_,hl',?_⟩|with_reducible (first|refine zI ?_|refine zV ?_)|simp (maxSteps:=9^9) (disch:=omega) only [wq]|with_reducible refine zM (fun hb=>?_) (fun hb=>?_)<;>try simp only [hb]|with_reducible refine And.intro (by first|omega|(simp;done)|(simp;omega)) ?_|simp (maxSteps:=9^9) -implicitDefEqProofs only [go_sem,h2]))
   try rfl
  ·refine spec_of Tryz.func141 rfl rfl rfl (by kernel_rfl) rfl fun K=>?_
   (repeat' (first|with_reducible (first|refine zA fun Kn hK=>?_|refine zU ?_|refine Nx.go ?_|go_step)|refine ⟨_,hl',?_⟩|with_reducible (first|refine zI ?_|refine zV ?_)|simp (maxSteps:=9^9) (disch:=omega) only [wq]|with_reducible refine zM (fun hb=>?_) (fun hb=>?_)<;>try simp only [hb]|with_reducible refine And.intro (by first|omega|(simp;done)|(simp;omega)) ?_|simp (maxSteps:=9^9) -implicitDefEqProofs only [go_sem,h2]))
   try rfl
 ·have f2:=decide_eq_false c2
  rw [f2] at h2
  rw [if_neg c2]
  generalize g4:decide (m=4)=p4 at *
  generalize g6:decide (m=6)=p6 at *
  generalize g9:decide (m=9)=p9 at *
  generalize g11:decide (m=11)=p11 at *
  refine spec_of Tryz.func141 rfl rfl rfl (by kernel_rfl) rfl fun K=>?_
  (repeat' (first|with_reducible (first|refine zA fun Kn hK=>?_|refine zU ?_|refine Nx.go ?_|go_step)|with_reducible (first|refine zI ?_|refine zV ?_)|simp (maxSteps:=9^9) (disch:=omega) only [wq]|with_reducible refine zM (fun hb=>?_) (fun hb=>?_)<;>try simp only [hb]|with_reducible refine And.intro (by first|omega|(simp;done)|(simp;omega)) ?_|simp (maxSteps:=9^9) -implicitDefEqProofs only [go_sem,h2,h4,h6,h9,h11]))
  all_goals simp_all
def aheadN (y:Nat):Nat:=y*365+(if y=0 then 0 else (y-1)/4-(y-1)/100+(y-1)/400+1)
theorem ahead_m (y:Nat) (hy:y≤10000):Spec Tryz.prog G 142 [iD y] (.one (iD (aheadN y))):=by
 unfold aheadN iD
 by_cases h0:y=0
 ·have h:decide ((y:Int)>0)=false:=decide_eq_false (by omega)
  subst h0
  refine spec_of Tryz.func142 rfl rfl rfl (by kernel_rfl) rfl fun K=>?_
  (repeat' (first|with_reducible (first|refine zA fun Kn hK=>?_|refine zU ?_|refine Nx.go ?_|go_step)|with_reducible (first|refine zI ?_|refine zV ?_)|simp (maxSteps:=9^9) (disch:=omega) only [wq]|with_reducible refine zM (fun hb=>?_) (fun hb=>?_)<;>try simp only [hb]|with_reducible refine And.intro (by first|omega|(simp;done)|(simp;omega)) ?_|simp (maxSteps:=9^9) -implicitDefEqProofs only [go_sem,h]))
  try rfl
 ·have h:decide ((y:Int)>0)=true:=decide_eq_true (by omega)
  have e:(y:Int)-1=((y-1:Nat):Int):=by omega
  have q4:((y-1:Nat):Int).tdiv 4=(((y-1)/4:Nat):Int):=tq _ 4
  have q100:((y-1:Nat):Int).tdiv 100=(((y-1)/100:Nat):Int):=tq _ 100
  have q400:((y-1:Nat):Int).tdiv 400=(((y-1)/400:Nat):Int):=tq _ 400
  rw [if_neg h0]
  refine spec_of Tryz.func142 rfl rfl rfl (by kernel_rfl) rfl fun K=>?_
  (repeat' (first|with_reducible (first|refine zA fun Kn hK=>?_|refine zU ?_|refine Nx.go ?_|go_step)|with_reducible (first|refine zI ?_|refine zV ?_)|simp (maxSteps:=9^9) (disch:=omega) only [wq]|with_reducible refine zM (fun hb=>?_) (fun hb=>?_)<;>try simp only [hb]|with_reducible refine And.intro (by first|omega|(simp;done)|(simp;omega)) ?_|simp (maxSteps:=9^9) -implicitDefEqProofs only [go_sem,h,e,q4,q100,q400]))
  congr 4
  omega
def isDg (c:UInt8):Bool:=decide (48≤c.toNat∧c.toNat≤57)
def numV (l:List UInt8):Nat:=l.foldl (fun n c=>10*n+(c.toNat-48)) 0
theorem numV_take {l:List UInt8} {k:Nat} {x:UInt8} (h:l[k]?=some x):numV (l.take (k+1))=10*numV (l.take k)+(x.toNat-48):=by
 unfold numV
 rw [List.take_add_one,h,List.foldl_append]
 rfl
theorem numV_lt: ∀ (l:List UInt8),(∀ c∈l,isDg c=true)→numV l<10^l.length:=by
 intro l h
 have key: ∀ (l:List UInt8) (n k:Nat),(∀ c∈l,isDg c=true)→n<10^k→l.foldl (fun n c=>10*n+(c.toNat-48)) n<10^(k+l.length):=by
  intro l
  induction l with
  | nil=>intro n k _ h;exact h
  | cons c l ih =>
   intro n k hd hn
   have hc:48≤c.toNat∧c.toNat≤57:=of_decide_eq_true (hd c (by simp))
   have h2:=ih (10*n+(c.toNat-48)) (k+1) (fun x hx=>hd x (by simp [hx])) (by rw [Nat.pow_succ];omega)
   rw [List.foldl_cons,List.length_cons]
   have e:k+1+l.length=k+(l.length+1):=by omega
   rw [e] at h2
   exact h2
 have:=key l 0 0 h (by decide)
 rw [Nat.zero_add] at this
 exact this
theorem digits_m (b:List UInt8) (n:Nat) (lb:b.length=n) (hn:n≤9) (hb: ∀ c∈b,isDg c=true):Spec Tryz.prog G 140 [.c (.sl n (b.map bD))] (.one (iD (numV b))):=by
 unfold iD
 refine spec_of Tryz.func140 rfl rfl rfl (by kernel_rfl) rfl fun K=>?_
 (repeat' (first|with_reducible (first|refine zA fun Kn hK=>?_|refine zU ?_|refine Nx.go ?_|go_step)|with_reducible (first|refine zI ?_|refine zV ?_)|simp (maxSteps:=9^9) (disch:=omega) only [wq]|with_reducible refine zM (fun hb=>?_) (fun hb=>?_)<;>try simp only [hb]|with_reducible refine And.intro (by first|omega|(simp;done)|(simp;omega)) ?_|simp (maxSteps:=9^9) -implicitDefEqProofs only [go_sem,true_and]))
 refine sound_loopR (fun x:{m:Nat // m≤n}=>⟨[(0,vD (.sl n (b.map bD))),(3,vI (numV (b.take x.1))),(6,vD (.sl n (b.map bD))),(7,vI n),(8,vI x.1)],[]⟩) (fun x=>n-x.1) ⟨0,by omega⟩ [] (by (iterate 2 ((try simp (maxSteps:=9^9) -implicitDefEqProofs only [go_sem,true_and]);(try simp (maxSteps:=9^9) (disch:=omega) only [wq])));try simp [numV]) (fun ⟨m,hm⟩=>?_)
 by_cases h:m<n
 ·have h1:decide ((m:Int)<(n:Int))=true:=decide_eq_true (by omega)
  obtain ⟨x,hx⟩: ∃ x,b[m]?=some x:=⟨_,List.getElem?_eq_getElem (by omega)⟩
  have hg:(b.map bD)[m]?=some (bD x):=by rw [List.getElem?_map,hx];rfl
  have hd:48≤x.toNat∧x.toNat≤57:=of_decide_eq_true (hb x (List.mem_of_getElem? hx))
  have hv:=numV_take hx
  have hlt:=numV_lt (b.take (m+1)) (fun c hc=>hb c (List.mem_of_mem_take hc))
  have hp:10^(b.take (m+1)).length≤10^9:=Nat.pow_le_pow_right (by omega) (by rw [List.length_take];omega)
  have hs:numV (b.take (m+1))<1000000000:=Nat.lt_of_lt_of_le hlt hp
  (repeat' (first|with_reducible (first|refine zA fun Kn hK=>?_|refine zU ?_|refine Nx.go ?_|go_step)|with_reducible (first|refine zI ?_|refine zV ?_)|simp (maxSteps:=9^9) (disch:=omega) only [wq]|with_reducible refine zM (fun hb=>?_) (fun hb=>?_)<;>try simp only [hb]|with_reducible refine And.intro (by first|omega|(simp;done)|(simp;omega)) ?_|simp (maxSteps:=9^9) -implicitDefEqProofs only [go_sem,h1,hg,bD,List.length_map,lb]))
  refine ⟨[],⟨m+1,by omega⟩,?_⟩
  (iterate 2 ((try simp (maxSteps:=9^9) -implicitDefEqProofs only [go_sem,true_and,hv]);(try simp (maxSteps:=9^9) (disch:=omega) only [wq])))
  try (simp only [ijq,true_and,and_true];first|done|omega|(split<;>omega)|(simp;done)|(simp;omega))
  try omega
 ·have h1:decide ((m:Int)<(n:Int))=false:=decide_eq_false (by omega)
  have e:b.take m=b:=List.take_of_length_le (by omega)
  (repeat' (first|with_reducible (first|refine zA fun Kn hK=>?_|refine zU ?_|refine Nx.go ?_|go_step)|with_reducible (first|refine zI ?_|refine zV ?_)|simp (maxSteps:=9^9) (disch:=omega) only [wq]|with_reducible refine zM (fun hb=>?_) (fun hb=>?_)<;>try simp only [hb]|with_reducible refine And.intro (by first|omega|(simp;done)|(simp;omega)) ?_|simp (maxSteps:=9^9) -implicitDefEqProofs only [go_sem,h1,e]))
end
def fitB (c f:UInt8):Bool:=if f.toNat=48 then isDg c else decide (c.toNat=f.toNat)
def fitsB:List UInt8→List UInt8→Bool
 | [],[]=>true
 | c::l,f::m=>fitB c f&&fitsB l m
 | _,_=>false
theorem fitsB_len: ∀ {l m:List UInt8},fitsB l m=true→l.length=m.length
 | [],[],_=>rfl
 | c::l,f::m,h=>by
  rw [fitsB,Bool.and_eq_true] at h
  simp [fitsB_len h.2]
 | [],_::_,h=>by simp [fitsB] at h
 | _::_,[],h=>by simp [fitsB] at h
theorem fitsB_step {l m:List UInt8} {k:Nat} {x y:UInt8} (hx:l[k]?=some x) (hy:m[k]?=some y):fitsB (l.drop k) (m.drop k)=(fitB x y&&fitsB (l.drop (k+1)) (m.drop (k+1))):=by
 obtain ⟨h1,h2⟩:=List.getElem?_eq_some_iff.1 hx
 obtain ⟨h3,h4⟩:=List.getElem?_eq_some_iff.1 hy
 rw [List.drop_eq_getElem_cons h1,List.drop_eq_getElem_cons h3,h2,h4,fitsB]
theorem iterPos_w {w:World} {k:Nat} {s:ByteArray} {p:Nat} (h:w.heap[k]?=some (.stringIter s p)):w.iterPos k=p:=by simp [World.iterPos,h]
theorem fits_m {G:Nat→Option (List D)} (b f:List UInt8) (hn:b.length≤1000000000) (hf:f.length≤1000000) (ha: ∀ x∈f,x.toNat<128):Spec Tryz.prog G 138 [.c (bytesD b),.c (.v (.string ⟨f.toArray⟩))] (.one (.c (.v (.bool (fitsB b f))))):=by
 intro w S vs hS hT hA
 obtain ⟨hl,hc⟩:=hA
 match vs,hl with
 | [u, v], _ =>
  obtain ⟨A,c,rfl,hs⟩:=bytes_sl (hc 0 _ _ rfl rfl) rfl
  have hv:=hc 1 _ _ rfl rfl
  cases hv
  rename_i hv
  have hsz:(⟨f.toArray⟩:ByteArray).size=f.length:=str_size f
  have hget: ∀ k (h:k<(⟨f.toArray⟩:ByteArray).size),f[k]?=some ((⟨f.toArray⟩:ByteArray)[k]'h):=fun k h=>by
   rw [hsz] at h
   rw [List.getElem?_eq_getElem h]
   rfl
  have HSB:=Lib.hid hS
  have HF:=Lib.hid ha
  have HG:=Lib.hid hget
  have HSZ:=Lib.hid hsz
  obtain ⟨n,hbl⟩: ∃ n,n=b.length:=⟨_,rfl⟩
  rw [← hbl] at hs hn ⊢
  have HL:=Lib.hid hbl
  rw [← hsz] at hf
  clear hc hT hS ha hget hbl hsz
  generalize (⟨f.toArray⟩:ByteArray)=s at *
  by_cases hnm:n=s.size
  ·subst hnm
   have hb0:Below w.heap.size w (w.iter s 0):=(Below.refl _ w).alloc (Nat.le_refl _) _
   go_enter Tryz.func138,Tryz.ntmps138
   go_wp2
   go_loopw [5] (fun _ wr=> ∃ pos:Nat,pos≤s.size∧wr.heap[w.heap.size]?=some (.stringIter s pos)∧Below w.heap.size w wr∧Hid (fitsB b f=fitsB (b.drop pos) (f.drop pos))) (fun _ wr=>s.size-wr.iterPos w.heap.size)
   case atStart=>exact ⟨0,Nat.zero_le _,World.iter_heap w s 0,hb0,rfl⟩
   case round =>
    obtain ⟨pos,hps,hk,hB,HP⟩:=hrel
    have hpos:=iterPos_w hk
    by_cases hp:pos<s.size
    ·have hg:=HG.out pos hp
     have h128:=HF.out _ (List.mem_of_getElem? hg)
     have hnext: ∀ ty,(Instr.next (.pointer (some ⟨w.heap.size,0,none⟩)) true ty).run Tryz.prog wr=_:=fun ty=>Lib.run_next_ascii_at wr w.heap.size s pos ty hk hp h128
     have hk1:=Lib.iterAt_heap wr w.heap.size s pos (pos+1) hk
     have hB1:Below w.heap.size w (wr.iterAt w.heap.size s (pos+1)):=Lib.below_iterAt hB (by omega) s (pos+1)
     generalize wr.iterAt w.heap.size s (pos+1)=w1 at *
     obtain ⟨bb,o,x,es,rfl,hbb,hx,hes,hcc⟩:=Rep.sl_at (slKeepM hs hB1 HSB.out) hp
     obtain rfl:es=[.int .u8 (x.toNat:Int)]:=hes
     have hc0:=hcc 0 _ rfl
     have e1:Rep.u8.size=1:=rfl
     rw [e1,Nat.mul_one,Nat.add_zero] at hc0
     have hst:=fitsB_step hx hg
     have HX:=Lib.hid hst
     have hxl:=UInt8.toNat_lt x
     generalize hy:s[pos]=y at *
     have HT:Hid (fitB x y=if y.toNat=48 then isDg x else decide (x.toNat=y.toNat)):=rfl
     have HI:Hid (isDg x=decide (48≤x.toNat∧x.toNat≤57)):=rfl
     clear hg hx hst hcc
     go_wp2
     all_goals try simp only [Bool.not_eq_true',beq_eq_false_iff_ne,beq_iff_eq,ne_eq,Bool.not_eq_eq_eq_not,Bool.not_true,Bool.not_false,decide_eq_true_eq,decide_eq_false_iff_not,bne_iff_ne] at *
     all_goals first
      | (have hft:fitB x y=true:=by
           rw [HT.out]
           split
           ·rw [HI.out]
            exact decide_eq_true (by omega)
           ·exact decide_eq_true (by omega)
         refine ⟨⟨pos+1,by omega,hk1,hB1,?_⟩,?_⟩
         ·show _=_
          rw [HP.out,HX.out,hft,Bool.true_and]
         ·rw [iterPos_w hk1,hpos]
          omega)
      | (have hft:fitB x y=false:=by
           rw [HT.out]
           split
           ·rw [HI.out]
            exact decide_eq_false (by omega)
           ·exact decide_eq_false (by omega)
         have e:fitsB b f=false:=by rw [HP.out,HX.out,hft,Bool.false_and]
         go_ret
         exact ⟨⟨hB1.os,hB1.tape,hB1.output,hB1.size,fun k hk _=>hB1.block k hk⟩,.bool false,rfl,by show RD _ _ (.v (.bool (fitsB b f))) _;rw [e];exact .v _ rfl⟩)
    ·have hnext: ∀ ty,(Instr.next (.pointer (some ⟨w.heap.size,0,none⟩)) true ty).run Tryz.prog wr=_:=fun ty=>Lib.run_next_end_at wr w.heap.size s pos ty hk hp
     have e:fitsB b f=true:=by
      rw [HP.out,List.drop_of_length_le (by have:=HL.out;omega),List.drop_of_length_le (by have:=HSZ.out;omega)]
      rfl
     go_wp2
     go_ret
     exact ⟨⟨hB.os,hB.tape,hB.output,hB.size,fun k hk _=>hB.block k hk⟩,.bool true,rfl,by show RD _ _ (.v (.bool (fitsB b f))) _;rw [e];exact .v _ rfl⟩
  ·have e:fitsB b f=false:=by
    cases h:fitsB b f with
    | false=>rfl
    | true =>
     have:=fitsB_len h
     have:=HL.out
     have:=HSZ.out
     omega
   rw [e]
   have hz:((n:Int)==(s.size:Int))=false:=by rw [beq_eq_false_iff_ne];omega
   go_enter Tryz.func138,Tryz.ntmps138
   go_wp2
   go_ret
   exact ⟨Ev.refl _ _,.bool false,rfl,RD.v (.bool false) rfl⟩
def resO (o:Option Nat):DR:= .many [iD (o.getD 0),.c (.v (.bool o.isSome))]
section
variable {G:Nat→Option (List D)}
end
def clk3 (h m s:Nat):Option Nat:=if 23<h∨59<m∨59<s then none else some (3600*h+60*m+s)
section
variable {G:Nat→Option (List D)}
end
def sumY (a:Nat):Nat→Nat
 | 0=>0
 | j+1=>sumY a j+337+daysN (a+j) 2
theorem daysN_le (y m:Nat):daysN y m≤31:=by
 unfold daysN
 repeat' split
 all_goals omega
def sumD (y:Nat):Nat→Nat
 | 0=>0
 | j+1=>sumD y j+daysN y (j+1)
theorem sumD_le (y j:Nat):sumD y j≤31*j:=by
 induction j with
 | zero=>exact Nat.le_refl _
 | succ j ih =>
  have:=daysN_le y (j+1)
  rw [sumD]
  omega
def dayO (A y m d t:Nat):Option Nat:=if m<1∨12<m∨d<1∨daysN y m<d then none else some ((A+(d-1)+sumD y (m-1))*86400+t)
section
variable {G:Nat→Option (List D)}
end
def clkF:List UInt8:=[48,48,58,48,48,58,48,48]
def datF:List UInt8:=[48,48,48,48,45,48,48,45,48,48,95,48,48,58,48,48,58,48,48]
def clockP (b:List UInt8):Option Nat:=if fitsB b clkF=true then clk3 (numV (b.take 2)) (numV ((b.drop 3).take 2)) (numV (b.drop 6)) else none
theorem fits_at: ∀ {l m:List UInt8},fitsB l m=true→ ∀ (k:Nat) x y,l[k]?=some x→m[k]?=some y→fitB x y=true
 | [],_,_,k,x,y,hx,_=>by simp at hx
 | _::_,[],h,_,_,_,_,_=>by simp [fitsB] at h
 | c::l,f::m,h,0,x,y,hx,hy=>by
  rw [fitsB,Bool.and_eq_true] at h
  simp at hx hy
  rw [← hx,← hy]
  exact h.1
 | c::l,f::m,h,k+1,x,y,hx,hy=>by
  rw [fitsB,Bool.and_eq_true] at h
  exact fits_at h.2 k x y (by simpa using hx) (by simpa using hy)
theorem fits_dg {l m:List UInt8} (h:fitsB l m=true) {i j:Nat} (hm: ∀ k,i≤k→k<i+j→m[k]?=some 48): ∀ c∈(l.drop i).take j,isDg c=true:=by
 intro c hc
 obtain ⟨k,hk⟩:=List.getElem?_of_mem hc
 have hkj:k<j:=by
  have:=(List.getElem?_eq_some_iff.1 hk).1
  rw [List.length_take] at this
  omega
 rw [List.getElem?_take_of_lt hkj,List.getElem?_drop] at hk
 have:=fits_at h (i+k) c 48 hk (hm _ (by omega) (by omega))
 exact this
section
variable {G:Nat→Option (List D)}
theorem clock_m (b:List UInt8) (n:Nat) (lb:b.length=n) (hn:n≤1000000000):Spec Tryz.prog G 139 [.c (.sl n (b.map bD))] (resO (clockP b)):=by
 have hF:=fits_m (G:=G) b clkF (by omega) (by decide) (by decide)
 have hstr:ByteArray.extract ⟨#[48,48,48,48,45,48,48,45,48,48,95,48,48,58,48,48,58,48,48]⟩ 11 19=⟨clkF.toArray⟩:=by decide +kernel
 rw [bytesD,lb] at hF
 cases h:fitsB b clkF with
 | false =>
  have e:clockP b=none:=by rw [clockP,if_neg (by rw [h];decide)]
  rw [h] at hF
  rw [e]
  unfold resO iD
  refine spec_of Tryz.func139 rfl rfl rfl (by kernel_rfl) rfl fun K=>?_
  (repeat' (first|with_reducible (first|refine zA fun Kn hK=>?_|refine zU ?_|refine Nx.go ?_|go_step)|refine ⟨_,hF,?_⟩|with_reducible (first|refine zI ?_|refine zV ?_)|simp (maxSteps:=9^9) (disch:=omega) only [wq]|with_reducible refine zM (fun hb=>?_) (fun hb=>?_)<;>try simp only [hb]|with_reducible refine And.intro (by first|omega|(simp;done)|(simp;omega)) ?_|simp (maxSteps:=9^9) -implicitDefEqProofs only [go_sem,hstr,List.length_map,lb]))
  try rfl
 | true =>
  have e:clockP b=clk3 (numV (b.take 2)) (numV ((b.drop 3).take 2)) (numV (b.drop 6)):=by rw [clockP,if_pos h]
  have h8:n=8:=by rw [← lb];exact fitsB_len h
  have s6:(b.drop 6).take 2=b.drop 6:=List.take_of_length_le (by rw [List.length_drop];omega)
  have d0:=fits_dg h (i:=0) (j:=2) (by intro k a c;match k,a,c with|0,_,_=>rfl|1,_,_=>rfl)
  have d3:=fits_dg h (i:=3) (j:=2) (by intro k a c;match k,a,c with|3,_,_=>rfl|4,_,_=>rfl)
  have d6:=fits_dg h (i:=6) (j:=2) (by intro k a c;match k,a,c with|6,_,_=>rfl|7,_,_=>rfl)
  rw [s6] at d6
  rw [List.drop_zero] at d0
  have T0:=digits_m (G:=G) (b.take 2) 2 (by rw [List.length_take];omega) (by omega) d0
  have T3:=digits_m (G:=G) ((b.drop 3).take 2) 2 (by rw [List.length_take,List.length_drop];omega) (by omega) d3
  have T6:=digits_m (G:=G) (b.drop 6) 2 (by rw [List.length_drop];omega) (by omega) d6
  have v0:=numV_lt _ d0
  have v3:=numV_lt _ d3
  have v6:=numV_lt _ d6
  rw [show (b.take 2).length=2 by rw [List.length_take];omega] at v0
  rw [show ((b.drop 3).take 2).length=2 by rw [List.length_take,List.length_drop];omega] at v3
  rw [show (b.drop 6).length=2 by rw [List.length_drop];omega] at v6
  have r0:(b.map bD).take 2=(b.take 2).map bD:=List.map_take.symm
  have r3:((b.map bD).drop 3).take 2=((b.drop 3).take 2).map bD:=by rw [List.map_take,List.map_drop]
  have r6:((b.map bD).drop 6).take (n-6)=(b.drop 6).map bD:=by rw [List.map_drop];exact List.take_of_length_le (by rw [List.length_drop,List.length_map];omega)
  have n6:n-6=2:=by omega
  rw [n6] at r6
  rw [h] at hF
  rw [e]
  generalize (b.take 2).map bD=L0 at *
  generalize ((b.drop 3).take 2).map bD=L3 at *
  generalize (b.drop 6).map bD=L6 at *
  generalize numV (b.take 2)=x at *
  generalize numV ((b.drop 3).take 2)=y at *
  generalize numV (b.drop 6)=z at *
  have f1:decide ((x:Int)>23)=decide (23<x):=by rw [decide_eq_decide];omega
  have f2:decide ((y:Int)>59)=decide (59<y):=by rw [decide_eq_decide];omega
  have f3:decide ((z:Int)>59)=decide (59<z):=by rw [decide_eq_decide];omega
  have m1:(x:Int)*3600=3600*(x:Int):=Int.mul_comm _ _
  have m2:(y:Int)*60=60*(y:Int):=Int.mul_comm _ _
  unfold resO iD clk3 at *
  by_cases q:23<x∨59<y∨59<z
  ·rw [if_pos q]
   generalize hq1:decide (23<x)=q1 at *
   generalize hq2:decide (59<y)=q2 at *
   generalize hq3:decide (59<z)=q3 at *
   refine spec_of Tryz.func139 rfl rfl rfl (by kernel_rfl) rfl fun K=>?_
   (repeat' (first|with_reducible (first|refine zA fun Kn hK=>?_|refine zU ?_|refine Nx.go ?_|go_step)|refine ⟨_,hF,?_⟩|refine ⟨_,T0,?_⟩|refine ⟨_,T3,?_⟩|refine ⟨_,T6,?_⟩|with_reducible (first|refine zI ?_|refine zV ?_)|simp (maxSteps:=9^9) (disch:=omega) only [wq]|with_reducible refine zM (fun hb=>?_) (fun hb=>?_)<;>try simp only [hb]|with_reducible refine And.intro (by first|omega|(simp;done)|(simp;omega)) ?_|simp (maxSteps:=9^9) -implicitDefEqProofs only [go_sem,hstr,r0,r3,r6,n6,f1,f2,f3,List.length_map,lb]))
   all_goals first
    | rfl
    | (exfalso;simp_all;omega)
  ·rw [if_neg q]
   rw [decide_eq_false (show ¬ 23<x by omega)] at f1
   rw [decide_eq_false (show ¬ 59<y by omega)] at f2
   rw [decide_eq_false (show ¬ 59<z by omega)] at f3
   refine spec_of Tryz.func139 rfl rfl rfl (by kernel_rfl) rfl fun K=>?_
   (repeat' (first|with_reducible (first|refine zA fun Kn hK=>?_|refine zU ?_|refine Nx.go ?_|go_step)|refine ⟨_,hF,?_⟩|refine ⟨_,T0,?_⟩|refine ⟨_,T3,?_⟩|refine ⟨_,T6,?_⟩|with_reducible (first|refine zI ?_|refine zV ?_)|simp (maxSteps:=9^9) (disch:=omega) only [wq]|with_reducible refine zM (fun hb=>?_) (fun hb=>?_)<;>try simp only [hb]|with_reducible refine And.intro (by first|omega|(simp;done)|(simp;omega)) ?_|simp (maxSteps:=9^9) -implicitDefEqProofs only [go_sem,hstr,r0,r3,r6,n6,f1,f2,f3,m1,m2,List.length_map,lb]))
   try rfl
end
def dateP (b:List UInt8):Option Nat:=
 if fitsB b datF=true then (match clockP (b.drop 11) with
  | some t=>dayO (aheadN (numV (b.take 4))) (numV (b.take 4)) (numV ((b.drop 5).take 2)) (numV ((b.drop 8).take 2)) t
  | none=>none)
 else none
theorem clockP_lt {b:List UInt8} {v:Nat} (h:clockP b=some v):v<90000:=by
 unfold clockP clk3 at h
 split at h
 ·split at h
  ·cases h
  ·injection h with h
   omega
 ·cases h
theorem aheadN_le (y:Nat) (hy:y≤9999):aheadN y≤4000000:=by
 unfold aheadN
 split<;>omega
section
variable {G:Nat→Option (List D)}
theorem date_m (b:List UInt8) (n:Nat) (lb:b.length=n) (hn:n≤1000000000):Spec Tryz.prog G 120 [.c (.sl n (b.map bD))] (resO (dateP b)):=by
 have hF:=fits_m (G:=G) b datF (by omega) (by decide) (by decide)
 have hstr:datF.toArray= #[48,48,48,48,45,48,48,45,48,48,95,48,48,58,48,48,58,48,48]:=rfl
 rw [bytesD,lb,hstr] at hF
 cases h:fitsB b datF with
 | false =>
  have e:dateP b=none:=by rw [dateP,if_neg (by rw [h];decide)]
  rw [h] at hF
  rw [e]
  unfold resO iD
  refine spec_of Tryz.func120 rfl rfl rfl (by kernel_rfl) rfl fun K=>?_
  (repeat' (first|with_reducible (first|refine zA fun Kn hK=>?_|refine zU ?_|refine Nx.go ?_|go_step)|refine ⟨_,hF,?_⟩|with_reducible (first|refine zI ?_|refine zV ?_)|simp (maxSteps:=9^9) (disch:=omega) only [wq]|with_reducible refine zM (fun hb=>?_) (fun hb=>?_)<;>try simp only [hb]|with_reducible refine And.intro (by first|omega|(simp;done)|(simp;omega)) ?_|simp (maxSteps:=9^9) -implicitDefEqProofs only [go_sem,List.length_map,lb]))
  try rfl
 | true =>
  have h19:n=19:=by rw [← lb];exact fitsB_len h
  have d0:=fits_dg h (i:=0) (j:=4) (by intro k a c;match k,a,c with|0,_,_=>rfl|1,_,_=>rfl|2,_,_=>rfl|3,_,_=>rfl)
  have d5:=fits_dg h (i:=5) (j:=2) (by intro k a c;match k,a,c with|5,_,_=>rfl|6,_,_=>rfl)
  have d8:=fits_dg h (i:=8) (j:=2) (by intro k a c;match k,a,c with|8,_,_=>rfl|9,_,_=>rfl)
  rw [List.drop_zero] at d0
  have TC:=clock_m (G:=G) (b.drop 11) (n-11) (by rw [List.length_drop,lb]) (by omega)
  have T0:=digits_m (G:=G) (b.take 4) 4 (by rw [List.length_take];omega) (by omega) d0
  have T5:=digits_m (G:=G) ((b.drop 5).take 2) 2 (by rw [List.length_take,List.length_drop];omega) (by omega) d5
  have T8:=digits_m (G:=G) ((b.drop 8).take 2) 2 (by rw [List.length_take,List.length_drop];omega) (by omega) d8
  have v0:=numV_lt _ d0
  have v5:=numV_lt _ d5
  have v8:=numV_lt _ d8
  rw [show (b.take 4).length=4 by rw [List.length_take];omega] at v0
  rw [show ((b.drop 5).take 2).length=2 by rw [List.length_take,List.length_drop];omega] at v5
  rw [show ((b.drop 8).take 2).length=2 by rw [List.length_take,List.length_drop];omega] at v8
  have r0:(b.map bD).take 4=(b.take 4).map bD:=List.map_take.symm
  have r5:((b.map bD).drop 5).take 2=((b.drop 5).take 2).map bD:=by rw [List.map_take,List.map_drop]
  have r8:((b.map bD).drop 8).take 2=((b.drop 8).take 2).map bD:=by rw [List.map_take,List.map_drop]
  have rc:((b.map bD).drop 11).take (n-11)=(b.drop 11).map bD:=by rw [List.map_drop];exact List.take_of_length_le (by rw [List.length_drop,List.length_map];omega)
  rw [dateP,if_pos h]
  rw [h] at hF
  have lc:= @clockP_lt (b.drop 11)
  generalize clockP (b.drop 11)=oc at *
  generalize (b.take 4).map bD=L0 at *
  generalize ((b.drop 5).take 2).map bD=L5 at *
  generalize ((b.drop 8).take 2).map bD=L8 at *
  generalize (b.drop 11).map bD=LC at *
  generalize numV (b.take 4)=y at *
  generalize numV ((b.drop 5).take 2)=m at *
  generalize numV ((b.drop 8).take 2)=d at *
  unfold resO iD at *
  rcases oc with _|t
  ·refine spec_of Tryz.func120 rfl rfl rfl (by kernel_rfl) rfl fun K=>?_
   (repeat' (first|with_reducible (first|refine zA fun Kn hK=>?_|refine zU ?_|refine Nx.go ?_|go_step)|refine ⟨_,hF,?_⟩|refine ⟨_,TC,?_⟩|refine ⟨_,T0,?_⟩|refine ⟨_,T5,?_⟩|refine ⟨_,T8,?_⟩|with_reducible (first|refine zI ?_|refine zV ?_)|simp (maxSteps:=9^9) (disch:=omega) only [wq]|with_reducible refine zM (fun hb=>?_) (fun hb=>?_)<;>try simp only [hb]|with_reducible refine And.intro (by first|omega|(simp;done)|(simp;omega)) ?_|simp (maxSteps:=9^9) -implicitDefEqProofs only [go_sem,r0,r5,r8,rc,List.length_map,lb]))
   try rfl
  ·have kc:=lc rfl
   simp only [Option.getD_some,Option.isSome_some] at TC
   dsimp only
   have hyl:y≤9999:=by omega
   have f1:decide ((m:Int)<1)=decide (m<1):=by rw [decide_eq_decide];omega
   have f2:decide ((m:Int)>12)=decide (12<m):=by rw [decide_eq_decide];omega
   have f3:decide ((d:Int)<1)=decide (d<1):=by rw [decide_eq_decide];omega
   have f4:decide ((d:Int)>(daysN y m:Int))=decide (daysN y m<d):=by rw [decide_eq_decide];omega
   have DD:=days_m (G:=G) y m
   have hD:=daysN_le y m
   unfold iD at DD
   by_cases q:m<1∨12<m∨d<1∨daysN y m<d
   ·rw [dayO,if_pos q]
    generalize hq1:decide (m<1)=q1 at *
    generalize hq2:decide (12<m)=q2 at *
    generalize hq3:decide (d<1)=q3 at *
    generalize hq4:decide (daysN y m<d)=q4 at *
    refine spec_of Tryz.func120 rfl rfl rfl (by kernel_rfl) rfl fun K=>?_
    (repeat' (first|with_reducible (first|refine zA fun Kn hK=>?_|refine zU ?_|refine Nx.go ?_|go_step)|refine ⟨_,hF,?_⟩|refine ⟨_,TC,?_⟩|refine ⟨_,T0,?_⟩|refine ⟨_,T5,?_⟩|refine ⟨_,T8,?_⟩|refine ⟨_,DD,?_⟩|with_reducible (first|refine zI ?_|refine zV ?_)|simp (maxSteps:=9^9) (disch:=omega) only [wq]|with_reducible refine zM (fun hb=>?_) (fun hb=>?_)<;>try simp only [hb]|with_reducible refine And.intro (by first|omega|(simp;done)|(simp;omega)) ?_|simp (maxSteps:=9^9) -implicitDefEqProofs only [go_sem,r0,r5,r8,rc,f1,f2,f3,f4,List.length_map,lb]))
    all_goals first
     | rfl
     | (exfalso;simp_all;omega)
   ·rw [dayO,if_neg q]
    rw [decide_eq_false (show ¬ m<1 by omega)] at f1
    rw [decide_eq_false (show ¬ 12<m by omega)] at f2
    rw [decide_eq_false (show ¬ d<1 by omega)] at f3
    rw [decide_eq_false (show ¬ daysN y m<d by omega)] at f4
    have AH:=ahead_m (G:=G) y (by omega)
    have hA:=aheadN_le y (by omega)
    unfold iD at AH
    generalize aheadN y=A at *
    refine spec_of Tryz.func120 rfl rfl rfl (by kernel_rfl) rfl fun K=>?_
    (repeat' (first|with_reducible (first|refine zA fun Kn hK=>?_|refine zU ?_|refine Nx.go ?_|go_step)|refine ⟨_,hF,?_⟩|refine ⟨_,TC,?_⟩|refine ⟨_,T0,?_⟩|refine ⟨_,T5,?_⟩|refine ⟨_,T8,?_⟩|refine ⟨_,DD,?_⟩|refine ⟨_,AH,?_⟩|with_reducible (first|refine zI ?_|refine zV ?_)|simp (maxSteps:=9^9) (disch:=omega) only [wq]|with_reducible refine zM (fun hb=>?_) (fun hb=>?_)<;>try simp only [hb]|with_reducible refine And.intro (by first|omega|(simp;done)|(simp;omega)) ?_|simp (maxSteps:=9^9) -implicitDefEqProofs only [go_sem,r0,r5,r8,rc,f1,f2,f3,f4,List.length_map,lb]))
    refine sound_loopR (fun x:{j:Nat // j<m}=>⟨[(4,vI t),(6,vI y),(7,vI m),(9,vI ((A+(d-1)+sumD y x.1:Nat):Int)),(10,vI ((x.1+1:Nat):Int))],[]⟩) (fun x=>m-x.1) ⟨0,by omega⟩ [] (by (iterate 2 ((try simp (maxSteps:=9^9) -implicitDefEqProofs only [go_sem,true_and]);(try simp (maxSteps:=9^9) (disch:=omega) only [wq])));try simp [sumD];try omega) (fun ⟨j,hj⟩=>?_)
    have hs:=sumD_le y j
    by_cases h:j+1<m
    ·have h1:decide (((j+1:Nat):Int)<(m:Int))=true:=decide_eq_true (by omega)
     have hd:=daysN_le y (j+1)
     have D2:=days_m (G:=G) y (j+1)
     unfold iD at D2
     (repeat' (first|with_reducible (first|refine zA fun Kn hK=>?_|refine zU ?_|refine Nx.go ?_|go_step)|refine ⟨_,D2,?_⟩|with_reducible (first|refine zI ?_|refine zV ?_)|simp (maxSteps:=9^9) (disch:=omega) only [wq]|with_reducible refine zM (fun hb=>?_) (fun hb=>?_)<;>try simp only [hb]|with_reducible refine And.intro (by first|omega|(simp;done)|(simp;omega)) ?_|simp (maxSteps:=9^9) -implicitDefEqProofs only [go_sem,h1]))
     refine ⟨[],⟨j+1,by omega⟩,?_⟩
     (iterate 2 ((try simp (maxSteps:=9^9) -implicitDefEqProofs only [go_sem,true_and,sumD]);(try simp (maxSteps:=9^9) (disch:=omega) only [wq])))
     try (simp only [ijq,true_and,and_true];first|done|omega|(split<;>omega)|(simp;done)|(simp;omega))
     try omega
    ·have h1:decide (((j+1:Nat):Int)<(m:Int))=false:=decide_eq_false (by omega)
     obtain rfl:m=j+1:=by omega
     (repeat' (first|with_reducible (first|refine zA fun Kn hK=>?_|refine zU ?_|refine Nx.go ?_|go_step)|with_reducible (first|refine zI ?_|refine zV ?_)|simp (maxSteps:=9^9) (disch:=omega) only [wq]|with_reducible refine zM (fun hb=>?_) (fun hb=>?_)<;>try simp only [hb]|with_reducible refine And.intro (by first|omega|(simp;done)|(simp;omega)) ?_|simp (maxSteps:=9^9) -implicitDefEqProofs only [go_sem,h1]))
     try rfl
end
end Go.Proofs.YtfammdfpgccnfaaGreatDoor
namespace Go.Proofs.YtfammdfpgccnfaaGreatDoor
theorem fitB_dg (c:UInt8):fitB c 48=isDg c:=rfl
theorem fitB_at (c:UInt8) (k:UInt8) (h: ¬ k.toNat=48):fitB c k=decide (c=k):=by
 rw [fitB,if_neg h,decide_eq_decide,UInt8.toNat_inj]
end Go.Proofs.YtfammdfpgccnfaaGreatDoor
