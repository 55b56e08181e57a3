/- AclFront: of a list of trust that is put the first entries alone are put, too, as the value's first parts: for all arguments whose parts come to at most 1048576 values and letters. -/
import Derived.Test.YtfammdfpgccnfaaGreatDoorG9
set_option linter.unusedVariables false
set_option linter.unusedSimpArgs false
set_option maxRecDepth 100000
set_option maxHeartbeats 8000000
namespace Go.Proofs.YtfammdfpgccnfaaGreatDoor
open Go.ChangeShapes Go.WideShapes Go.ChangeAt Go.RowKit
set_option maxRecDepth 100000 in
theorem contractAclFront (H:Type) (enc:TypeId × Value→H) (W:World) (base:Nat) (args:Array Value) (ds gs:List (DataW H)) (before:List MemPlace)
    (hval: ∀ (j:Nat) t v,Tryz.f7.params[j]?=some t→args[j]?=some v→Value.okWide Tryz.prog W .any base t v)
    (hW:DataW.Whole enc Tryz.prog Tryz.f7.params.toList Rows.aclFrontSpec.vars false W args.toList ds gs before) (hL:laidMetH Tryz.prog laid3 W) (hk:Rows.uptoSmall H (ds++gs)=true) :
    Calls Tryz.prog 7 args W fun e W'=> ∃ v,e= .returned v∧Rows.aclFrontSpec.post enc Tryz.prog Tryz.f7 false true false false W args v W':=by
  have hW':=hW
  obtain ⟨p,q,hA0,hV,rfl,hfz,hnd⟩:=hW
  have hA:DataW.TrodAll enc Tryz.prog W 0 (fun _=>true) true Tryz.f7.params.toList args.toList ds p:=hA0
  rw [Tryz.params7] at hA hval
  obtain ⟨v0,vs0,d0,ds0,p0,q0,hargs,rfl,rfl,h0,r0⟩:=trodAll_cons hA
  obtain ⟨v1,vs1,d1,ds1,p1,q1,rfl,rfl,rfl,h1,r1⟩:=trodAll_cons r0
  obtain ⟨rfl,rfl,rfl⟩:=trodAll_nil r1
  obtain rfl:args= #[v0,v1]:=by cases args;simp_all
  obtain ⟨rfl,rfl⟩:=trodVars_none hV
  clear hA0
  have hb:=bulk_le hk
  simp only [List.append_nil,List.cons_append,List.nil_append,Rows.uptoBulkAll] at hb
  obtain ⟨A0,n0,c0,rfl⟩:=okWide_slice Tryz.underlying50 (hval 0 _ v0 rfl rfl)
  have k0:=h0
  have lt0: ∀ x∈p0,x.block<W.heap.size:=by obtain ⟨m,hm⟩:=k0;exact DataW.trod_lt m _ _ _ hm
  obtain ⟨m0,hm0⟩:=h0
  obtain ⟨y0,⟨B0,b0,e0,eq0,ha0⟩,hw0⟩:=opens_ensw m0 _ _ _ _ _ _ _ hm0
  have eq0:[Value.slice A0 n0 c0]=[.slice B0 b0 e0]:=eq0
  simp only [List.cons.injEq,Value.slice.injEq,and_true] at eq0
  obtain ⟨rfl,rfl,rfl⟩:=eq0
  (try dsimp only at hw0)
  obtain ⟨z1,rfl⟩:=okWide_int Tryz.underlying5 (hval 1 _ v1 rfl rfl)
  have k1:=h1
  have lt1: ∀ x∈p1,x.block<W.heap.size:=by obtain ⟨m,hm⟩:=k1;exact DataW.trod_lt m _ _ _ hm
  obtain ⟨m1,hm1⟩:=h1
  obtain ⟨y1,ha1⟩:=open_u8 Tryz.underlying5 hm1
  have ha1:[Value.int .u8 z1]=[u8V y1]:=ha1
  have hz1:z1=(y1.toNat:Int):=by simpa [u8V] using ha1
  subst hz1
  refine (law_calls (aclfront_m tabG_pow y0 y1 (by omega)) (tables_of_laid hL) (dargs_cons (rd_slice enC_len (fun _ hr=>cellsOf_en hr) ha0) (dargs_cons (.v _ rfl) dargs_nil))).mono fun e W' ⟨he,bel⟩=>?_
  subst he
  exact ⟨_,rfl,_,_,_,[],_,[],hW',trodAll_mk1 (shut_bool Tryz.underlying4 _),(trodAll_cons_mk (Below.trod laidK (by kernel_rfl) (of_decide_eq_true (by kernel_rfl)) k0 bel lt0) (trodAll_cons_mk (Below.trod laidK (by kernel_rfl) (of_decide_eq_true (by kernel_rfl)) k1 bel lt1) trodAll_mk0)),rfl,bel.frame _,fun h=>by cases h⟩
theorem readsAclFront (os:Os) {H:Type} (enc:TypeId × Value→H): ∃ places,DataW.whole enc Tryz.prog ((laidWorld os).forCall (fun _ _=>0) ⟨#[], #[.slice none 0 0,.int .u8 0],[]⟩).memory Tryz.f7.params.toList Rows.aclFrontSpec.vars false (#[.slice none 0 0,.int .u8 0]:Array Value).toList 8=some ([.nil,.lit (.int .u8 0)],[],places):=
  ⟨[],by kernel_rfl⟩
set_option maxRecDepth 100000 in
theorem liftedAclFront (os:Os) (started:os.Started) (H:Type) (enc:TypeId × Value→H) (F:Stop.Interp) :
    ReturnsInHanded {} Tryz.checked os 7 .any ((Rows.OpenSpec.upto Rows.aclFrontSpec).preRow enc Tryz.prog Tryz.f7 Rows.aclFrontUptoRow.domain false Rows.aclFrontUptoRow.laid) (((Rows.OpenSpec.upto Rows.aclFrontSpec).at F).post enc Tryz.prog Tryz.f7 false true false false):=by
  obtain ⟨places,hx⟩:=readsAclFront os enc
  refine returnsInHanded_of_row (C:=Tryz.checked) (s:=Rows.OpenSpec.upto Rows.aclFrontSpec) ownK started (by kernel_rfl) Tryz.func7
    (witness_row_at (enc:=enc) (C:=Tryz.checked) false (laidWorld os) #[.slice none 0 0,.int .u8 0] rfl (by kernel_rfl) (by kernel_rfl) (by kernel_rfl)
      (OpenSpec.preRow_of_cond 8 hx (by kernel_rfl) (fun k hk=>by cases hk;kernel_rfl) (by kernel_rfl) (laid_met os _))) ?_
  intro W base args ds gs before hval hW _ hcond _ hL _ _
  exact contractAclFront H enc W base args ds gs before hval hW hL (hcond _ rfl)
theorem saidAclFront:Rows.AclFrontUptoSaid:=
  OpenClaim.holds_of_cond 7 Tryz.f7 rfl rfl rfl rfl rfl rfl rfl ⟨rfl,rfl,rfl,rfl,rfl⟩ rfl rfl rfl rfl rfl (by kernel_rfl) Tryz.func7 (by kernel_rfl)
    (of_decide_eq_true (by kernel_rfl)) (by unfold Func.isWrapper;first|(rw [if_pos (by decide +kernel)];kernel_rfl)|(rw [if_neg (by decide +kernel)];exact ⟨rfl,rfl⟩))
    (fun os started H enc _ F=>by rw [OpenClaim.pre_eq_preRow];exact liftedAclFront os started H enc F)
theorem plainAclFront (f : FuncId) (fn : Func) (hf : Tryz.pinned.checked.prog.funcNamed "greffier/greffierlaw20.AclFront" = some f) (hfn : Tryz.pinned.checked.prog.funcs[f]? = some fn) :
    true=Tryz.pinned.checked.prog.looks []∧ ∀ (j:Nat) t,fn.params[j]?=some t→Tryz.pinned.checked.prog.wantsStandIn t=false:=by
  obtain rfl : f = 7 := Option.some.inj ((show Tryz.prog.funcNamed "greffier/greffierlaw20.AclFront" = some 7 by kernel_rfl).symm.trans hf) |>.symm
  obtain rfl:fn=Tryz.f7:=(Option.some.inj (Tryz.func7.symm.trans hfn)).symm
  refine ⟨by kernel_rfl,fun j t ht=>?_⟩
  rw [Tryz.params7] at ht
  have ht:=Array.mem_of_getElem? ht
  simp only [List.mem_toArray,List.mem_cons,List.not_mem_nil,or_false] at ht
  rcases ht with rfl|rfl
  · exact (show Tryz.prog.wantsStandIn 50=false by kernel_rfl)
  · exact (show Tryz.prog.wantsStandIn 5=false by kernel_rfl)
theorem aclfront_card:Rows.AclFrontUptoCardSaid:=
  Claim7.holds_tied_plain_at .later [] _ _ _ _ saidAclFront (fun _ h=>by cases h) (by kernel_rfl) (fun _ h=>by cases h) aclFrontUpto_row_tie rfl ⟨rfl,rfl⟩ (by kernel_rfl) rfl plainAclFront (by kernel_rfl)
#print axioms aclfront_card
end Go.Proofs.YtfammdfpgccnfaaGreatDoor
