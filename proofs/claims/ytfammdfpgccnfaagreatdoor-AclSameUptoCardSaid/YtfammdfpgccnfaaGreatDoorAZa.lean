/- AclSame: whether any two lists of trust are the same is the document's: for all arguments whose parts come to at most 1048576 values and letters. -/
import Derived.Test.YtfammdfpgccnfaaGreatDoorA9
set_option linter.unusedVariables false
set_option linter.unusedSimpArgs false
set_option maxRecDepth 100000
set_option maxHeartbeats 8000000
namespace Go.Proofs.YtfammdfpgccnfaaGreatDoor
open Go.ChangeShapes Go.WideShapes Go.ChangeAt Go.RowKit
set_option maxRecDepth 100000 in
theorem contractAclSame (H:Type) (enc:TypeId × Value→H) (W:World) (base:Nat) (args:Array Value) (ds gs:List (DataW H)) (before:List MemPlace)
    (hval: ∀ (j:Nat) t v,Tryz.f8.params[j]?=some t→args[j]?=some v→Value.okWide Tryz.prog W .any base t v)
    (hW:DataW.Whole enc Tryz.prog Tryz.f8.params.toList Rows.aclSameSpec.vars false W args.toList ds gs before) (hL:laidMetH Tryz.prog laid3 W) (hk:Rows.uptoSmall H (ds++gs)=true) :
    Calls Tryz.prog 8 args W fun e W'=> ∃ v,e= .returned v∧Rows.aclSameSpec.post enc Tryz.prog Tryz.f8 false true false false W args v W':=by
  have hW':=hW
  obtain ⟨p,q,hA0,hV,rfl,hfz,hnd⟩:=hW
  have hA:DataW.TrodAll enc Tryz.prog W 0 (fun _=>true) true Tryz.f8.params.toList args.toList ds p:=hA0
  rw [Tryz.params8] at hA hval
  obtain ⟨v0,vs0,d0,ds0,p0,q0,hargs,rfl,rfl,h0,r0⟩:=trodAll_cons hA
  obtain ⟨v1,vs1,d1,ds1,p1,q1,rfl,rfl,rfl,h1,r1⟩:=trodAll_cons r0
  obtain ⟨rfl,rfl,rfl⟩:=trodAll_nil r1
  obtain rfl:args= #[v0,v1]:=by cases args;simp_all
  obtain ⟨rfl,rfl⟩:=trodVars_none hV
  clear hA0
  have hb:=bulk_le hk
  simp only [List.append_nil,List.cons_append,List.nil_append,Rows.uptoBulkAll] at hb
  obtain ⟨A0,n0,c0,rfl⟩:=okWide_slice Tryz.underlying50 (hval 0 _ v0 rfl rfl)
  have k0:=h0
  have lt0: ∀ x∈p0,x.block<W.heap.size:=by obtain ⟨m,hm⟩:=k0;exact DataW.trod_lt m _ _ _ hm
  obtain ⟨m0,hm0⟩:=h0
  obtain ⟨y0,⟨B0,b0,e0,eq0,ha0⟩,hw0⟩:=opens_ens m0 _ _ _ _ _ _ _ hm0
  have eq0:[Value.slice A0 n0 c0]=[.slice B0 b0 e0]:=eq0
  simp only [List.cons.injEq,Value.slice.injEq,and_true] at eq0
  obtain ⟨rfl,rfl,rfl⟩:=eq0
  (try dsimp only at hw0)
  obtain ⟨A1,n1,c1,rfl⟩:=okWide_slice Tryz.underlying50 (hval 1 _ v1 rfl rfl)
  have k1:=h1
  have lt1: ∀ x∈p1,x.block<W.heap.size:=by obtain ⟨m,hm⟩:=k1;exact DataW.trod_lt m _ _ _ hm
  obtain ⟨m1,hm1⟩:=h1
  obtain ⟨y1,⟨B1,b1,e1,eq1,ha1⟩,hw1⟩:=opens_ens m1 _ _ _ _ _ _ _ hm1
  have eq1:[Value.slice A1 n1 c1]=[.slice B1 b1 e1]:=eq1
  simp only [List.cons.injEq,Value.slice.injEq,and_true] at eq1
  obtain ⟨rfl,rfl,rfl⟩:=eq1
  (try dsimp only at hw1)
  refine (law_calls (aclsame_m tabG_pow y0 y1 (by omega) (by omega)) (tables_of_laid hL) (dargs_cons (rd_slice enC_len (fun _ hr=>cellsOf_en hr) ha0) (dargs_cons (rd_slice enC_len (fun _ hr=>cellsOf_en hr) ha1) dargs_nil))).mono fun e W' ⟨he,bel⟩=>?_
  subst he
  exact ⟨_,rfl,_,_,_,[],_,[],hW',trodAll_mk1 (shut_bool Tryz.underlying4 _),(trodAll_cons_mk (Below.trod laidK (by kernel_rfl) (of_decide_eq_true (by kernel_rfl)) k0 bel lt0) (trodAll_cons_mk (Below.trod laidK (by kernel_rfl) (of_decide_eq_true (by kernel_rfl)) k1 bel lt1) trodAll_mk0)),rfl,bel.frame _,fun h=>by cases h⟩
theorem readsAclSame (os:Os) {H:Type} (enc:TypeId × Value→H): ∃ places,DataW.whole enc Tryz.prog ((laidWorld os).forCall (fun _ _=>0) ⟨#[], #[.slice none 0 0,.slice none 0 0],[]⟩).memory Tryz.f8.params.toList Rows.aclSameSpec.vars false (#[.slice none 0 0,.slice none 0 0]:Array Value).toList 8=some ([.nil,.nil],[],places):=
  ⟨[],by kernel_rfl⟩
set_option maxRecDepth 100000 in
theorem liftedAclSame (os:Os) (started:os.Started) (H:Type) (enc:TypeId × Value→H) (F:Stop.Interp) :
    ReturnsInHanded {} Tryz.checked os 8 .any ((Rows.OpenSpec.upto Rows.aclSameSpec).preRow enc Tryz.prog Tryz.f8 Rows.aclSameUptoRow.domain false Rows.aclSameUptoRow.laid) (((Rows.OpenSpec.upto Rows.aclSameSpec).at F).post enc Tryz.prog Tryz.f8 false true false false):=by
  obtain ⟨places,hx⟩:=readsAclSame os enc
  refine returnsInHanded_of_row (C:=Tryz.checked) (s:=Rows.OpenSpec.upto Rows.aclSameSpec) ownK started (by kernel_rfl) Tryz.func8
    (witness_row_at (enc:=enc) (C:=Tryz.checked) false (laidWorld os) #[.slice none 0 0,.slice none 0 0] rfl (by kernel_rfl) (by kernel_rfl) (by kernel_rfl)
      (OpenSpec.preRow_of_cond 8 hx (by kernel_rfl) (fun k hk=>by cases hk;kernel_rfl) (by kernel_rfl) (laid_met os _))) ?_
  intro W base args ds gs before hval hW _ hcond _ hL _ _
  exact contractAclSame H enc W base args ds gs before hval hW hL (hcond _ rfl)
theorem saidAclSame:Rows.AclSameUptoSaid:=
  OpenClaim.holds_of_cond 8 Tryz.f8 rfl rfl rfl rfl rfl rfl rfl ⟨rfl,rfl,rfl,rfl,rfl⟩ rfl rfl rfl rfl rfl (by kernel_rfl) Tryz.func8 (by kernel_rfl)
    (of_decide_eq_true (by kernel_rfl)) (by unfold Func.isWrapper;first|(rw [if_pos (by decide +kernel)];kernel_rfl)|(rw [if_neg (by decide +kernel)];exact ⟨rfl,rfl⟩))
    (fun os started H enc _ F=>by rw [OpenClaim.pre_eq_preRow];exact liftedAclSame os started H enc F)
theorem plainAclSame (f : FuncId) (fn : Func) (hf : Tryz.pinned.checked.prog.funcNamed "greffier/greffierlaw20.AclSame" = some f) (hfn : Tryz.pinned.checked.prog.funcs[f]? = some fn) :
    true=Tryz.pinned.checked.prog.looks []∧ ∀ (j:Nat) t,fn.params[j]?=some t→Tryz.pinned.checked.prog.wantsStandIn t=false:=by
  obtain rfl : f = 8 := Option.some.inj ((show Tryz.prog.funcNamed "greffier/greffierlaw20.AclSame" = some 8 by kernel_rfl).symm.trans hf) |>.symm
  obtain rfl:fn=Tryz.f8:=(Option.some.inj (Tryz.func8.symm.trans hfn)).symm
  refine ⟨by kernel_rfl,fun j t ht=>?_⟩
  rw [Tryz.params8] at ht
  have ht:=Array.mem_of_getElem? ht
  simp only [List.mem_toArray,List.mem_cons,List.not_mem_nil,or_false] at ht
  rcases ht with rfl|rfl
  · exact (show Tryz.prog.wantsStandIn 50=false by kernel_rfl)
  · exact (show Tryz.prog.wantsStandIn 50=false by kernel_rfl)
theorem aclsame_card:Rows.AclSameUptoCardSaid:=
  Claim7.holds_tied_plain_at .later [] _ _ _ _ saidAclSame (fun _ h=>by cases h) (by kernel_rfl) (fun _ h=>by cases h) aclSameUpto_row_tie rfl ⟨rfl,rfl⟩ (by kernel_rfl) rfl plainAclSame (by kernel_rfl)
#print axioms aclsame_card
end Go.Proofs.YtfammdfpgccnfaaGreatDoor
