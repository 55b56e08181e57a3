/- AclReads: the list of trust of any value, or the error, is the document's; it is put as it stood: for all arguments whose parts come to at most 1048576 values and letters. -/
import Derived.Test.YtfammdfpgccnfaaGreatDoorA9
set_option linter.unusedVariables false
set_option linter.unusedSimpArgs false
set_option maxRecDepth 100000
set_option maxHeartbeats 8000000
namespace Go.Proofs.YtfammdfpgccnfaaGreatDoor
open Go.ChangeShapes Go.WideShapes Go.ChangeAt Go.RowKit
set_option maxRecDepth 100000 in
theorem contractAclReads (H:Type) (enc:TypeId × Value→H) (W:World) (base:Nat) (args:Array Value) (ds gs:List (DataW H)) (before:List MemPlace)
    (hval: ∀ (j:Nat) t v,Tryz.f6.params[j]?=some t→args[j]?=some v→Value.okWide Tryz.prog W .any base t v)
    (hW:DataW.Whole enc Tryz.prog Tryz.f6.params.toList Rows.aclReadsSpec.vars false W args.toList ds gs before) (hL:laidMetH Tryz.prog laid3 W) (hk:Rows.uptoSmall H (ds++gs)=true) :
    Calls Tryz.prog 6 args W fun e W'=> ∃ v,e= .returned v∧Rows.aclReadsSpec.post enc Tryz.prog Tryz.f6 false true false false W args v W':=by
  have hW':=hW
  obtain ⟨p,q,hA0,hV,rfl,hfz,hnd⟩:=hW
  have hA:DataW.TrodAll enc Tryz.prog W 0 (fun _=>true) true Tryz.f6.params.toList args.toList ds p:=hA0
  rw [Tryz.params6] at hA hval
  obtain ⟨v0,vs0,d0,ds0,p0,q0,hargs,rfl,rfl,h0,r0⟩:=trodAll_cons hA
  obtain ⟨rfl,rfl,rfl⟩:=trodAll_nil r0
  obtain rfl:args= #[v0]:=by cases args;simp_all
  obtain ⟨rfl,rfl⟩:=trodVars_none hV
  clear hA0
  have hb:=bulk_le hk
  simp only [List.append_nil,List.cons_append,List.nil_append,Rows.uptoBulkAll] at hb
  obtain ⟨cs0,rfl,_⟩:=okWide_struct Tryz.underlying45 (hval 0 _ v0 rfl rfl)
  obtain ⟨l0,rfl⟩: ∃ l:List Value,cs0=l.toArray:=⟨cs0.toList,by simp⟩
  have k0:=h0
  have lt0: ∀ x∈p0,x.block<W.heap.size:=by obtain ⟨m,hm⟩:=k0;exact DataW.trod_lt m _ _ _ hm
  obtain ⟨m0,hm0⟩:=h0
  obtain ⟨y0,ha0,hw0⟩:=opens_sexp m0 _ _ _ _ _ _ _ hm0
  (try dsimp only at hw0)
  refine (law_calls (aclreads_m tabG_pow y0 (by omega)) (tables_of_laid hL) (dargs_cons (drd_g (cellsOf_tree ha0)) dargs_nil)).mono fun e W' ⟨he,bel⟩=>?_
  subst he
  exact ⟨_,rfl,_,_,_,[],_,[],hW',trodAll_mk1 (shut_bool Tryz.underlying4 _),(trodAll_cons_mk (Below.trod laidK (by kernel_rfl) (of_decide_eq_true (by kernel_rfl)) k0 bel lt0) trodAll_mk0),rfl,bel.frame _,fun h=>by cases h⟩
theorem readsAclReads (os:Os) {H:Type} (enc:TypeId × Value→H): ∃ places,DataW.whole enc Tryz.prog ((laidWorld os).forCall (fun _ _=>0) ⟨#[], #[.agg #[.bool false,.bool false,.slice none 0 0,.slice none 0 0,.slice none 0 0]],[]⟩).memory Tryz.f6.params.toList Rows.aclReadsSpec.vars false (#[.agg #[.bool false,.bool false,.slice none 0 0,.slice none 0 0,.slice none 0 0]]:Array Value).toList 8=some ([.agg [.lit (.bool false),.lit (.bool false),.nil,.nil,.nil]],[],places):=
  ⟨[],by kernel_rfl⟩
set_option maxRecDepth 100000 in
theorem liftedAclReads (os:Os) (started:os.Started) (H:Type) (enc:TypeId × Value→H) (F:Stop.Interp) :
    ReturnsInHanded {} Tryz.checked os 6 .any ((Rows.OpenSpec.upto Rows.aclReadsSpec).preRow enc Tryz.prog Tryz.f6 Rows.aclReadsUptoRow.domain false Rows.aclReadsUptoRow.laid) (((Rows.OpenSpec.upto Rows.aclReadsSpec).at F).post enc Tryz.prog Tryz.f6 false true false false):=by
  obtain ⟨places,hx⟩:=readsAclReads os enc
  refine returnsInHanded_of_row (C:=Tryz.checked) (s:=Rows.OpenSpec.upto Rows.aclReadsSpec) ownK started (by kernel_rfl) Tryz.func6
    (witness_row_at (enc:=enc) (C:=Tryz.checked) false (laidWorld os) #[.agg #[.bool false,.bool false,.slice none 0 0,.slice none 0 0,.slice none 0 0]] rfl (by kernel_rfl) (by kernel_rfl) (by kernel_rfl)
      (OpenSpec.preRow_of_cond 8 hx (by kernel_rfl) (fun k hk=>by cases hk;kernel_rfl) (by kernel_rfl) (laid_met os _))) ?_
  intro W base args ds gs before hval hW _ hcond _ hL _ _
  exact contractAclReads H enc W base args ds gs before hval hW hL (hcond _ rfl)
theorem saidAclReads:Rows.AclReadsUptoSaid:=
  OpenClaim.holds_of_cond 6 Tryz.f6 rfl rfl rfl rfl rfl rfl rfl ⟨rfl,rfl,rfl,rfl,rfl⟩ rfl rfl rfl rfl rfl (by kernel_rfl) Tryz.func6 (by kernel_rfl)
    (of_decide_eq_true (by kernel_rfl)) (by unfold Func.isWrapper;first|(rw [if_pos (by decide +kernel)];kernel_rfl)|(rw [if_neg (by decide +kernel)];exact ⟨rfl,rfl⟩))
    (fun os started H enc _ F=>by rw [OpenClaim.pre_eq_preRow];exact liftedAclReads os started H enc F)
theorem plainAclReads (f : FuncId) (fn : Func) (hf : Tryz.pinned.checked.prog.funcNamed "greffier/greffierlaw20.AclReads" = some f) (hfn : Tryz.pinned.checked.prog.funcs[f]? = some fn) :
    true=Tryz.pinned.checked.prog.looks []∧ ∀ (j:Nat) t,fn.params[j]?=some t→Tryz.pinned.checked.prog.wantsStandIn t=false:=by
  obtain rfl : f = 6 := Option.some.inj ((show Tryz.prog.funcNamed "greffier/greffierlaw20.AclReads" = some 6 by kernel_rfl).symm.trans hf) |>.symm
  obtain rfl:fn=Tryz.f6:=(Option.some.inj (Tryz.func6.symm.trans hfn)).symm
  refine ⟨by kernel_rfl,fun j t ht=>?_⟩
  rw [Tryz.params6] at ht
  have ht:=Array.mem_of_getElem? ht
  simp only [List.mem_toArray,List.mem_cons,List.not_mem_nil,or_false] at ht
  rcases ht with rfl
  · exact (show Tryz.prog.wantsStandIn 45=false by kernel_rfl)
theorem aclreads_card:Rows.AclReadsUptoCardSaid:=
  Claim7.holds_tied_plain_at .later [] _ _ _ _ saidAclReads (fun _ h=>by cases h) (by kernel_rfl) (fun _ h=>by cases h) aclReadsUpto_row_tie rfl ⟨rfl,rfl⟩ (by kernel_rfl) rfl plainAclReads (by kernel_rfl)
#print axioms aclreads_card
end Go.Proofs.YtfammdfpgccnfaaGreatDoor
