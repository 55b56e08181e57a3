/- Parts of the proof, laid together. -/
import Derived.Test.YtdakeodebgggfaaGreatDoorA3
import Derived.ArgAppend
import Derived.Deep.RegionWith
import Derived.BigQuiet
import Derived.Deep.Slices
import Derived.ProofKit
import Derived.OpenShut
import Derived.ShutString
import Derived.ChangeOld
import Derived.Test.YtdakeodebgggfaaGreatDoorRows
import Derived.Shelf.Strconv.Itoa0
import Derived.Shelf.Strconv.Itoa1
import Derived.Shelf.LaysM
import Derived.Shelf.Strconv.Itoa2
import Derived.Shelf.Strconv.Itoa3
import Derived.Shelf.Bits.Mul64
import Derived.Ground.SlbCloneProg
import Derived.Shelf.Bytes.SlClone
import Derived.Test.YtdakeodebgggfaaGreatDoorProg
import Derived.Lib.AppendIntMem
import Derived.Test.YtdakeodebgggfaaGreatDoorCards
import Derived.Test.YtdakeodebgggfaaGreatDoorTie
import Derived.WalkKit
import Derived.Deep.DeepHandedRow
import Derived.Lib.LaidTab
import Derived.Stop.LaidErr
set_option linter.unusedVariables false
set_option linter.unusedSimpArgs false
set_option maxRecDepth 100000
set_option maxHeartbeats 8000000
namespace Go.Proofs.YtdakeodebgggfaaGreatDoor
open Go.RowKit
theorem bclone_m {G:Nat→Option (List D)} (l:List UInt8) (hl:l.length≤1000000000000):Spec Tryz.prog G 39 [.c (bytesD l)] (.one (.c (bytesD l))):=by
  cases l with
  | nil =>
    refine spec_empty (pre:=[]) (post:=[]) rfl fun A c=>?_
    refine spec_of Tryz.func39 rfl rfl rfl (by kernel_rfl) rfl fun K=>?_
    cases A <;> (repeat' (first|with_reducible (first|refine zA fun Kn hK=>?_|refine zB (by kernel_rfl) ?_|refine Nx.go ?_|go_step)|fail|with_reducible (first|refine zI ?_|refine zJ ?_|refine zK ?_ ?_|refine zL ?_ ?_|refine zR (by kernel_rfl) ?_)|simp (maxSteps:=9999999) (disch:=omega) only [wq]|(with_reducible refine zM (fun hb=>?_) (fun hb=>?_) <;> (try simp only [hb]))|(with_reducible refine And.intro (by first|omega|(simp;done)|(simp;omega)) ?_)|simp (maxSteps:=9999999) (implicitDefEqProofs:=false) only [go_sem,true_and]|fail))
  | cons x l =>
    generalize hn:x::l=k at *
    have h0:0<k.length:=by rw [← hn];simp
    refine spec_of Tryz.func39 rfl rfl rfl (by kernel_rfl) rfl fun K=>?_
    (repeat' (first|with_reducible (first|refine zA fun Kn hK=>?_|refine zB (by kernel_rfl) ?_|refine Nx.go ?_|go_step)|fail|with_reducible (first|refine zI ?_|refine zJ ?_|refine zK ?_ ?_|refine zL ?_ ?_|refine zR (by kernel_rfl) ?_)|simp (maxSteps:=9999999) (disch:=omega) only [wq]|(with_reducible refine zM (fun hb=>?_) (fun hb=>?_) <;> (try simp only [hb]))|(with_reducible refine And.intro (by first|omega|(simp;done)|(simp;omega)) ?_)|simp (maxSteps:=9999999) (implicitDefEqProofs:=false) only [go_sem,List.length_map]|fail))
theorem sclone_m {G:Nat→Option (List D)} (l:List Tree) (hl:l.length≤100000000):Spec Tryz.prog G 55 [.c (.sl l.length (l.flatMap treeC))] (.one (.c (.sl l.length (l.flatMap treeC)))):=by
  cases l with
  | nil =>
    refine spec_empty (pre:=[]) (post:=[]) rfl fun A c=>?_
    refine spec_of Tryz.func55 rfl rfl rfl (by kernel_rfl) rfl fun K=>?_
    cases A <;> (repeat' (first|with_reducible (first|refine zA fun Kn hK=>?_|refine zB (by kernel_rfl) ?_|refine Nx.go ?_|go_step)|fail|with_reducible (first|refine zI ?_|refine zJ ?_|refine zK ?_ ?_|refine zL ?_ ?_|refine zR (by kernel_rfl) ?_)|simp (maxSteps:=9999999) (disch:=omega) only [wq]|(with_reducible refine zM (fun hb=>?_) (fun hb=>?_) <;> (try simp only [hb]))|(with_reducible refine And.intro (by first|omega|(simp;done)|(simp;omega)) ?_)|simp (maxSteps:=9999999) (implicitDefEqProofs:=false) only [go_sem,true_and,List.flatMap_nil]|fail))
  | cons x l =>
    generalize hn:x::l=k at *
    have h0:0<k.length:=by rw [← hn];simp
    refine spec_of Tryz.func55 rfl rfl rfl (by kernel_rfl) rfl fun K=>?_
    (repeat' (first|with_reducible (first|refine zA fun Kn hK=>?_|refine zB (by kernel_rfl) ?_|refine Nx.go ?_|go_step)|fail|with_reducible (first|refine zI ?_|refine zJ ?_|refine zK ?_ ?_|refine zL ?_ ?_|refine zR (by kernel_rfl) ?_)|simp (maxSteps:=9999999) (disch:=omega) only [wq]|(with_reducible refine zM (fun hb=>?_) (fun hb=>?_) <;> (try simp only [hb]))|(with_reducible refine And.intro (by first|omega|(simp;done)|(simp;omega)) ?_)|simp (maxSteps:=9999999) (implicitDefEqProofs:=false) only [go_sem,List.length_map]|fail))
theorem atom_m {G:Nat→Option (List D)} (l:List UInt8) (hl:l.length≤1000000000000):Spec Tryz.prog G 38 [.c (.v (.string ⟨l.toArray⟩))] (.one (.g (treeC (.mk false false [] l [])))):=by
  refine spec_of Tryz.func38 rfl rfl rfl (by kernel_rfl) rfl fun K=>?_
  rw [treeC_eq]
  (repeat' (first|with_reducible (first|refine zA fun Kn hK=>?_|refine zB (by kernel_rfl) ?_|refine Nx.go ?_|go_step)|fail|with_reducible (first|refine zI ?_|refine zJ ?_|refine zK ?_ ?_|refine zL ?_ ?_|refine zR (by kernel_rfl) ?_)|simp (maxSteps:=9999999) (disch:=omega) only [wq]|(with_reducible refine zM (fun hb=>?_) (fun hb=>?_) <;> (try simp only [hb]))|(with_reducible refine And.intro (by first|omega|(simp;done)|(simp;omega)) ?_)|simp (maxSteps:=9999999) (implicitDefEqProofs:=false) only [go_sem,str_size]|fail))
  rfl
theorem atomref_m {G:Nat→Option (List D)} (l:List UInt8) (hl:l.length≤1000000000000):Spec Tryz.prog G 18 [.c (.v (.string ⟨l.toArray⟩))] (.one (.g (treeC (.mk false false [] l [])))):=by
  refine spec_of Tryz.func18 rfl rfl rfl (by kernel_rfl) rfl fun K=>?_
  rw [treeC_eq]
  (repeat' (first|with_reducible (first|refine zA fun Kn hK=>?_|refine zB (by kernel_rfl) ?_|refine Nx.go ?_|go_step)|fail|with_reducible (first|refine zI ?_|refine zJ ?_|refine zK ?_ ?_|refine zL ?_ ?_|refine zR (by kernel_rfl) ?_)|simp (maxSteps:=9999999) (disch:=omega) only [wq]|(with_reducible refine zM (fun hb=>?_) (fun hb=>?_) <;> (try simp only [hb]))|(with_reducible refine And.intro (by first|omega|(simp;done)|(simp;omega)) ?_)|simp (maxSteps:=9999999) (implicitDefEqProofs:=false) only [go_sem,str_size]|fail))
  rfl
theorem list_m {G:Nat→Option (List D)} (l:List Tree) (hl:l.length≤100000000):Spec Tryz.prog G 37 [.c (.sl l.length (l.flatMap treeC))] (.one (.g (treeC (.mk true false [] [] l)))):=by
  refine spec_of Tryz.func37 rfl rfl rfl (by kernel_rfl) rfl fun K=>?_
  rw [treeC_eq]
  (repeat' (first|with_reducible (first|refine zA fun Kn hK=>?_|refine zB (by kernel_rfl) ?_|refine Nx.go ?_|go_step)|(refine ⟨_,sclone_m l hl,?_⟩)|with_reducible (first|refine zI ?_|refine zJ ?_|refine zK ?_ ?_|refine zL ?_ ?_|refine zR (by kernel_rfl) ?_)|simp (maxSteps:=9999999) (disch:=omega) only [wq]|(with_reducible refine zM (fun hb=>?_) (fun hb=>?_) <;> (try simp only [hb]))|(with_reducible refine And.intro (by first|omega|(simp;done)|(simp;omega)) ?_)|simp (maxSteps:=9999999) (implicitDefEqProofs:=false) only [go_sem,true_and]|fail))
  rfl
theorem isref_m {G:Nat→Option (List D)} (t:Tree) {cs:List D} (hcs:treeC t=cs) (s:List UInt8):Spec Tryz.prog G 41 [.g cs,.c (.v (.string ⟨s.toArray⟩))] (.one (.c (.v (.bool (isB t s))))):=by
  subst hcs
  refine spec_of Tryz.func41 rfl rfl rfl (by kernel_rfl) rfl fun K=>?_
  rw [treeC_eq]
  (repeat' (first|with_reducible (first|refine zA fun Kn hK=>?_|refine zB (by kernel_rfl) ?_|refine Nx.go ?_|go_step)|fail|with_reducible (first|refine zI ?_|refine zJ ?_|refine zK ?_ ?_|refine zL ?_ ?_|refine zR (by kernel_rfl) ?_)|simp (maxSteps:=9999999) (disch:=omega) only [wq]|(with_reducible refine zM (fun hb=>?_) (fun hb=>?_) <;> (try simp only [hb]))|(with_reducible refine And.intro (by first|omega|(simp;done)|(simp;omega)) ?_)|simp (maxSteps:=9999999) (implicitDefEqProofs:=false) only [go_sem,true_and]|fail))
  all_goals (unfold isB;simp only [*];first|rfl|simp)
theorem headref_m {G:Nat→Option (List D)} (t:Tree) {cs:List D} (hcs:treeC t=cs) (s:List UInt8):Spec Tryz.prog G 19 [.g cs,.c (.v (.string ⟨s.toArray⟩))] (.one (.c (.v (.bool (headB t s))))):=by
  subst hcs
  refine spec_of Tryz.func19 rfl rfl rfl (by kernel_rfl) rfl fun K=>?_
  rw [treeC_eq]
  cases hk:t.kids with
  | nil =>
    have h0:decide ((0:Int)<((0:Nat):Int))=false:=rfl
    (repeat' (first|with_reducible (first|refine zA fun Kn hK=>?_|refine zB (by kernel_rfl) ?_|refine Nx.go ?_|go_step)|fail|with_reducible (first|refine zI ?_|refine zJ ?_|refine zK ?_ ?_|refine zL ?_ ?_|refine zR (by kernel_rfl) ?_)|simp (maxSteps:=9999999) (disch:=omega) only [wq]|(with_reducible refine zM (fun hb=>?_) (fun hb=>?_) <;> (try simp only [hb]))|(with_reducible refine And.intro (by first|omega|(simp;done)|(simp;omega)) ?_)|simp (maxSteps:=9999999) (implicitDefEqProofs:=false) only [go_sem,gt_iff_lt,h0]|fail))
    all_goals (unfold headB;simp only [*];rfl)
  | cons x l =>
    have h0:decide ((0:Int)<((l.length+1:Nat):Int))=true:=by simp
    have h1:((x::l).flatMap treeC).take 5=treeC x:=flat_at treeC_len (k:=0) rfl
    (repeat' (first|with_reducible (first|refine zA fun Kn hK=>?_|refine zB (by kernel_rfl) ?_|refine Nx.go ?_|go_step)|(refine ⟨_,isref_m x (by first|rfl|(rw [treeC_eq];first|rfl|(simp only [go_sem, *];done))) s,?_⟩)|with_reducible (first|refine zI ?_|refine zJ ?_|refine zK ?_ ?_|refine zL ?_ ?_|refine zR (by kernel_rfl) ?_)|simp (maxSteps:=9999999) (disch:=omega) only [wq]|(with_reducible refine zM (fun hb=>?_) (fun hb=>?_) <;> (try simp only [hb]))|(with_reducible refine And.intro (by first|omega|(simp;done)|(simp;omega)) ?_)|simp (maxSteps:=9999999) (implicitDefEqProofs:=false) only [go_sem,gt_iff_lt,h0,h1]|fail))
    all_goals (unfold headB;simp only [*];rfl)
end Go.Proofs.YtdakeodebgggfaaGreatDoor
namespace Go.Proofs.YtdakeodebgggfaaGreatDoor
open Go.RowKit
def bl (xs:List UInt8):List Value:=xs.map fun x=>Value.int .u8 (x.toNat:Int)
theorem bl_len (xs:List UInt8):(bl xs).length=xs.length:=by simp [bl]
theorem bl_app (xs ys:List UInt8):bl (xs++ys)=bl xs++bl ys:=by simp [bl]
theorem bl_one {xs:List UInt8}: ∀ u∈bl xs,u.oneCell'=true:=by
  intro u hu
  obtain ⟨x,_,rfl⟩:=List.mem_map.1 hu
  rfl
def OwnB (w:World) (base:Nat) (v:Value) (xs:List UInt8):Prop:=
  (v= .slice none 0 0∧xs=[])∨ ∃ g cap,v= .slice (some ⟨g,0,none⟩) xs.length cap∧base≤g∧g<w.heap.size∧xs.length≤cap∧cap≤9223372036854775807 ∧
    (∀ j u,(bl xs)[j]?=some u→w.cell? ⟨g,j,none⟩=some u)∧ ∀ j,j<cap→(w.cell? ⟨g,j,none⟩).isSome=true∧w.frozen? ⟨g,j,none⟩=false
section
variable {P:Program} {w w':World}
theorem OwnB.nil {base:Nat}:OwnB w base (.slice none 0 0) []:= .inl ⟨rfl,rfl⟩
theorem OwnB.lt {base:Nat} {v:Value} {xs:List UInt8} (h:OwnB w base v xs): ∀ k,v.ownBlock=some k→base≤k∧k<w.heap.size:=by
  rcases h with ⟨rfl,_⟩|⟨g,cap,rfl,hb,hg,_⟩
  · simp [Value.ownBlock]
  · intro k hk
    simp [Value.ownBlock] at hk
    subst hk
    exact ⟨hb,hg⟩
theorem OwnB.of_own {e:TypeId} {base:Nat} {S:Nat→Prop} {v:Value} {xs:List UInt8} (h:Rep.u8.own e w base S v xs):OwnB w base v xs:=by
  obtain ⟨cells,ho,hr⟩:=h
  rcases ho.2 with ⟨rfl,hn⟩|⟨g,cap,cur,rfl,hb,hg,hc1,hc2,hc3,hc4⟩
  · exact .inl ⟨rfl,List.eq_nil_of_length_eq_zero hn⟩
  · refine .inr ⟨g,cap,rfl,hb,(Array.getElem?_eq_some_iff.1 hg).1,hc1,by simpa [maxLen] using hc2,fun j u hu=>?_,fun j hj=>⟨?_,?_⟩⟩
    · have hj:j<xs.length:=by
        have:=(List.getElem?_eq_some_iff.1 hu).1
        rwa [bl_len] at this
      have hx:=hr j xs[j] (List.getElem?_eq_getElem hj)
      simp only [Rep.u8,Nat.mul_one] at hx
      have h0:cells[j]?=some (.int .u8 (xs[j].toNat:Int)):=by
        have:=congrArg (fun l=>l[0]?) hx
        simpa [List.getElem?_take,List.getElem?_drop] using this
      have hu':u= .int .u8 (xs[j].toNat:Int):=by
        simp [bl,List.getElem?_map,List.getElem?_eq_getElem hj] at hu
        exact hu.symm
      have:=ho.cells (g:=g) rfl j _ h0
      rw [Addr.add_lit,Nat.zero_add] at this
      rw [this,hu']
    · have hsz:j<cur.size:=by rw [hc3];simpa [Rep.u8] using hj
      rw [cell_of_row w g j cur e (0,0) hg,Array.getElem?_eq_getElem hsz]
      rfl
    · exact boxed_frozen hg j
theorem OwnB.keep {base:Nat} {v:Value} {xs:List UInt8} (h:OwnB w base v xs) {row:Option Nat} (hg:w.grownBy w' row) (hne:v.ownBlock=none∨v.ownBlock≠row):OwnB w' base v xs:=by
  rcases h with ⟨rfl,rfl⟩|⟨g,cap,rfl,hb,hgl,h1,h2,h3,h4⟩
  · exact .nil
  · have hrow:some g≠row:=by
      rcases hne with h|h
      · simp [Value.ownBlock] at h
      · simpa [Value.ownBlock] using h
    have hblk:=hg.block g hgl hrow
    refine .inr ⟨g,cap,rfl,hb,Nat.lt_of_lt_of_le hgl hg.size,h1,h2,fun j u hu=>?_,fun j hj=>⟨?_,?_⟩⟩
    · rw [World.cell?_of_block hblk]
      exact h3 j u hu
    · rw [World.cell?_of_block hblk]
      exact (h4 j hj).1
    · have:w'.frozen? ⟨g,j,none⟩=w.frozen? ⟨g,j,none⟩:=by simp [World.frozen?,hblk]
      rw [this]
      exact (h4 j hj).2
theorem OwnB.later {base:Nat} {v:Value} {xs:List UInt8} (h:OwnB w base v xs) (hB:Below w.heap.size w w'):OwnB w' base v xs:=
  h.keep (row:=none) ⟨hB.os,hB.tape,hB.output,hB.size,fun k hk _=>hB.block k hk⟩ (by cases hv:v.ownBlock <;> simp)
theorem OwnB.alloc {base:Nat} {v:Value} {xs:List UInt8} (h:OwnB w base v xs) (o:Obj):OwnB (w.alloc o) base v xs:=h.later (Below.alloc (Below.refl _ w) (Nat.le_refl _) o)
theorem sl_cells {S:Nat→Prop} {A:Option Addr} {m c:Nat} {ys:List UInt8} (h:Rep.u8.sl w S A m c ys) (hm:0<m): ∃ ad,A=some ad∧ ∀ j u,(bl ys)[j]?=some u→w.cell? (ad.add j)=some u:=by
  obtain ⟨b,o,rfl,hb,hr⟩:=h.2.2.2 hm
  refine ⟨_,rfl,fun j u hu=>?_⟩
  have hj:j<ys.length:=by
    have:=(List.getElem?_eq_some_iff.1 hu).1
    rwa [bl_len] at this
  obtain ⟨es,he,hc⟩:=hr j ys[j] (List.getElem?_eq_getElem hj)
  obtain rfl:es=[.int .u8 (ys[j].toNat:Int)]:=he
  have:=hc 0 _ rfl
  simp only [Rep.u8,Nat.mul_one,Nat.add_zero] at this
  rw [Addr.add_lit,this]
  simp [bl,List.getElem?_map,List.getElem?_eq_getElem hj] at hu
  rw [hu]
theorem run_appB {t e:TypeId} (T:ElemT P t e (.int .u8 0) 1 1) (ty:TypeId) {base:Nat} {v:Value} {xs ys:List UInt8} (h:OwnB w base v xs) {S:Nat→Prop} {A:Option Addr} {m c:Nat} (hs:Rep.u8.sl w S A m c ys)
    (hbytes:xs.length+m≤140737488355328) (hbase:base≤w.heap.size) :
    ∃ v' w',(Builtin.append_ #[t,t] ty #[v,.slice A m c]).run P w= .ok v' w'∧OwnB w' base v' (xs++ys)∧w.grownBy w' v.ownBlock:=by
  obtain ⟨i,hi,hz,hsz,hb⟩:=info_parts T.info
  have hm:=hs.1
  rcases Nat.eq_zero_or_pos m with h0|h0
  · have:ys=[]:=List.eq_nil_of_length_eq_zero (by rw [hm,h0])
    subst this
    subst h0
    refine ⟨v,w,?_,by simpa using h,World.grownBy.refl _ _⟩
    rcases h with ⟨rfl,_⟩|⟨g,cap,rfl,_,_,hnc,_⟩
    · cases A <;> simp [Builtin.append_,run_underlying T.und,sizeOf,typeInfo,hi,Builtin.lenOf,Builtin.firstCells,loadCells,loadCellsFrom]
    · cases A <;> simp [Builtin.append_,run_underlying T.und,sizeOf,typeInfo,hi,Builtin.lenOf,Builtin.firstCells,loadCells,loadCellsFrom,hnc,storeCells]
  · obtain ⟨ad,rfl,hc⟩:=sl_cells hs h0
    have hl:(bl ys).length=m*1:=by rw [bl_len,hm];omega
    rcases h with ⟨rfl,rfl⟩|⟨g,cap,rfl,hbg,hgl,h1,h2,h3,h4⟩
    · obtain ⟨v',w',e1,e2,e3,_⟩:=run_append_own_at (P:=P) w base t ty e i (.int .u8 0) 1 1 T.und hi hz hsz hb T.zsz T.pos (.slice none 0 0) 0 [] (World.ownsRow_nil w base e 1) ad m c (bl ys) hl hc bl_one (by simp only [maxLen];omega) (by simp at hbytes ⊢;omega) hbase
      refine ⟨v',w',e1,OwnB.of_own (e:=e) (S:=fun _=>False) ⟨bl ys,by rw [List.nil_append,hm];simpa [Rep.u8] using e2,fun i x hx=>?_⟩,e3⟩
      show _=_
      rw [List.nil_append] at hx
      rw [show Rep.u8.size=1 from rfl,Nat.mul_one,List.take_one,List.head?_drop]
      simp [bl,hx]
    · by_cases hroom:xs.length+m≤cap
      · have hr:=run_append_room_cells (P:=P) w t ty e i T.und hi g 0 xs.length cap ad m c (bl ys) (by rw [hsz];exact hl) hc bl_one hroom
          (fun j hj=>(h4 _ (by rw [hsz];rw [bl_len] at hj;omega)).1) (fun j hj=>(h4 _ (by rw [hsz];rw [bl_len] at hj;omega)).2)
        rw [hsz,Nat.mul_one,Nat.zero_add] at hr
        have hin: ∀ j,j<(bl ys).length→(w.cell? ⟨g,xs.length+j,none⟩).isSome=true:=fun j hj=>(h4 _ (by rw [bl_len] at hj;omega)).1
        have hsize:(w.setCells g xs.length (bl ys)).heap.size=w.heap.size:=by
          have: ∀ (vs:List Value) (o:Nat) (w:World),(w.setCells g o vs).heap.size=w.heap.size:=by
            intro vs
            induction vs with
            | nil=>intro o w;rfl
            | cons v vs ih=>intro o w;rw [World.setCells,ih];simp [World.setCell]
          exact this _ _ _
        have hcell: ∀ j u,(bl (xs++ys))[j]?=some u→(w.setCells g xs.length (bl ys)).cell? ⟨g,j,none⟩=some u:=by
          intro j u hu
          rw [bl_app,List.getElem?_append] at hu
          split at hu
          · rename_i hj
            rw [World.cell?_setCells_out g _ _ _ _ (fun _ _=> .inl (by show j<xs.length;rwa [bl_len] at hj))]
            exact h3 j u hu
          · rename_i hj
            rw [bl_len] at hj hu
            have hj2:=(List.getElem?_eq_some_iff.1 hu).1
            have:=World.cell?_setCells_in g (bl ys) xs.length w hin (j-xs.length) hj2
            rw [show xs.length+(j-xs.length)=j by omega] at this
            rw [this,← hu,List.getElem?_eq_getElem hj2]
        have hsome: ∀ j,j<cap→((w.setCells g xs.length (bl ys)).cell? ⟨g,j,none⟩).isSome=true:=by
          intro j hj
          by_cases hin2:xs.length≤j∧j<xs.length+m
          · have hj2:j-xs.length<(bl ys).length:=by rw [bl_len];omega
            have:=World.cell?_setCells_in g (bl ys) xs.length w hin (j-xs.length) hj2
            rw [show xs.length+(j-xs.length)=j by omega] at this
            rw [this]
            rfl
          · rw [World.cell?_setCells_out g _ _ _ _ (fun _ _=>by show j<xs.length∨xs.length+(bl ys).length≤j;rw [bl_len];omega)]
            exact (h4 j hj).1
        refine ⟨_,_,hr,.inr ⟨g,cap,by rw [List.length_append,hm],hbg,by rw [hsize];exact hgl,by rw [List.length_append,hm];exact hroom,h2,hcell,fun j hj=>⟨hsome j hj,by rw [World.frozen?_setCells];exact (h4 j hj).2⟩⟩,?_⟩
        have hgr: ∀ (vs:List Value) (o:Nat) (w:World),w.grownBy (w.setCells g o vs) (some g):=by
          intro vs
          induction vs with
          | nil=>intro o w;exact World.grownBy.refl _ _
          | cons v vs ih =>
            intro o w
            rw [World.setCells]
            exact grownBy_trans (grownBy_set (World.grownBy.refl w (some g)) v) (ih _ _)
        exact hgr _ _ _
      · obtain ⟨v',w',e1,e2,e3⟩:=run_append_arg_grows (P:=P) w t ty e i (.int .u8 0) 1 1 T.und hi hz hsz hb T.zsz T.pos ⟨g,0,none⟩ xs.length cap (bl xs) (by rw [bl_len];omega)
          (fun j u hu=>by rw [Addr.add_lit,Nat.zero_add];exact h3 j u hu) ad m c (bl ys) hl hc (by omega) (by simp only [maxLen];omega) (by omega)
        refine ⟨v',w',e1,OwnB.of_own (e:=e) (S:=fun _=>False) ⟨bl (xs++ys),?_,fun i x hx=>?_⟩,grownBy_any e3 _⟩
        · rw [List.length_append,hm,bl_app]
          exact ownsRow_base e2 fun k hk=>Nat.le_trans hbase (e2.lt k hk).1
        · show _=_
          rw [show Rep.u8.size=1 from rfl,Nat.mul_one,List.take_one,List.head?_drop]
          rw [show (bl (xs++ys))[i]?=some (.int .u8 (x.toNat:Int)) by rw [bl,List.getElem?_map,hx];rfl]
          rfl
theorem wp_appB {o:Oper} {a:Act} {K:Act→World→Prop} {Q:Exit→Act→World→Prop} {t e:TypeId} (T:ElemT P t e (.int .u8 0) 1 1) (s x:Operand)
    (ho:o.op= .call { callee:= .builtin .append,args:= #[s,x],argTypes:= #[t,t] }) {base:Nat} {v:Value} {xs ys:List UInt8} (hs:a.eval s=v) (hown:OwnB w base v xs) {S:Nat→Prop}
    {A:Option Addr} {m c:Nat} (hx:a.eval x= .slice A m c) (hsl:Rep.u8.sl w S A m c ys) (hbytes:xs.length+m≤140737488355328) (hbase:base≤w.heap.size)
    (h: ∀ v' w',OwnB w' base v' (xs++ys)→w.grownBy w' v.ownBlock→K (a.put o.dst v') w'):o.wp P a w K Q:=by
  obtain ⟨v',w',hrun,h2,h3⟩:=run_appB T o.type hown hsl hbytes hbase
  unfold Oper.wp execOp
  simp only [ho,resolve,invoke,builtin,Sem.run_bind,Sem.run_pure,Result.andThen_ok,List.map_toArray,List.map_cons,List.map_nil,hs,hx,hrun]
  exact h v' w' h2 h3
theorem wpList_appB {ops:Array Oper} {rest:List Oper} {o:Oper} {a:Act} {Q:Exit→Act→World→Prop} (hgd:o.guard=none) {t e:TypeId} (T:ElemT P t e (.int .u8 0) 1 1) (s x:Operand)
    (ho:o.op= .call { callee:= .builtin .append,args:= #[s,x],argTypes:= #[t,t] }) {base:Nat} {v:Value} {xs ys:List UInt8} (hs:a.eval s=v) (hown:OwnB w base v xs) {S:Nat→Prop}
    {A:Option Addr} {m c:Nat} (hx:a.eval x= .slice A m c) (hsl:Rep.u8.sl w S A m c ys) (hbytes:xs.length+m≤140737488355328) (hbase:base≤w.heap.size)
    (h: ∀ v' w',OwnB w' base v' (xs++ys)→w.grownBy w' v.ownBlock→wpList P ops Q rest (a.put o.dst v') w'):wpList P ops Q (o::rest) a w:=
  wpList_plain hgd fun _ hK=>wp_appB T s x ho hs hown hx hsl hbytes hbase fun v' w' h2 h3=>hK _ _ (h v' w' h2 h3)
theorem conv_own {src dst e:TypeId} (hs:P.underlying src=some .string) (hd:P.underlying dst=some (.slice e)) (he:P.underlying e=some (.int .u8)) (w:World) (xs:List UInt8) (hx:xs.length≤9223372036854775807) :
    ∃ v w',(convert src dst (.string ⟨xs.toArray⟩)).run P w= .ok v w'∧OwnB w' w.heap.size v xs∧Below w.heap.size w w':=by
  have hl:ByteArray.size ⟨xs.toArray⟩=xs.length:=by simp [ByteArray.size]
  have hr:=Lib.run_convert_string_bytes (P:=P) w src dst e ⟨xs.toArray⟩ hs hd he
  rw [hl] at hr
  have hge:=grownCap_ge w xs.length 0 e
  have hle:=grownCap_le_maxLen w xs.length 0 e (by simpa [maxLen] using hx)
  have hcs:(Lib.bytesCells w e ⟨xs.toArray⟩).size=grownCap w xs.length 0 e:=by
    simp only [Lib.bytesCells,Array.size_append,Array.size_map,Array.size_replicate,hl]
    show xs.toArray.size+_=_
    rw [List.size_toArray]
    omega
  have hnew:=Lib.bytesWorld_at_new w e ⟨xs.toArray⟩
  refine ⟨_,_,hr,.inr ⟨w.heap.size,_,rfl,Nat.le_refl _,by rw [Lib.bytesWorld_size];omega,hge,by simpa [maxLen] using hle,fun j u hu=>?_,fun j hj=>⟨?_,?_⟩⟩,?_⟩
  · have hj:j<xs.length:=by
      have:=(List.getElem?_eq_some_iff.1 hu).1
      rwa [bl_len] at this
    rw [Lib.bytesWorld_cell w e ⟨xs.toArray⟩ j (by rw [hl];exact hj)]
    simp [bl,List.getElem?_map,List.getElem?_eq_getElem hj] at hu
    rw [← hu]
    simp [List.getD,hj]
  · have hsz:j<(Lib.bytesCells w e ⟨xs.toArray⟩).size:=by rw [hcs];exact hj
    simp [World.cell?,hnew,hsz]
  · simp only [World.frozen?,hnew,Bool.and_eq_false_iff,decide_eq_false_iff_not]
    left
    rw [hcs]
    omega
  · refine ⟨?_,?_,?_,by rw [Lib.bytesWorld_size];omega,fun k hk=>Lib.bytesWorld_at_old w e _ k hk⟩
    all_goals
      unfold Lib.bytesWorld World.freeze
      split <;> rfl
end
end Go.Proofs.YtdakeodebgggfaaGreatDoor
namespace Go.Proofs.YtdakeodebgggfaaGreatDoor
open Go.RowKit
theorem TBm:ElemT Tryz.prog 22 5 (.int .u8 0) 1 1:=⟨Tryz.underlying22,by kernel_rfl,rfl,by decide⟩
theorem below_ev {w w':World} (h:Ev (fun _=>False) w w'):Below w.heap.size w w':=⟨h.os,h.tape,h.output,h.size,fun k hk=>h.block k hk fun h=>h⟩
theorem OwnB.rd {w:World} {base:Nat} {v:Value} {xs:List UInt8} (h:OwnB w base v xs):RD w (fun b=>base≤b∧b<w.heap.size) (bytesD xs) v:=by
  rcases h with ⟨rfl,rfl⟩|⟨g,cap,rfl,hb,hg,hle,hcap,hc,_⟩
  · exact .nil none 0 (by omega)
  · refine .sl xs.length cap g 0 _ (fun i=>((bl xs)[i]?).getD undef) hle hcap ⟨hb,hg⟩ (fun i x hx=>?_) fun i x hx=>?_
    all_goals
      rw [List.getElem?_map] at hx
      cases hl:xs[i]? with
      | none=>rw [hl] at hx;cases hx
      | some y =>
        rw [hl] at hx
        have hx:some (bD y)=some x:=hx
        injection hx with hx
        subst hx
        have e:(bl xs)[i]?=some (.int .u8 (y.toNat:Int)):=by simp [bl,hl]
        first
          | (rw [e,Nat.zero_add];exact hc i _ e)
          | (rw [e];exact .v _ rfl)
theorem below_ownM {w0 w w':World} {base:Nat} {v:Value} {xs:List UInt8} (hB:Below w0.heap.size w0 w) (ho:OwnB w base v xs) (hg:w.grownBy w' v.ownBlock) (hb:w0.heap.size≤base):Below w0.heap.size w0 w':=
  hB.grown hg hB.size fun k hk=>Nat.le_trans hb (ho.lt k hk).1
theorem slKeepM {r:Rep UInt8} {S:Nat→Prop} {w w':World} {A:Option Addr} {n c:Nat} {x:List UInt8} (h:r.sl w S A n c x) (hB:Below w.heap.size w w') (hS: ∀ b,S b→b<w.heap.size):r.sl w' S A n c x:=Rep.sl_below h hB hS
theorem sl_litM {w:World} {x:UInt8} {k:Int} (hk:k=(x.toNat:Int)) (t:TypeId):Rep.u8.sl (w.alloc (.cells #[.int .u8 k] t)) (fun _=>True) (some ⟨w.heap.size,0,none⟩) 1 1 [x]:=by
  subst hk
  exact sl_box (r:=Rep.u8) (S:=fun _=>True) (box_new w _ t) trivial rfl (Nat.le_refl _) (by decide) (rd_one rfl)
theorem text_m {G:Nat→Option (List D)} (b:List UInt8) (hn:b.length≤1000000000):Spec Tryz.prog G 35 [.c (bytesD b)] (.one (.c (bytesD (textB b)))):=by
  intro w S vs hS hT hA
  obtain ⟨hl,hc⟩:=hA
  match vs,hl with
  | [u],_ =>
    obtain ⟨A,c,rfl,hs⟩:=bytes_sl (hc 0 _ _ rfl rfl) rfl
    have HS:=Lib.hid hs
    have HSS:=Lib.hid hS
    have HDM:=Lib.hid (dec_m (G:=G) b.length hn w S [.int .i64 (b.length:Nat)] hS hT ⟨rfl,fun i x v hx hv=>by
      cases i with
      | zero =>
        simp at hx hv
        subst hx hv
        exact .v _ rfl
      | succ i=>simp at hx⟩)
    have HT:Hid (dec b.length++[58]++b=textB b):=rfl
    have hdl:(dec b.length).length≤10:=dec_len 9 (by simp only [Nat.reduceAdd,Nat.reducePow];omega)
    have HD:=Lib.hid hdl
    clear hs hdl hS hT hc
    generalize b.length=n at *
    go_enter Tryz.func35,Tryz.ntmps35
    go_wp2_with fail
    refine Calls.mono HDM.out ?_
    rintro e w1 ⟨hE1,u1,rfl,hu1⟩
    have hB1:=below_ev hE1
    obtain rfl:u1= .string ⟨(dec n).toArray⟩:=by
      have h9:RD w1 _ (.v (.string ⟨(dec n).toArray⟩)) u1:=hu1
      cases h9
      rfl
    clear hu1 hE1 HDM
    obtain ⟨v2,w2,hcv,ho2,hB2⟩:=conv_own (P:=Tryz.prog) Tryz.underlying9 Tryz.underlying22 Tryz.underlying5 w1 (dec n) (by have:=HD.out;omega)
    have hB2':Below w.heap.size w w2:=hB1.trans (hB2.mono hB1.size)
    have hz1:=hB1.size
    have hz2:=hB2.size
    generalize dec n=D at *
    go_wp2_with (at_builtin;refine halt ?_)
    refine go_on (wpList_appB rfl TBm _ _ rfl (by rfl) (ho2.alloc _) (by rfl) (sl_litM (x:=58) rfl _) (by have:=HD.out;omega) (by simp only [World.size_alloc];omega) ?_)
    intro v3 w3 ho3 hg3
    have hB3:=below_ownM (hB2'.alloc hB2'.size _) (ho2.alloc _) hg3 hz1
    have hz3:=hB3.size
    have hs3:=slKeepM HS.out hB3 HSS.out
    have hg3b:w1.heap.size≤w3.heap.size:=Nat.le_trans (by simp only [World.size_alloc];omega) hg3.size
    clear hcv hB2 hB1 hg3
    go_wp2_with (at_builtin;refine halt ?_)
    refine go_on (wpList_appB rfl TBm _ _ rfl (by rfl) ho3 (by rfl) hs3 (by have:=HD.out;simp only [List.length_append,List.length_singleton];omega) (by have:=hg3b;omega) ?_)
    intro v4 w4 ho4 hg4
    have hB4:=below_ownM hB3 ho3 hg4 hz1
    rw [HT.out] at ho4
    have HO:=Lib.hid ho4
    clear ho4 hg4 ho3 hs3
    go_wp2
    go_ret
    exact ⟨⟨hB4.os,hB4.tape,hB4.output,hB4.size,fun k hk _=>hB4.block k hk⟩,v4,rfl,RD.mono (fun b hb=> .inr ⟨by omega,hb.2⟩) (fun _ _=>rfl) HO.out.rd⟩
end Go.Proofs.YtdakeodebgggfaaGreatDoor
namespace Go.Proofs.YtdakeodebgggfaaGreatDoor
open Go.RowKit Go.ChangeShapes Go.WideShapes Go.Deep
def Opens {α:Type} (P:Program) (t:TypeId) (r:Rep α):Prop:=
  P.cellsOf t=r.size∧ ∀ (H:Type) (enc:TypeId × Value→H) (w:World) (sp:Nat→Bool) (held:Bool) (fuel:Nat) (cs:List Value) (x:DataW H × List MemPlace),DataW.trod enc P w 0 sp held fuel t cs=some x→ ∃ y,r.rd w (fun b=>b<w.heap.size) cs y
section
variable {α:Type} {P:Program} {t e:TypeId}
theorem opens_u8 (ht:P.underlying t=some (.int .u8)) (hc:P.cellsOf t=1):Opens P t Rep.u8:=
  ⟨hc,fun H enc w sp held fuel cs x h=>by
    obtain ⟨n,rfl,_,hw⟩:=DataW.trod_int ht h
    have hb:0≤n∧n≤255:=bounds_u8 hw
    exact ⟨ub n,rd_u8 (ub_val hb.1 hb.2)⟩⟩
end
end Go.Proofs.YtdakeodebgggfaaGreatDoor
namespace Go.Proofs.YtdakeodebgggfaaGreatDoor
open Go.RowKit Go.ChangeShapes Go.WideShapes Go.Deep
def OpensN {α:Type} (P:Program) (fuel:Nat) (t:TypeId) (r:Rep α) (wt:α→Nat):Prop:=
  ∀ (H:Type) (enc:TypeId × Value→H) (w:World) (sp:Nat→Bool) (held:Bool) (cs:List Value) (x:DataW H × List MemPlace),DataW.trod enc P w 0 sp held fuel t cs=some x →
    ∃ y,r.rd w (fun b=>b<w.heap.size) cs y∧wt y≤Rows.uptoBulk x.1
theorem pick_list {α:Type} (Q:Nat→α→Prop): ∀ n,(∀ i,i<n→ ∃ y,Q i y)→ ∃ xs:List α,xs.length=n∧ ∀ i x,xs[i]?=some x→Q i x
  | 0,_=>⟨[],rfl,fun i x h=>by simp at h⟩
  | n + 1,h=>by
    obtain ⟨xs,h1,h2⟩:=pick_list Q n fun i hi=>h i (by omega)
    obtain ⟨y,hy⟩:=h n (by omega)
    refine ⟨xs++[y],by simp [h1],fun i x hx=>?_⟩
    rw [List.getElem?_append] at hx
    split at hx
    · exact h2 i x hx
    · rename_i hi
      have:i-xs.length=0:=by
        cases hk:i-xs.length with
        | zero=>rfl
        | succ k=>rw [hk] at hx;simp at hx
      rw [this] at hx
      simp at hx
      subst hx
      obtain rfl:i=n:=by omega
      exact hy
theorem sum_bulk {H α:Type} (wt:α→Nat): ∀ (xs:List α) (ds:List (DataW H)),xs.length=ds.length→(∀ (i:Nat) (x:α) (d:DataW H),xs[i]?=some x→ds[i]?=some d→wt x≤Rows.uptoBulk d)→(xs.map wt).sum≤Rows.uptoBulkAll ds
  | [],_,_,_=>by simp
  | x::xs,[],h,_=>by simp at h
  | x::xs,d::ds,h,hw=>by
    have h0:=hw 0 x d rfl rfl
    have:=sum_bulk wt xs ds (by simpa using h) fun i y e hy he=>hw (i+1) y e (by simpa using hy) (by simpa using he)
    simp only [List.map_cons,List.sum_cons,Rows.uptoBulkAll]
    omega
section
variable {α:Type} {P:Program} {t e:TypeId}
theorem opensN_u8 (fuel:Nat) (ht:P.underlying t=some (.int .u8)) (hc:P.cellsOf t=1):OpensN P fuel t Rep.u8 (fun _=>1):=fun H enc w sp held cs x h=>by
  obtain ⟨y,hy⟩:=(opens_u8 ht hc).2 H enc w sp held fuel cs x h
  refine ⟨y,hy,?_⟩
  obtain ⟨n,rfl,rfl,hw⟩:=DataW.trod_int ht h
  simp [Rows.uptoBulk]
theorem opensN_slice {r:Rep α} {wt:α→Nat} (fuel:Nat) (ht:P.underlying t=some (.slice e)) (hce:P.cellsOf e=r.size) (he: ∀ n,n<fuel→OpensN P n e r wt):OpensN P fuel t r.slice (fun xs=>(xs.map wt).sum+1):=fun H enc w sp held cs x h=>by
  rcases DataW.trod_slice ht h with ⟨rfl,rfl⟩|⟨a,len,cap,elems,rest,n,rfl,rfl,rfl,_,hl,hm,hlen,hi,_⟩
  · exact ⟨[],⟨none,0,0,rfl,Rep.sl_nil⟩,by simp [Rows.uptoBulk]⟩
  · have hel: ∀ i,i<len→ ∃ y,(∃ es:List Value,r.rd w (fun b=>b<w.heap.size) es y∧ ∀ j u,es[j]?=some u→w.cell? (a.add (i*r.size+j))=some u)∧ ∀ d,elems[i]?=some d→wt y≤Rows.uptoBulk d.1:=by
      intro i hil
      have hh:=hi i hil
      have hin:i<elems.length:=by omega
      rw [List.getElem?_eq_getElem hin] at hh ⊢
      obtain ⟨cs',h1,h2⟩:=Option.bind_eq_some_iff.1 hh
      obtain ⟨y,hy,hwt⟩:=he n (by omega) H enc w sp held cs' _ h2
      refine ⟨y,⟨cs',hy,fun j u hu=>?_⟩,fun d hd=>?_⟩
      · obtain ⟨_,hcl,hat⟩:=World.cells?_some h1
        have hj:j<P.cellsOf e:=by
          have:=(List.getElem?_eq_some_iff.1 hu).1
          omega
        have:=hat j hj
        rw [hce] at this
        rw [← Go.Deep.add_add,this,hu]
      · injection hd with hd
        subst hd
        exact hwt
    obtain ⟨xs,hx1,hx2⟩:=pick_list _ len hel
    refine ⟨xs,⟨some a,len,cap,rfl,hx1,hl,by simpa [maxLen] using hm,fun hn=>?_⟩,?_⟩
    · obtain ⟨y0,⟨es0,hr0,hc0⟩,_⟩:=hel 0 hn
      have hne:0<es0.length:=by rw [r.len hr0];exact r.pos
      have hcell:=hc0 0 es0[0] (List.getElem?_eq_getElem hne)
      simp only [Nat.zero_mul,Nat.add_zero] at hcell
      obtain ⟨b,off,spot⟩:=a
      have hspot:spot=none:=by simpa [Addr.add] using World.cell?_spot hcell
      subst hspot
      have hlt:b<w.heap.size:=by simpa [Addr.add] using World.block_lt_of_cell? w _ hcell
      refine ⟨b,off,rfl,hlt,fun i x hx=>?_⟩
      obtain ⟨⟨es,h1,h2⟩,_⟩:=hx2 i x hx
      refine ⟨es,h1,fun j u hu=>?_⟩
      have:=h2 j u hu
      rw [Addr.add_lit] at this
      rw [← this,Nat.add_assoc]
    · have:=sum_bulk (H:=H) wt xs (elems.map (·.1)) (by rw [hx1,List.length_map,hlen]) fun i x d hx hd=>by
        rw [List.getElem?_map,Option.map_eq_some_iff] at hd
        obtain ⟨d',hd',rfl⟩:=hd
        exact (hx2 i x hx).2 d' hd'
      simp only [Rows.uptoBulk]
      omega
theorem sum_ones {β:Type} (xs:List β):(xs.map fun _=>1).sum=xs.length:=by
  induction xs with
  | nil=>rfl
  | cons x xs ih=>simp only [List.map_cons,List.sum_cons,ih,List.length_cons];omega
theorem opensN_tree {tb tB tl ty:TypeId} {fs:Array Field} (ht:P.underlying t=some (.struct fs)) (hf:fs.toList.map (fun f=>(f.type,f.offset))=[(tb,0),(tb,1),(tB,2),(tB,3),(tl,4)]) (hc:P.cellsOf t=5)
    (hb:P.underlying tb=some .bool) (hB:P.underlying tB=some (.slice ty)) (hy:P.underlying ty=some (.int .u8)) (hl:P.underlying tl=some (.slice t))
    (cb:P.cellsOf tb=1) (cB:P.cellsOf tB=1) (cy:P.cellsOf ty=1) (cl:P.cellsOf tl=1): ∀ fuel,OpensN P fuel t Rep.tree Tree.wt:=by
  intro fuel
  induction fuel using Nat.strongRecOn with
  | _ fuel ih =>
  intro H enc w sp held cs x h
  obtain ⟨xs,n,rfl,rfl,hcl,hlx,hg⟩:=DataW.trod_struct ht h
  have hfl:fs.size=5:=by
    have:=congrArg List.length hf
    simpa using this
  have hfi: ∀ (i:Nat) (p:Nat × Nat),[(tb,0),(tb,1),(tB,2),(tB,3),(tl,4)][i]?=some p→ ∃ f:Field,fs[i]?=some f∧f.type=p.1∧f.offset=p.2:=by
    intro i p hp
    rw [← hf,List.getElem?_map,Option.map_eq_some_iff] at hp
    obtain ⟨f,h1,rfl⟩:=hp
    exact ⟨f,by simpa using h1,rfl,rfl⟩
  have hx5:xs.length=5:=by omega
  have hc5:cs.length=5:=by omega
  match xs,hx5,cs,hc5 with
  | [x0,x1,x2,x3,x4],_,[c0,c1,c2,c3,c4],_ =>
    obtain ⟨f0,g0,t0,o0⟩:=hfi 0 _ rfl
    obtain ⟨f1,g1,t1,o1⟩:=hfi 1 _ rfl
    obtain ⟨f2,g2,t2,o2⟩:=hfi 2 _ rfl
    obtain ⟨f3,g3,t3,o3⟩:=hfi 3 _ rfl
    obtain ⟨f4,g4,t4,o4⟩:=hfi 4 _ rfl
    have e0:=hg 0 f0 g0
    have e1:=hg 1 f1 g1
    have e2:=hg 2 f2 g2
    have e3:=hg 3 f3 g3
    have e4:=hg 4 f4 g4
    rw [t0,o0,cb] at e0
    rw [t1,o1,cb] at e1
    rw [t2,o2,cB] at e2
    rw [t3,o3,cB] at e3
    rw [t4,o4,cl] at e4
    obtain ⟨b0,q0,r0⟩:=DataW.trod_bool hb e0
    obtain ⟨b1,q1,r1⟩:=DataW.trod_bool hb e1
    have oB: ∀ n,OpensN P n tB Rep.u8.slice (fun xs=>(xs.map fun _=>1).sum+1):=fun n=>opensN_slice n hB cy fun m _=>opensN_u8 m hy cy
    obtain ⟨y2,⟨A2,n2,k2,q2,s2⟩,w2⟩:=oB _ _ _ _ _ _ _ _ e2
    obtain ⟨y3,⟨A3,n3,k3,q3,s3⟩,w3⟩:=oB _ _ _ _ _ _ _ _ e3
    obtain ⟨y4,⟨A4,n4,k4,q4,s4⟩,w4⟩:=opensN_slice (r:=Rep.tree) (wt:=Tree.wt) n hl hc (fun m hm=>ih m (by omega)) _ _ _ _ _ _ _ e4
    simp only [List.drop_zero,List.drop_succ_cons,List.take_succ_cons,List.take_zero,List.cons.injEq,and_true] at q0 q1 q2 q3 q4
    subst q0 q1 q2 q3 q4
    refine ⟨.mk b0 b1 y2 y3 y4,Rep.tree_mk (t:= .mk b0 b1 y2 y3 y4) ⟨s2,s3,s4⟩,?_⟩
    rw [Tree.wt_eq]
    simp only [sum_ones] at w2 w3
    have w4':(y4.map Tree.wt).sum+1≤Rows.uptoBulk x4.1:=w4
    simp only [Rows.uptoBulk,Rows.uptoBulkAll,List.map_cons,List.map_nil,Tree.hint,Tree.data,Tree.kids]
    omega
end
end Go.Proofs.YtdakeodebgggfaaGreatDoor
namespace Go.Proofs.YtdakeodebgggfaaGreatDoor
open Go.RowKit
def CellsR (w:World) (S:Nat→Prop) (ds:List D) (cs:List Value):Prop:=cs.length=ds.length∧ ∀ (i:Nat) x u,ds[i]?=some x→cs[i]?=some u→RD w S x u
def CellsOf {α:Type} (r:Rep α) (f:α→List D):Prop:= ∀ {w:World} {S:Nat→Prop} {cs:List Value} {y:α},r.rd w S cs y→CellsR w S (f y) cs
theorem cellsR_nil {w:World} {S:Nat→Prop}:CellsR w S [] []:=⟨rfl,fun i x u hx=>by simp at hx⟩
theorem cellsR_cons {w:World} {S:Nat→Prop} {x:D} {u:Value} {ds:List D} {cs:List Value} (h:RD w S x u) (k:CellsR w S ds cs):CellsR w S (x::ds) (u::cs):=
  ⟨by simp [k.1],fun i y v hy hv=>by
    cases i with
    | zero =>
      simp at hy hv
      subst hy hv
      exact h
    | succ i=>exact k.2 i y v (by simpa using hy) (by simpa using hv)⟩
theorem cellsR_app {w:World} {S:Nat→Prop} {ds es:List D} {cs us:List Value} (h:CellsR w S ds cs) (k:CellsR w S es us):CellsR w S (ds++es) (cs++us):=
  ⟨by simp [h.1,k.1],fun i y v hy hv=>by
    rw [List.getElem?_append] at hy hv
    rw [h.1] at hv
    split at hy
    · rename_i hi
      rw [if_pos hi] at hv
      exact h.2 i y v hy hv
    · rename_i hi
      rw [if_neg hi] at hv
      exact k.2 _ y v hy hv⟩
theorem cells_at {α:Type} {f:α→List D} {n:Nat} (hf: ∀ x,(f x).length=n) (hn:0<n) {l:List α} {k:Nat} {d:D} (h:(l.flatMap f)[k]?=some d): ∃ x,l[k/n]?=some x∧(f x)[k%n]?=some d:=by
  have hk:=(List.getElem?_eq_some_iff.1 h).1
  rw [flat_len hf] at hk
  have hq:k/n<l.length:=Nat.div_lt_of_lt_mul (by rw [Nat.mul_comm];exact hk)
  refine ⟨l[k/n],List.getElem?_eq_getElem hq,?_⟩
  have h1:=flat_at hf (List.getElem?_eq_getElem hq)
  have h2:(((l.flatMap f).drop (k/n*n)).take n)[k%n]?=some d:=by
    rw [List.getElem?_take,if_pos (Nat.mod_lt _ hn),List.getElem?_drop,Nat.div_add_mod']
    exact h
  rw [h1] at h2
  exact h2
theorem rd_slice {α:Type} {w:World} {S:Nat→Prop} {r:Rep α} {f:α→List D} {A:Option Addr} {n c:Nat} {l:List α} (hlen: ∀ x,(f x).length=r.size)
    (hc: ∀ {es:List Value} {y:α},y∈l→r.rd w S es y→CellsR w S (f y) es) (h:r.sl w S A n c l):RD w S (.sl l.length (l.flatMap f)) (.slice A n c):=by
  obtain ⟨rfl,hnc,hcm,hh⟩:=h
  by_cases h0:0<l.length
  · obtain ⟨b,o,rfl,hb,hr⟩:=hh h0
    have key: ∀ (k:Nat) d,(l.flatMap f)[k]?=some d→w.cell? ⟨b,o+k,none⟩=some ((w.cell? ⟨b,o+k,none⟩).getD undef)∧RD w S d ((w.cell? ⟨b,o+k,none⟩).getD undef):=fun k d hd=>by
      obtain ⟨x,hx,hxd⟩:=cells_at hlen r.pos hd
      obtain ⟨es,he,hce⟩:=hr _ x hx
      obtain ⟨g1,g2⟩:=hc (List.mem_of_getElem? hx) he
      have hlt:k%r.size<es.length:=by rw [g1,hlen];exact Nat.mod_lt _ r.pos
      have h1:=hce _ _ (List.getElem?_eq_getElem hlt)
      rw [Nat.add_assoc,Nat.div_add_mod'] at h1
      rw [h1]
      exact ⟨rfl,g2 _ d _ hxd (List.getElem?_eq_getElem hlt)⟩
    exact .sl _ c b o _ _ hnc hcm hb (fun k d hd=>(key k d hd).1) fun k d hd=>(key k d hd).2
  · have:l=[]:=List.eq_nil_of_length_eq_zero (by omega)
    subst this
    exact .nil A c hcm
theorem cellsOf_u8:CellsOf Rep.u8 (fun b=>[bD b]):=by
  rintro w S cs y h
  have h:cs=_:=h
  subst h
  exact cellsR_cons (.v _ rfl) cellsR_nil
theorem flatMap_one: ∀ l:List UInt8,l.flatMap (fun b=>[bD b])=l.map bD
  | []=>rfl
  | x::l=>by rw [List.flatMap_cons,flatMap_one l];rfl
theorem rd_bytes {w:World} {S:Nat→Prop} {A:Option Addr} {n c:Nat} {l:List UInt8} (h:Rep.u8.sl w S A n c l):RD w S (bytesD l) (.slice A n c):=by
  have h9:=rd_slice (f:=fun b=>[bD b]) (fun _=>rfl) (fun _ hr=>cellsOf_u8 hr) h
  rw [flatMap_one] at h9
  exact h9
theorem cellsOf_tree:CellsOf Rep.tree treeC:=by
  intro w S cs y h
  revert cs
  refine Tree.ind (P:=fun y=> ∀ {cs:List Value},Rep.tree.rd w S cs y→CellsR w S (treeC y) cs) (fun t ih cs h=>?_) y
  have h:Tree.rd w S cs t:=h
  rw [Tree.rd] at h
  obtain ⟨A1,n1,c1,A2,n2,c2,A3,n3,c3,rfl,h1,h2,h3,h4,h5,h6⟩:=h
  rw [treeC_eq]
  refine cellsR_cons (.v _ rfl) (cellsR_cons (.v _ rfl) (cellsR_cons (rd_bytes h1) (cellsR_cons (rd_bytes h2) (cellsR_cons ?_ cellsR_nil))))
  exact rd_slice (r:=Rep.tree) treeC_len (fun hy hr=>ih _ hy hr) ⟨h3,h4,h5,h6⟩
theorem drd_g {w:World} {S:Nat→Prop} {ds:List D} {cs:List Value} (h:CellsR w S ds cs):DRd w S (.g ds) (.agg cs.toArray):=⟨cs,rfl,h.1,h.2⟩
theorem dargs_nil {w:World} {S:Nat→Prop}:DArgs w S [] []:=⟨rfl,fun i x u hx=>by simp at hx⟩
theorem dargs_cons {w:World} {S:Nat→Prop} {x:DV} {u:Value} {ds:List DV} {cs:List Value} (h:DRd w S x u) (k:DArgs w S ds cs):DArgs w S (x::ds) (u::cs):=
  ⟨by simp [k.1],fun i y v hy hv=>by
    cases i with
    | zero =>
      simp at hy hv
      subst hy hv
      exact h
    | succ i=>exact k.2 i y v (by simpa using hy) (by simpa using hv)⟩
theorem law_calls {P:Program} {G:Nat→Option (List D)} {f:FuncId} {args:List DV} {vs:List Value} {W:World} (h:Spec P G f args (.one (.c (.v (.bool true))))) (hT:Tables G W (fun b=>b<W.heap.size)) (hA:DArgs W (fun b=>b<W.heap.size) args vs) :
    Calls P f vs.toArray W fun e W'=>e= .returned (.bool true)∧Below W.heap.size W W':=by
  refine Calls.mono (h W _ vs (fun b hb=>hb) hT hA) ?_
  rintro e W1 ⟨hE,u,rfl,hu⟩
  have hu:RD W1 _ (.v (.bool true)) u:=hu
  cases hu
  exact ⟨rfl,below_ev hE⟩
end Go.Proofs.YtdakeodebgggfaaGreatDoor
namespace Go.Proofs.YtdakeodebgggfaaGreatDoor
open Go.RowKit
theorem form_m {G:Nat→Option (List D)}: ∀ t:Tree,∀ cs:List D,treeC t=cs→t.wt≤10000000→Spec Tryz.prog G 15 [.g cs] (.one (.c (bytesD t.form))):=Tree.ind fun t ih cs hcs hw=>by
  subst hcs
  have hf:=Tree.form_wt t hw
  refine spec_of Tryz.func15 rfl rfl rfl (by kernel_rfl) rfl fun K=>?_
  rw [treeC_eq]
  cases hl:t.list with
  | false =>
    have hlh:=t.wt_hint
    have hld:=t.wt_data
    have h1:=textB_len (b:=t.hint) (n:=10000000) (by omega) (by omega)
    have h2:=textB_len (b:=t.data) (n:=10000000) (by omega) (by omega)
    (repeat' (first|with_reducible (first|refine zA fun Kn hK=>?_|refine zB (by kernel_rfl) ?_|refine Nx.go ?_|go_step)|(refine ⟨_,text_m t.hint (by omega),?_⟩)|(refine ⟨_,text_m t.data (by omega),?_⟩)|with_reducible (first|refine zI ?_|refine zJ ?_|refine zK ?_ ?_|refine zL ?_ ?_|refine zR (by kernel_rfl) ?_)|simp (maxSteps:=9999999) (disch:=omega) only [wq]|(with_reducible refine zM (fun hb=>?_) (fun hb=>?_) <;> (try simp only [hb]))|(with_reducible refine And.intro (by first|omega|(simp;done)|(simp;omega)) ?_)|simp (maxSteps:=9999999) (implicitDefEqProofs:=false) only [go_sem,List.length_map]|fail))
    all_goals
      rw [t.form_eq,hl]
      simp only [Tree.atomF,hb]
      simp [bytesD,bD,Nat.add_comm,Nat.add_left_comm,Nat.add_assoc]
  | true =>
    have hfe:=t.form_eq
    rw [hl] at hfe
    have hfl: ∀ k,(((t.kids.take k).map Tree.form).flatten).length≤t.form.length:=fun k=>by
      rw [hfe]
      simp only [if_true,List.length_append,List.length_flatten,List.map_map,Function.comp_def]
      have:=sum_upto (l:=t.kids) (k:=k) fun x=>x.form.length
      omega
    (repeat' (first|with_reducible (first|refine zA fun Kn hK=>?_|refine zB (by kernel_rfl) ?_|refine Nx.go ?_|go_step)|fail|with_reducible (first|refine zI ?_|refine zJ ?_|refine zK ?_ ?_|refine zL ?_ ?_|refine zR (by kernel_rfl) ?_)|simp (maxSteps:=9999999) (disch:=omega) only [wq]|(with_reducible refine zM (fun hb=>?_) (fun hb=>?_) <;> (try simp only [hb]))|(with_reducible refine And.intro (by first|omega|(simp;done)|(simp;omega)) ?_)|simp (maxSteps:=9999999) (implicitDefEqProofs:=false) only [go_sem,true_and]|fail))
    refine sound_loopR (fun x:{k:Nat // k≤t.kids.length}=>⟨[(1,vP 1 0),(3,vR 1000 1 (1+(((t.kids.take x.1).map Tree.form).flatten).length)),(13,vI t.kids.length),(14,vI x.1)],[(1,some ⟨25,treeK t,true,false⟩),(1000,some ⟨5,((40::((t.kids.take x.1).map Tree.form).flatten).map bD).map C.d,false,false⟩)]⟩) (fun x=>t.kids.length-x.1) ⟨0,by omega⟩ [(1000,10)] (by (iterate 2 ((try simp (maxSteps:=9999999) (implicitDefEqProofs:=false) only [go_sem,hl]);(try simp (maxSteps:=9999999) (disch:=omega) only [wq])));simp [bD,C.ren]) (fun ⟨k,hk⟩=>?_)
    have h5:=t.wt_kids
    have h6:=hfl k
    by_cases hlt:k<t.kids.length
    · obtain ⟨x,hx⟩: ∃ x,t.kids[k]?=some x:=⟨_,List.getElem?_eq_getElem hlt⟩
      have hb:decide ((k:Int)<(t.kids.length:Int))=true:=by simpa using hlt
      have hm:=List.mem_of_getElem? hx
      have hxw:=Tree.wt_kid hm
      have h7:=Tree.form_wt x (by omega)
      (repeat' (first|with_reducible (first|refine zA fun Kn hK=>?_|refine zB (by kernel_rfl) ?_|refine Nx.go ?_|go_step)|(refine ⟨_,ih x hm _ rfl (by omega),?_⟩)|with_reducible (first|refine zI ?_|refine zJ ?_|refine zK ?_ ?_|refine zL ?_ ?_|refine zR (by kernel_rfl) ?_)|simp (maxSteps:=9999999) (disch:=omega) only [wq]|(with_reducible refine zM (fun hb=>?_) (fun hb=>?_) <;> (try simp only [hb]))|(with_reducible refine And.intro (by first|omega|(simp;done)|(simp;omega)) ?_)|simp (maxSteps:=9999999) (implicitDefEqProofs:=false) only [go_sem,hb,flat_at treeC_len hx,List.length_map]|fail))
      refine ⟨[(1000,24)],⟨k+1,hlt⟩,?_⟩
      have h8:((t.kids.take (k+1)).map Tree.form).flatten=((t.kids.take k).map Tree.form).flatten++x.form:=by
        rw [List.take_add_one,hx]
        simp
      (iterate 2 ((try simp (maxSteps:=9999999) (implicitDefEqProofs:=false) only [go_sem,h8]);(try simp (maxSteps:=9999999) (disch:=omega) only [wq])))
      simp [Nat.add_assoc]
      omega
    · have hb:decide ((k:Int)<(t.kids.length:Int))=false:=by simpa using hlt
      obtain rfl:k=t.kids.length:=by omega
      rw [List.take_length] at h6
      (repeat' (first|with_reducible (first|refine zA fun Kn hK=>?_|refine zB (by kernel_rfl) ?_|refine Nx.go ?_|go_step)|fail|with_reducible (first|refine zI ?_|refine zJ ?_|refine zK ?_ ?_|refine zL ?_ ?_|refine zR (by kernel_rfl) ?_)|simp (maxSteps:=9999999) (disch:=omega) only [wq]|(with_reducible refine zM (fun hb=>?_) (fun hb=>?_) <;> (try simp only [hb]))|(with_reducible refine And.intro (by first|omega|(simp;done)|(simp;omega)) ?_)|simp (maxSteps:=9999999) (implicitDefEqProofs:=false) only [go_sem,hb,List.take_length,List.length_map]|fail))
      rw [hfe]
      simp [bD,Nat.add_comm]
end Go.Proofs.YtdakeodebgggfaaGreatDoor
namespace Go.Proofs.YtdakeodebgggfaaGreatDoor
open Go.RowKit
theorem most_at {l:List Tree} {k:Nat} {x:Tree} (h:l[k]?=some x):most ((l.take (k+1)).map Tree.deep)=max (most ((l.take k).map Tree.deep)) x.deep:=by
  rw [List.take_add_one,h]
  simp [most_snoc]
theorem most_take {l:List Tree} {k n:Nat} (h: ∀ x∈l,x.deep≤n):most ((l.take k).map Tree.deep)≤n:=by
  rw [most_le]
  intro j hj
  obtain ⟨x,hx,rfl⟩:=List.mem_map.1 hj
  exact h x (List.mem_of_mem_take hx)
theorem deep_m {G:Nat→Option (List D)}: ∀ t:Tree,∀ cs:List D,treeC t=cs→t.wt≤1000000000→Spec Tryz.prog G 67 [.g cs] (.one (.c (.v (.int .i64 t.deep)))):=Tree.ind fun t ih cs hcs hw=>by
  subst hcs
  refine spec_of Tryz.func67 rfl rfl rfl (by kernel_rfl) rfl fun K=>?_
  rw [treeC_eq]
  cases hl:t.list with
  | false =>
    (repeat' (first|with_reducible (first|refine zA fun Kn hK=>?_|refine zB (by kernel_rfl) ?_|refine Nx.go ?_|go_step)|fail|with_reducible (first|refine zI ?_|refine zJ ?_|refine zK ?_ ?_|refine zL ?_ ?_|refine zR (by kernel_rfl) ?_)|simp (maxSteps:=9999999) (disch:=omega) only [wq]|(with_reducible refine zM (fun hb=>?_) (fun hb=>?_) <;> (try simp only [hb]))|(with_reducible refine And.intro (by first|omega|(simp;done)|(simp;omega)) ?_)|simp (maxSteps:=9999999) (implicitDefEqProofs:=false) only [go_sem,hl]|fail))
    rw [t.deep_eq,hl]
    rfl
  | true =>
    (repeat' (first|with_reducible (first|refine zA fun Kn hK=>?_|refine zB (by kernel_rfl) ?_|refine Nx.go ?_|go_step)|fail|with_reducible (first|refine zI ?_|refine zJ ?_|refine zK ?_ ?_|refine zL ?_ ?_|refine zR (by kernel_rfl) ?_)|simp (maxSteps:=9999999) (disch:=omega) only [wq]|(with_reducible refine zM (fun hb=>?_) (fun hb=>?_) <;> (try simp only [hb]))|(with_reducible refine And.intro (by first|omega|(simp;done)|(simp;omega)) ?_)|simp (maxSteps:=9999999) (implicitDefEqProofs:=false) only [go_sem,hl]|fail))
    refine sound_loopR (fun x:{k:Nat // k≤t.kids.length}=>⟨[(1,vP 1 0),(3,vI (most ((t.kids.take x.1).map Tree.deep):Nat)),(10,vI t.kids.length),(11,vI x.1)],[(1,some ⟨25,treeK t,true,false⟩)]⟩) (fun x=>t.kids.length-x.1) ⟨0,by omega⟩ [] (by (iterate 2 ((try simp (maxSteps:=9999999) (implicitDefEqProofs:=false) only [go_sem,hl]);(try simp (maxSteps:=9999999) (disch:=omega) only [wq])));simp [most]) (fun ⟨k,hk⟩=>?_)
    have h5:=t.wt_kids
    have h6:most ((t.kids.take k).map Tree.deep)≤1000000000:=most_take fun x hx=>by have:=x.deep_wt;have:=Tree.wt_kid hx;omega
    by_cases hlt:k<t.kids.length
    · obtain ⟨x,hx⟩: ∃ x,t.kids[k]?=some x:=⟨_,List.getElem?_eq_getElem hlt⟩
      have hb:decide ((k:Int)<(t.kids.length:Int))=true:=by simpa using hlt
      have hm:=List.mem_of_getElem? hx
      (repeat' (first|with_reducible (first|refine zA fun Kn hK=>?_|refine zB (by kernel_rfl) ?_|refine Nx.go ?_|go_step)|(refine ⟨_,ih x hm _ rfl (by have:=Tree.wt_kid hm;omega),?_⟩)|with_reducible (first|refine zI ?_|refine zJ ?_|refine zK ?_ ?_|refine zL ?_ ?_|refine zR (by kernel_rfl) ?_)|simp (maxSteps:=9999999) (disch:=omega) only [wq]|(with_reducible refine zM (fun hb=>?_) (fun hb=>?_) <;> (try simp only [hb]))|(with_reducible refine And.intro (by first|omega|(simp;done)|(simp;omega)) ?_)|simp (maxSteps:=9999999) (implicitDefEqProofs:=false) only [go_sem,hb,flat_at treeC_len hx]|fail))
      refine ⟨[],⟨k+1,hlt⟩,?_⟩
      have h7:=most_at hx
      (iterate 2 ((try simp (maxSteps:=9999999) (implicitDefEqProofs:=false) only [go_sem,hl]);(try simp (maxSteps:=9999999) (disch:=omega) only [wq])))
      (simp only [ijq,true_and,and_true];first|done|omega|(split <;> omega)|(simp;done)|(simp;omega))
    · have hb:decide ((k:Int)<(t.kids.length:Int))=false:=by simpa using hlt
      obtain rfl:k=t.kids.length:=by omega
      rw [List.take_length] at h6
      (repeat' (first|with_reducible (first|refine zA fun Kn hK=>?_|refine zB (by kernel_rfl) ?_|refine Nx.go ?_|go_step)|fail|with_reducible (first|refine zI ?_|refine zJ ?_|refine zK ?_ ?_|refine zL ?_ ?_|refine zR (by kernel_rfl) ?_)|simp (maxSteps:=9999999) (disch:=omega) only [wq]|(with_reducible refine zM (fun hb=>?_) (fun hb=>?_) <;> (try simp only [hb]))|(with_reducible refine And.intro (by first|omega|(simp;done)|(simp;omega)) ?_)|simp (maxSteps:=9999999) (implicitDefEqProofs:=false) only [go_sem,hb,List.take_length]|fail))
      rw [t.deep_eq,hl]
      rfl
def Tree.great (t:Tree) (k:Nat):Bool:=
  decide ((60:Int)<k)||decide ((700:Int)<t.kids.length)||decide ((5000:Int)<t.hint.length)||decide ((5000:Int)<t.data.length)||t.kids.attach.any (fun x=>Tree.great x.1 (k+1))||(((k:Int)==0)&&decide ((2000:Int)<t.nodes))
termination_by SizeOf.sizeOf t
decreasing_by exact Tree.kid_lt x.2
theorem Tree.great_eq (t:Tree) (k:Nat):t.great k=(decide ((60:Int)<k)||decide ((700:Int)<t.kids.length)||decide ((5000:Int)<t.hint.length)||decide ((5000:Int)<t.data.length)||t.kids.any (fun x=>Tree.great x (k+1))||(((k:Int)==0)&&decide ((2000:Int)<t.nodes))):=by
  rw [Tree.great]
  congr 2
  simp
theorem great_m {G:Nat→Option (List D)}: ∀ t:Tree,∀ (cs:List D) (k:Nat),treeC t=cs→t.wt≤1000000000→k≤61→Spec Tryz.prog G 5 [.g cs,.c (.v (.int .i64 k))] (.one (.c (.v (.bool (t.great k))))):=Tree.ind fun t ih cs d hcs hw hd=>by
  subst hcs
  refine spec_of Tryz.func5 rfl rfl rfl (by kernel_rfl) rfl fun K=>?_
  rw [treeC_eq]
  refine zA fun Kn hK=>?_
  refine zB (by kernel_rfl) ?_
  (iterate 2 ((try simp (maxSteps:=9999999) (implicitDefEqProofs:=false) only [go_sem,true_and]);(try simp (maxSteps:=9999999) (disch:=omega) only [wq])))
  refine hK _ ?_;clear hK;clear Kn
  refine zA fun Kn hK=>?_
  have hL : (decide ((60:Int)<d)||decide ((700:Int)<t.kids.length)||decide ((5000:Int)<t.hint.length)||decide ((5000:Int)<t.data.length))=false→ ∀ s,LessL (renK []) ⟨[(1,vI d),(2,vP 2 0)],[(2,some ⟨25,treeK t,true,false⟩)]⟩ (Fr0 Tryz.f5.ntmps) s→Kn s:=by
    intro hf s hl
    refine hK _ (sound_lessR _ _ hl ?_)
    clear hK hl
    (repeat' (first|with_reducible (first|refine zA fun Kn hK=>?_|refine zB (by kernel_rfl) ?_|refine Nx.go ?_|go_step)|fail|with_reducible (first|refine zI ?_|refine zJ ?_|refine zK ?_ ?_|refine zL ?_ ?_|refine zR (by kernel_rfl) ?_)|simp (maxSteps:=9999999) (disch:=omega) only [wq]|(with_reducible refine zM (fun hb=>?_) (fun hb=>?_) <;> (try simp only [hb]))|(with_reducible refine And.intro (by first|omega|(simp;done)|(simp;omega)) ?_)|simp (maxSteps:=9999999) (implicitDefEqProofs:=false) only [go_sem,true_and]|fail))
    refine sound_loopR (fun x:{k:Nat // k≤t.kids.length∧(t.kids.take k).any (fun x=>x.great (d+1))=false}=>⟨[(1,vI d),(2,vP 2 0),(28,vI t.kids.length),(29,vI x.1)],[(2,some ⟨25,treeK t,true,false⟩)]⟩) (fun x=>t.kids.length-x.1) ⟨0,by simp⟩ [] (by simp (maxSteps:=9999999) (implicitDefEqProofs:=false) only [go_sem];simp) (fun ⟨k,hk,hall⟩=>?_)
    have h5:=t.wt_kids
    have h6:d≤60:=by
      simp only [Bool.or_eq_false_iff,decide_eq_false_iff_not] at hf
      omega
    by_cases hlt:k<t.kids.length
    · obtain ⟨x,hx⟩: ∃ x,t.kids[k]?=some x:=⟨_,List.getElem?_eq_getElem hlt⟩
      have hb:decide ((k:Int)<(t.kids.length:Int))=true:=by simpa using hlt
      have hm:=List.mem_of_getElem? hx
      (repeat' (first|with_reducible (first|refine zA fun Kn hK=>?_|refine zB (by kernel_rfl) ?_|refine Nx.go ?_|go_step)|(refine ⟨_,ih x hm _ (d+1) rfl (by have:=Tree.wt_kid hm;omega) (by omega),?_⟩)|with_reducible (first|refine zI ?_|refine zJ ?_|refine zK ?_ ?_|refine zL ?_ ?_|refine zR (by kernel_rfl) ?_)|simp (maxSteps:=9999999) (disch:=omega) only [wq]|(with_reducible refine zM (fun hb=>?_) (fun hb=>?_) <;> (try simp only [hb]))|(with_reducible refine And.intro (by first|omega|(simp;done)|(simp;omega)) ?_)|simp (maxSteps:=9999999) (implicitDefEqProofs:=false) only [go_sem,hb,flat_at treeC_len hx]|fail))
      · rw [t.great_eq]
        have:t.kids.any (fun x=>x.great (d+1))=true:=List.any_eq_true.2 ⟨x,hm,by simp_all⟩
        rw [this]
        simp
      · refine ⟨[],⟨k+1,hlt,?_⟩,?_⟩
        · rw [List.take_add_one,hx]
          simp_all
        · (iterate 2 ((try simp (maxSteps:=9999999) (implicitDefEqProofs:=false) only [go_sem,true_and]);(try simp (maxSteps:=9999999) (disch:=omega) only [wq])))
          (simp only [ijq,true_and,and_true];first|done|omega|(split <;> omega)|(simp;done)|(simp;omega))
    · have hb:decide ((k:Int)<(t.kids.length:Int))=false:=by simpa using hlt
      obtain rfl:k=t.kids.length:=by omega
      (repeat' (first|with_reducible (first|refine zA fun Kn hK=>?_|refine zB (by kernel_rfl) ?_|refine Nx.go ?_|go_step)|(refine ⟨_,nodes_m t _ (by first|rfl|(rw [treeC_eq];first|rfl|(simp only [go_sem, *];done))) hw,?_⟩)|with_reducible (first|refine zI ?_|refine zJ ?_|refine zK ?_ ?_|refine zL ?_ ?_|refine zR (by kernel_rfl) ?_)|simp (maxSteps:=9999999) (disch:=omega) only [wq]|(with_reducible refine zM (fun hb=>?_) (fun hb=>?_) <;> (try simp only [hb]))|(with_reducible refine And.intro (by first|omega|(simp;done)|(simp;omega)) ?_)|simp (maxSteps:=9999999) (implicitDefEqProofs:=false) only [go_sem,hb]|fail))
      all_goals
        rw [List.take_length] at hall
        rw [t.great_eq,hf,hall]
        simp only [hb]
        rfl
  clear hK
  (repeat' (first|with_reducible (first|refine zA fun Kn hK=>?_|refine zB (by kernel_rfl) ?_|refine Nx.go ?_|go_step)|(refine hL (by simp only [*];rfl) _ ?_)|with_reducible (first|refine zI ?_|refine zJ ?_|refine zK ?_ ?_|refine zL ?_ ?_|refine zR (by kernel_rfl) ?_)|simp (maxSteps:=9999999) (disch:=omega) only [wq]|(with_reducible refine zM (fun hb=>?_) (fun hb=>?_) <;> (try simp only [hb]))|(with_reducible refine And.intro (by first|omega|(simp;done)|(simp;omega)) ?_)|simp (maxSteps:=9999999) (implicitDefEqProofs:=false) only [go_sem,gt_iff_lt]|fail))
  all_goals (clear ih;first|(simp only [*];done)|(rw [t.great_eq];simp only [*];rfl)|(rw [t.great_eq];simp only [*];simp;done))
end Go.Proofs.YtdakeodebgggfaaGreatDoor
namespace Go.Proofs.YtdakeodebgggfaaGreatDoor
open Go.RowKit
theorem may_m {G:Nat→Option (List D)} (t:Tree) {cs:List D} (hcs:treeC t=cs) (hw:t.wt≤10000000):Spec Tryz.prog G 31 [.g cs] (.one (.c (.v (.bool t.may)))):=by
  subst hcs
  refine spec_of Tryz.func31 rfl rfl rfl (by kernel_rfl) rfl fun K=>?_
  rw [treeC_eq]
  have e1:decide ((t.nodes:Int)≤512)=decide (t.nodes≤512):=by rw [decide_eq_decide];omega
  have e2:decide ((t.deep:Int)≤16)=decide (t.deep≤16):=by rw [decide_eq_decide];omega
  have e3:decide ((t.form.length:Int)≤4096)=decide (t.form.length≤4096):=by rw [decide_eq_decide];omega
  (repeat' (first|with_reducible (first|refine zA fun Kn hK=>?_|refine zB (by kernel_rfl) ?_|refine Nx.go ?_|go_step)|(refine ⟨_,clean_m t _ (by first|rfl|(rw [treeC_eq];first|rfl|(simp only [go_sem, *];done))) (by omega),?_⟩)|(refine ⟨_,nodes_m t _ (by first|rfl|(rw [treeC_eq];first|rfl|(simp only [go_sem, *];done))) (by omega),?_⟩)|(refine ⟨_,deep_m t _ (by first|rfl|(rw [treeC_eq];first|rfl|(simp only [go_sem, *];done))) (by omega),?_⟩)|(refine ⟨_,form_m t _ (by first|rfl|(rw [treeC_eq];first|rfl|(simp only [go_sem, *];done))) (by omega),?_⟩)|with_reducible (first|refine zI ?_|refine zJ ?_|refine zK ?_ ?_|refine zL ?_ ?_|refine zR (by kernel_rfl) ?_)|simp (maxSteps:=9999999) (disch:=omega) only [wq]|(with_reducible refine zM (fun hb=>?_) (fun hb=>?_) <;> (try simp only [hb]))|(with_reducible refine And.intro (by first|omega|(simp;done)|(simp;omega)) ?_)|simp (maxSteps:=9999999) (implicitDefEqProofs:=false) only [go_sem,e1,e2,e3]|fail))
  all_goals (rw [Tree.may];simp only [*];rfl)
end Go.Proofs.YtdakeodebgggfaaGreatDoor
namespace Go.Proofs
open Go.Shelf
def Tryz.laysM171_ren:Go.Shelf.Ren:=⟨fun|171=>109|243=>122|246=>129|283=>134|284=>135|285=>136|286=>137|129=>142|317=>141|318=>143|319=>144|320=>145|337=>146|338=>147|n=>n,fun|3=>3|9=>9|2=>2|4=>4|171=>173|0=>0|53=>59|37=>22|5=>5|173=>176|212=>183|51=>184|20=>20|213=>132|46=>133|232=>39|233=>53|n=>n,fun|17=>0|18=>1|19=>2|n=>n⟩
theorem Tryz.laysM171:Go.Proofs.LaysM.n171 Tryz.prog Tryz.laysM171_ren:={
  mixed:=by kernel_rfl
  f129:=Tryz.func142.trans (congrArg some (by kernel_rfl))
  f171:=Tryz.func109.trans (congrArg some (by kernel_rfl))
  f243:=Tryz.func122.trans (congrArg some (by kernel_rfl))
  f246:=Tryz.func129.trans (congrArg some (by kernel_rfl))
  f283:=Tryz.func134.trans (congrArg some (by kernel_rfl))
  f284:=Tryz.func135.trans (congrArg some (by kernel_rfl))
  f285:=Tryz.func136.trans (congrArg some (by kernel_rfl))
  f286:=Tryz.func137.trans (congrArg some (by kernel_rfl))
  f317:=Tryz.func141.trans (congrArg some (by kernel_rfl))
  f318:=Tryz.func143.trans (congrArg some (by kernel_rfl))
  f319:=Tryz.func144.trans (congrArg some (by kernel_rfl))
  f320:=Tryz.func145.trans (congrArg some (by kernel_rfl))
  f337:=Tryz.func146.trans (congrArg some (by kernel_rfl))
  f338:=Tryz.func147.trans (congrArg some (by kernel_rfl))
  t0:=Tryz.underlying0
  a0:=Tryz.isAgg0
  z0:=Tryz.sizeOf0
  v0:=Tryz.zeroValue0
  t2:=Tryz.underlying2
  a2:=Tryz.isAgg2
  z2:=Tryz.sizeOf2
  v2:=Tryz.zeroValue2
  t3:=Tryz.underlying3
  a3:=Tryz.isAgg3
  z3:=Tryz.sizeOf3
  v3:=Tryz.zeroValue3
  t4:=Tryz.underlying4
  a4:=Tryz.isAgg4
  z4:=Tryz.sizeOf4
  v4:=Tryz.zeroValue4
  t5:=Tryz.underlying5
  a5:=Tryz.isAgg5
  z5:=Tryz.sizeOf5
  v5:=Tryz.zeroValue5
  t9:=Tryz.underlying9
  a9:=Tryz.isAgg9
  z9:=Tryz.sizeOf9
  v9:=Tryz.zeroValue9
  t20:=Tryz.underlying20
  a20:=Tryz.isAgg20
  z20:=Tryz.sizeOf20
  v20:=Tryz.zeroValue20
  t37:=Tryz.underlying22
  a37:=Tryz.isAgg22
  z37:=Tryz.sizeOf22
  v37:=Tryz.zeroValue22
  t46:=Tryz.underlying133
  a46:=Tryz.isAgg133
  z46:=Tryz.sizeOf133
  v46:=Tryz.zeroValue133
  t51:=Tryz.underlying184
  a51:=Tryz.isAgg184
  z51:=Tryz.sizeOf184
  v51:=Tryz.zeroValue184
  t53:=Tryz.underlying59
  a53:=Tryz.isAgg59
  z53:=Tryz.sizeOf59
  v53:=Tryz.zeroValue59
  t171:=Tryz.underlying173
  a171:=Tryz.isAgg173
  z171:=Tryz.sizeOf173
  v171:=Tryz.zeroValue173
  t173:=Tryz.underlying176
  a173:=Tryz.isAgg176
  z173:=Tryz.sizeOf176
  v173:=Tryz.zeroValue176
  t212:=Tryz.underlying183
  a212:=Tryz.isAgg183
  z212:=Tryz.sizeOf183
  v212:=Tryz.zeroValue183
  t213:=Tryz.underlying132
  a213:=Tryz.isAgg132
  z213:=Tryz.sizeOf132
  t232:=Tryz.underlying39
  a232:=Tryz.isAgg39
  z232:=Tryz.sizeOf39
  v232:=Tryz.zeroValue39
  t233:=Tryz.underlying53
  a233:=Tryz.isAgg53
  z233:=Tryz.sizeOf53
  v233:=Tryz.zeroValue53
  g17:=by kernel_rfl
  g18:=by kernel_rfl
  g19:=by kernel_rfl
  i0:=by kernel_rfl
  i2:=by kernel_rfl
  i3:=by kernel_rfl
  i4:=by kernel_rfl
  i5:=by kernel_rfl
  i9:=by kernel_rfl
  i20:=by kernel_rfl
  i37:=by kernel_rfl
  i46:=by kernel_rfl
  i51:=by kernel_rfl
  i53:=by kernel_rfl
  i171:=by kernel_rfl
  i173:=by kernel_rfl
  i212:=by kernel_rfl
  i232:=by kernel_rfl
  i233:=by kernel_rfl
  m17:=by kernel_rfl
  m18:=by kernel_rfl
  m19:=by kernel_rfl }
open Go.RowKit Go.Sort Go.Lib in
theorem Tryz.strconv_Itoa (n : Int) (h0 : -9223372036854775808 ≤ n) (h1 : n ≤ 9223372036854775807) (w : World) (htab : Lib.TabIs Tryz.prog w "internal/strconv.uint64pow10" .u64 Lib.pow10Tab) :
    Calls Tryz.prog 109 #[.int .i64 n] w fun e w'=>e= .returned (.string ⟨(Lib.itoa n).toArray⟩)∧ ∃ k os,w'=grow (w.drewN k) os:=Any.strconv_Itoa Tryz.laysM171 n h0 h1 w htab
end Go.Proofs
namespace Go.Proofs.YtdakeodebgggfaaGreatDoor
open Go.RowKit
theorem dec_libM (n:Nat):Lib.decDigits n=dec n:=by
  induction n using Nat.strongRecOn with
  | _ n ih =>
    rw [Lib.decDigits,dec]
    split
    · rfl
    · rw [ih _ (by omega)]
theorem itoa_libM (n:Nat):Lib.itoa (n:Int)=dec n:=by
  rw [Lib.itoa,if_neg (by omega),← dec_libM]
  rfl
def powD:List D:=Lib.pow10Tab.map fun z=> .v (.int .u64 z)
theorem powG_ok : Tryz.prog.globalNamed "internal/strconv.uint64pow10" = some 0 := by kernel_rfl
theorem tab_is {w : World} {S : Nat → Prop} (h : Tab w S 0 powD) : Lib.TabIs Tryz.prog w "internal/strconv.uint64pow10" .u64 Lib.pow10Tab := by
  obtain ⟨h1,h2,arr,ty,fz,h3,h4⟩:=h
  unfold Lib.TabIs World.var?
  rw [powG_ok,Option.bind_some,h3]
  show some arr=_
  refine congrArg some (Array.ext ?_ ?_)
  · rw [h4]
    simp [powD]
  · intro i hi hj
    have hi':i<powD.length:=by omega
    generalize hp:Value.pointer (some ⟨0,0,none⟩)=u at h1
    cases h1 with
    | ptr off b o cs us hb hw hr =>
      injection hp with hp
      injection hp with hp
      injection hp with hp1 hp2
      subst hp1
      have ho:o=0:=by omega
      subst ho
      have g0:powD[i]?=some powD[i]:=List.getElem?_eq_getElem hi'
      have g1:=hw i _ g0
      have g2:=hr i _ g0
      have g3:powD[i]= .v (.int .u64 (Lib.pow10Tab[i]'(by simpa [powD] using hi'))):=by simp [powD]
      rw [g3] at g2
      generalize us i=q at g1 g2
      cases g2
      have hq:i<arr.size:=by rw [h4];exact hi'
      simp only [World.cell?,h3,Nat.zero_add,Array.getElem?_eq_getElem hq,Option.some.injEq] at g1
      simp
      injection g1
theorem itoa_m {G:Nat→Option (List D)} (hG:G 0=some powD) (n:Nat) (hn:n≤9223372036854775807):Spec Tryz.prog G 109 [.c (.v (.int .i64 n))] (.one (.c (.v (.string ⟨(dec n).toArray⟩)))):=by
  intro w S vs hS hT hA
  obtain ⟨hl,hc⟩:=hA
  match vs,hl with
  | [u],_ =>
    obtain rfl:u= .int .i64 n:=by
      have h:=hc 0 _ _ rfl rfl
      have h:RD w S (.v (.int .i64 n)) u:=h
      cases h
      rfl
    refine Calls.mono (Tryz.strconv_Itoa n (by omega) (by omega) w (tab_is (hT _ _ hG))) ?_
    rintro e w1 ⟨rfl,k,os,rfl⟩
    rw [itoa_libM]
    have hB:=Lib.below_grow w.heap.size w (Nat.le_refl _) k os
    exact ⟨⟨hB.os,hB.tape,hB.output,hB.size,fun k hk _=>hB.block k hk⟩,_,rfl,.v _ rfl⟩
theorem putlen_m {G:Nat→Option (List D)} (hG:G 0=some powD) (n:Nat) (hn:n≤9223372036854775807):Spec Tryz.prog G 76 [.c (.v (.int .i64 n))] (.one (.c (.v (.string ⟨(dec n).toArray⟩)))):=by
  refine spec_of Tryz.func76 rfl rfl rfl (by kernel_rfl) rfl fun K=>?_
  (repeat' (first|with_reducible (first|refine zA fun Kn hK=>?_|refine zB (by kernel_rfl) ?_|refine Nx.go ?_|go_step)|(refine ⟨_,itoa_m hG n hn,?_⟩)|with_reducible (first|refine zI ?_|refine zJ ?_|refine zK ?_ ?_|refine zL ?_ ?_|refine zR (by kernel_rfl) ?_)|simp (maxSteps:=9999999) (disch:=omega) only [wq]|(with_reducible refine zM (fun hb=>?_) (fun hb=>?_) <;> (try simp only [hb]))|(with_reducible refine And.intro (by first|omega|(simp;done)|(simp;omega)) ?_)|simp (maxSteps:=9999999) (implicitDefEqProofs:=false) only [go_sem,true_and]|fail))
end Go.Proofs.YtdakeodebgggfaaGreatDoor
namespace Go.Proofs.YtdakeodebgggfaaGreatDoor
open Go.ChangeShapes Go.WideShapes Go.ChangeAt Go.RowKit
theorem ownK:ownKnob Tryz.prog.godebug=none:=by kernel_rfl
theorem laidK:laidOutB Tryz.prog=true:=by kernel_rfl
theorem gPow : Tryz.prog.globalNamed "internal/strconv.uint64pow10" = some 0 := by kernel_rfl
theorem gPowType:(Tryz.prog.globals[0]?).map (·.type)=some 183:=by kernel_rfl
def laid3 {H : Type} : List (String × DataW H) := [("math/bits.deBruijn32tab", Rows.laid_math_bits_deBruijn32tab), ("math/bits.deBruijn64tab", Rows.laid_math_bits_deBruijn64tab), ("internal/strconv.uint64pow10", Rows.laid_internal_strconv_uint64pow10)]
def tabG (g:Nat):Option (List D):=if g=0 then some powD else none
theorem tabG_pow:tabG 0=some powD:=rfl
theorem tab_of {w : World} (h : Lib.TabIs Tryz.prog w "internal/strconv.uint64pow10" .u64 Lib.pow10Tab) : Tab w (fun b => b < w.heap.size) 0 powD := by
  unfold Lib.TabIs World.var? at h
  rw [powG_ok,Option.bind_some] at h
  split at h
  · rename_i arr ty fz h3
    injection h with h
    subst h
    refine ⟨?_,(Array.getElem?_eq_some_iff.1 h3).1,_,_,_,h3,by simp [powD]⟩
    refine .ptr 0 _ 0 _ (fun i=>((Lib.pow10Tab.map fun z=>Value.int .u64 z)[i]?).getD undef) (Array.getElem?_eq_some_iff.1 h3).1 (fun i x hx=>?_) fun i x hx=>?_
    all_goals
      simp only [powD,List.getElem?_map] at hx
      cases hq:Lib.pow10Tab[i]? with
      | none=>rw [hq] at hx;cases hx
      | some z =>
        rw [hq] at hx
        have hx:some (D.v (.int .u64 z))=some x:=hx
        injection hx with hx
        subst hx
        have e:(Lib.pow10Tab.map fun z=>Value.int .u64 z)[i]?=some (.int .u64 z):=by simp [hq]
        rw [e]
        first
          | exact .v _ rfl
          | (rw [Nat.zero_add]
             simp [World.cell?,h3,hq])
  · cases h
theorem tables_of_laid {W:World} (h:laidMetH Tryz.prog laid3 W):Tables tabG W (fun b=>b<W.heap.size):=by
  have h3 : laidMet Tryz.prog [("internal/strconv.uint64pow10", Lib.tabData .u64 Lib.pow10Tab)] W := laidMet.tail (laidMet.tail h)
  intro g cs hg
  unfold tabG at hg
  split at hg
  · rename_i e
    subst e
    injection hg with hg
    subst hg
    exact tab_of (Lib.tabIs_of_head (rest:=[]) gPow gPowType Tryz.underlying183 Tryz.underlying59 (by kernel_rfl) (by kernel_rfl) h3)
  · cases hg
def laidAt (k:IntKind) (zs:List Int):Obj→Obj
  | .cells _ t frozen=> .cells (zs.map fun z=> .int k z).toArray t frozen
  | o=>o
def ints {H:Type}:DataW H→List Int
  | .agg l=>l.map fun| .lit (.int _ z)=>z|_=>0
  | _=>[]
noncomputable def laidWorld (os:Os):World:=
  { World.holding Tryz.prog os ⟨#[], #[],[]⟩ with heap:=(((World.holding Tryz.prog os ⟨#[], #[],[]⟩).heap.modify 0 (laidAt .u64 (ints (H:=Unit) Rows.laid_internal_strconv_uint64pow10))).modify 1 (laidAt .u8 (ints (H:=Unit) Rows.laid_math_bits_deBruijn32tab))).modify 2 (laidAt .u8 (ints (H:=Unit) Rows.laid_math_bits_deBruijn64tab)) }
theorem laid_met (os:Os) (args:Array Value):laidMet Tryz.prog laid3 ((laidWorld os).forCall (fun _ _=>0) ⟨#[],args,[]⟩).memory:=
  laidMet_of_run' 8 (by kernel_rfl) (by kernel_rfl)
theorem opens_sexp (fuel:Nat):OpensN Tryz.prog fuel 25 Rep.tree Tree.wt:=
  opensN_tree Tryz.underlying25 (by kernel_rfl) (by kernel_rfl) Tryz.underlying4 Tryz.underlying22 Tryz.underlying5 Tryz.underlying23 (by kernel_rfl) (by kernel_rfl) (by kernel_rfl) (by kernel_rfl) fuel
theorem bulk_le {H:Type} {l:List (DataW H)} (hk:Rows.uptoSmall H l=true):Rows.uptoBulkAll l≤1048576:=of_decide_eq_true hk
end Go.Proofs.YtdakeodebgggfaaGreatDoor
namespace Go.Proofs.YtdakeodebgggfaaGreatDoor
open Go.RowKit Go.ChangeShapes Go.WideShapes Go.Deep
section
variable {P:Program} {t e:TypeId}
theorem field_at {H:Type} {enc:TypeId × Value→H} {w:World} {sp:Nat→Bool} {held:Bool} {n:Nat} {cs:List Value} {x:DataW H × List MemPlace} {fs:Array Field} (ht:P.underlying t=some (.struct fs)) (h:DataW.trod enc P w 0 sp held n t cs=some x) {L:List (Nat × Nat)} (hf:fs.toList.map (fun f=>(f.type,f.offset))=L) :
    ∃ (m:Nat) (xs:List (DataW H × List MemPlace)),n=m+1∧x.1= .agg (xs.map (·.1))∧xs.length=L.length∧cs.length=P.cellsOf t∧ ∀ (i:Nat) (p:Nat × Nat) y,L[i]?=some p→xs[i]?=some y→DataW.trod enc P w 0 sp held m p.1 ((cs.drop p.2).take (P.cellsOf p.1))=some y:=by
  obtain ⟨xs,m,rfl,rfl,hcl,hlx,hg⟩:=DataW.trod_struct ht h
  refine ⟨m,xs,rfl,rfl,by rw [hlx,← hf,List.length_map,Array.length_toList],hcl,fun i p y hp hy=>?_⟩
  rw [← hf,List.getElem?_map,Option.map_eq_some_iff] at hp
  obtain ⟨f,h1,rfl⟩:=hp
  have h1':fs[i]?=some f:=by simpa using h1
  rw [hg i f h1',hy]
theorem bytes_at {H:Type} {enc:TypeId × Value→H} {w:World} {sp:Nat→Bool} {held:Bool} {n:Nat} {cs:List Value} {x:DataW H × List MemPlace} {tB ty:TypeId} (hB:P.underlying tB=some (.slice ty)) (hy:P.underlying ty=some (.int .u8)) (cy:P.cellsOf ty=1) (h:DataW.trod enc P w 0 sp held n tB cs=some x) :
    ∃ (y:List UInt8) (A:Option Addr) (k c:Nat),cs=[.slice A k c]∧Rep.u8.sl w (fun b=>b<w.heap.size) A k c y∧y.length+1≤Rows.uptoBulk x.1:=by
  obtain ⟨y,⟨A,k,c,q,s⟩,hw⟩:=opensN_slice (r:=Rep.u8) (wt:=fun _=>1) n hB cy (fun m _=>opensN_u8 m hy cy) _ _ _ _ _ _ _ h
  simp only [sum_ones] at hw
  exact ⟨y,A,k,c,q,s,hw⟩
end
end Go.Proofs.YtdakeodebgggfaaGreatDoor
namespace Go.Proofs.YtdakeodebgggfaaGreatDoor
open Go.RowKit
theorem sclone_o {G:Nat→Option (List D)} (l:List Tree) (hl:l.length≤100000000):Spec Tryz.prog G 55 [.c (.sl l.length (l.flatMap treeC))] (.obj 7 (.a (.c (.row 7 5 0 l.length .grow))) ⟨25,(l.flatMap treeC).map C.d,false,false⟩):=by
  cases l with
  | nil =>
    refine specO_empty (pre:=[]) (post:=[]) fun A c=>?_
    refine specO_go Tryz.func55 rfl rfl rfl (by kernel_rfl) (by (iterate 2 ((try simp (maxSteps:=9999999) (implicitDefEqProofs:=false) only [go_sem,true_and]);(try simp (maxSteps:=9999999) (disch:=omega) only [wq])))) (by (iterate 2 ((try simp (maxSteps:=9999999) (implicitDefEqProofs:=false) only [go_sem,List.all_cons,List.all_nil]);(try simp (maxSteps:=9999999) (disch:=omega) only [wq])))) fun K m=>?_
    cases A with
    | none =>
      (repeat' (first|with_reducible (first|refine zA fun Kn hK=>?_|refine zB (by kernel_rfl) ?_|refine zD ?_|refine zN ?_|refine zH ?_|go_step)|fail|with_reducible (first|refine zI ?_|refine zJ ?_|refine zK ?_ ?_|refine zL ?_ ?_|refine zR (by kernel_rfl) ?_)|simp (maxSteps:=9999999) (disch:=omega) only [wq]|(with_reducible refine zM (fun hb=>?_) (fun hb=>?_) <;> (try simp only [hb]))|(with_reducible refine And.intro (by first|omega|(simp;done)|(simp;omega)) ?_)|simp (maxSteps:=9999999) (implicitDefEqProofs:=false) only [go_sem,true_and,List.flatMap_nil]|fail))
      refine sound_void 2 7 5 25 (by rfl) (by rfl) ?_
      (repeat' (first|with_reducible (first|refine zA fun Kn hK=>?_|refine zB (by kernel_rfl) ?_|refine Nx.go ?_|go_step)|refine raw_t (by rfl) (by rfl) (by rfl)|with_reducible (first|refine zI ?_|refine zJ ?_|refine zK ?_ ?_|refine zL ?_ ?_|refine zR (by kernel_rfl) ?_)|simp (maxSteps:=9999999) (disch:=omega) only [wq]|(with_reducible refine zM (fun hb=>?_) (fun hb=>?_) <;> (try simp only [hb]))|(with_reducible refine And.intro (by first|omega|(simp;done)|(simp;omega)) ?_)|simp (maxSteps:=9999999) (implicitDefEqProofs:=false) only [go_sem,true_and,List.flatMap_nil,List.map_nil]|fail))
    | some A=>(repeat' (first|with_reducible (first|refine zA fun Kn hK=>?_|refine zB (by kernel_rfl) ?_|refine Nx.go ?_|go_step)|refine raw_t (by rfl) (by rfl) (by rfl)|with_reducible (first|refine zI ?_|refine zJ ?_|refine zK ?_ ?_|refine zL ?_ ?_|refine zR (by kernel_rfl) ?_)|simp (maxSteps:=9999999) (disch:=omega) only [wq]|(with_reducible refine zM (fun hb=>?_) (fun hb=>?_) <;> (try simp only [hb]))|(with_reducible refine And.intro (by first|omega|(simp;done)|(simp;omega)) ?_)|simp (maxSteps:=9999999) (implicitDefEqProofs:=false) only [go_sem,true_and,List.flatMap_nil,List.map_nil]|fail))
  | cons x l =>
    generalize hn:x::l=k at *
    have h0:0<k.length:=by rw [← hn];simp
    refine specO_go Tryz.func55 rfl rfl rfl (by kernel_rfl) (by (iterate 2 ((try simp (maxSteps:=9999999) (implicitDefEqProofs:=false) only [go_sem,true_and]);(try simp (maxSteps:=9999999) (disch:=omega) only [wq])))) (by (iterate 2 ((try simp (maxSteps:=9999999) (implicitDefEqProofs:=false) only [go_sem,List.all_cons,List.all_nil]);(try simp (maxSteps:=9999999) (disch:=omega) only [wq])))) fun K m=>?_
    (repeat' (first|with_reducible (first|refine zA fun Kn hK=>?_|refine zB (by kernel_rfl) ?_|refine Nx.go ?_|go_step)|refine raw_t (by rfl) (by rfl) (by rfl)|with_reducible (first|refine zI ?_|refine zJ ?_|refine zK ?_ ?_|refine zL ?_ ?_|refine zR (by kernel_rfl) ?_)|simp (maxSteps:=9999999) (disch:=omega) only [wq]|(with_reducible refine zM (fun hb=>?_) (fun hb=>?_) <;> (try simp only [hb]))|(with_reducible refine And.intro (by first|omega|(simp;done)|(simp;omega)) ?_)|simp (maxSteps:=9999999) (implicitDefEqProofs:=false) only [go_sem,List.length_map]|fail))
theorem clone_m {G:Nat→Option (List D)}: ∀ t:Tree,∀ cs:List D,treeC t=cs→t.wt≤10000000→Spec Tryz.prog G 24 [.g cs] (.one (.g cs)):=Tree.ind fun t ih cs hcs hw=>by
  subst hcs
  refine spec_of Tryz.func24 rfl rfl rfl (by kernel_rfl) rfl fun K=>?_
  rw [treeC_eq]
  have hlh:=t.wt_hint
  have hld:=t.wt_data
  have hlk:=t.wt_kids
  (repeat' (first|with_reducible (first|refine zA fun Kn hK=>?_|refine zB (by kernel_rfl) ?_|refine Nx.go ?_|go_step)|(refine ⟨_,bclone_m t.hint (by omega),?_⟩)|(refine ⟨_,bclone_m t.data (by omega),?_⟩)|(refine ⟨_,sclone_o t.kids (by omega),?_⟩)|with_reducible (first|refine zI ?_|refine zJ ?_|refine zK ?_ ?_|refine zL ?_ ?_|refine zR (by kernel_rfl) ?_)|simp (maxSteps:=9999999) (disch:=omega) only [wq]|(with_reducible refine zM (fun hb=>?_) (fun hb=>?_) <;> (try simp only [hb]))|(with_reducible refine And.intro (by first|omega|(simp;done)|(simp;omega)) ?_)|simp (maxSteps:=9999999) (implicitDefEqProofs:=false) only [go_sem,true_and]|fail))
  refine sound_loopR (fun x:{k:Nat // k≤t.kids.length}=>⟨[(1,vP 1 0),(2,vP 2 0),(18,vR 13 5 t.kids.length),(19,vI t.kids.length),(20,vI x.1)],
    [(1,some ⟨25,[.d (.v (.bool t.list)),.d (.v (.bool t.hinted)),.d (bytesD t.hint),.d (bytesD t.data),.row 13 5 0 t.kids.length .grow],true,false⟩),(13,some ⟨25,(t.kids.flatMap treeC).map C.d,false,false⟩),(2,some ⟨25,zeroOf Tryz.prog 25,true,false⟩)]⟩)
    (fun x=>t.kids.length-x.1) ⟨0,by omega⟩ [] (by (iterate 2 ((try simp (maxSteps:=9999999) (implicitDefEqProofs:=false) only [go_sem,true_and]);(try simp (maxSteps:=9999999) (disch:=omega) only [wq])));simp) (fun ⟨k,hk⟩=>?_)
  by_cases hlt:k<t.kids.length
  · obtain ⟨x,hx⟩: ∃ x,t.kids[k]?=some x:=⟨_,List.getElem?_eq_getElem hlt⟩
    have hb:decide ((k:Int)<(t.kids.length:Int))=true:=by simpa using hlt
    have hm:=List.mem_of_getElem? hx
    have hfa:=flat_atC treeC_len hx
    have hss:=splice_same hfa
    (repeat' (first|with_reducible (first|refine zA fun Kn hK=>?_|refine zB (by kernel_rfl) ?_|refine Nx.go ?_|go_step)|(refine ⟨_,ih x hm _ rfl (by have:=Tree.wt_kid hm;omega),?_⟩)|with_reducible (first|refine zI ?_|refine zJ ?_|refine zK ?_ ?_|refine zL ?_ ?_|refine zR (by kernel_rfl) ?_)|simp (maxSteps:=9999999) (disch:=omega) only [wq]|(with_reducible refine zM (fun hb=>?_) (fun hb=>?_) <;> (try simp only [hb]))|(with_reducible refine And.intro (by first|omega|(simp;done)|(simp;omega)) ?_)|simp (maxSteps:=9999999) (implicitDefEqProofs:=false) only [go_sem,hb,hfa,hss,List.length_map]|fail))
    refine ⟨[],⟨k+1,hlt⟩,?_⟩
    (iterate 2 ((try simp (maxSteps:=9999999) (implicitDefEqProofs:=false) only [go_sem,true_and]);(try simp (maxSteps:=9999999) (disch:=omega) only [wq])))
    try (simp only [ijq,true_and,and_true];first|done|omega|(split <;> omega)|(simp;done)|(simp;omega))
  · have hb:decide ((k:Int)<(t.kids.length:Int))=false:=by simpa using hlt
    obtain rfl:k=t.kids.length:=by omega
    (repeat' (first|with_reducible (first|refine zA fun Kn hK=>?_|refine zB (by kernel_rfl) ?_|refine Nx.go ?_|go_step)|fail|with_reducible (first|refine zI ?_|refine zJ ?_|refine zK ?_ ?_|refine zL ?_ ?_|refine zR (by kernel_rfl) ?_)|simp (maxSteps:=9999999) (disch:=omega) only [wq]|(with_reducible refine zM (fun hb=>?_) (fun hb=>?_) <;> (try simp only [hb]))|(with_reducible refine And.intro (by first|omega|(simp;done)|(simp;omega)) ?_)|simp (maxSteps:=9999999) (implicitDefEqProofs:=false) only [go_sem,hb]|fail))
end Go.Proofs.YtdakeodebgggfaaGreatDoor
namespace Go.Proofs.YtdakeodebgggfaaGreatDoor
open Go.RowKit
theorem same_t {t u:Tree} (h:t=u):t.same u=true:=by
  unfold Tree.same
  exact @decide_eq_true _ (Classical.propDecidable _) h
theorem same_f {t u:Tree} (h:t≠u):t.same u=false:=by
  unfold Tree.same
  exact @decide_eq_false _ (Classical.propDecidable _) h
theorem same_of {t u:Tree} (h:t.same u=true):t=u:=by
  refine Classical.byContradiction fun hn=>?_
  rw [same_f hn] at h
  cases h
theorem sameref_m {G:Nat→Option (List D)}: ∀ (t u:Tree) (cs ds:List D),treeC t=cs→treeC u=ds→t.wt≤1000000000→Spec Tryz.prog G 26 [.g cs,.g ds] (.one (.c (.v (.bool (t.same u))))):=Tree.ind fun t ih u cs ds hcs hds hw=>by
  subst hcs hds
  refine spec_of Tryz.func26 rfl rfl rfl (by kernel_rfl) rfl fun K=>?_
  rw [treeC_eq t,treeC_eq u]
  refine zA fun Kn hK=>?_
  refine zB (by kernel_rfl) ?_
  (iterate 2 ((try simp (maxSteps:=9999999) (implicitDefEqProofs:=false) only [go_sem,true_and]);(try simp (maxSteps:=9999999) (disch:=omega) only [wq])))
  refine hK _ ?_;clear hK;clear Kn
  refine zA fun Kn hK=>?_
  have hL : (t.list=u.list∧t.hinted=u.hinted∧t.hint=u.hint∧t.data=u.data∧t.kids.length=u.kids.length)→ ∀ s,LessL (renK []) ⟨[(2,vP 2 0),(3,vP 3 0)],[(2,some ⟨25,treeK t,true,false⟩),(3,some ⟨25,treeK u,true,false⟩)]⟩ (Fr0 Tryz.f26.ntmps) s→Kn s:=by
    intro hf s hl
    refine hK _ (sound_lessR _ _ hl ?_)
    clear hK hl
    (repeat' (first|with_reducible (first|refine zA fun Kn hK=>?_|refine zB (by kernel_rfl) ?_|refine Nx.go ?_|go_step)|fail|with_reducible (first|refine zI ?_|refine zJ ?_|refine zK ?_ ?_|refine zL ?_ ?_|refine zR (by kernel_rfl) ?_)|simp (maxSteps:=9999999) (disch:=omega) only [wq]|(with_reducible refine zM (fun hb=>?_) (fun hb=>?_) <;> (try simp only [hb]))|(with_reducible refine And.intro (by first|omega|(simp;done)|(simp;omega)) ?_)|simp (maxSteps:=9999999) (implicitDefEqProofs:=false) only [go_sem,true_and]|fail))
    refine sound_loopR (fun x:{k:Nat // k≤t.kids.length∧t.kids.take k=u.kids.take k}=>⟨[(2,vP 2 0),(3,vP 3 0),(47,vI t.kids.length),(48,vI x.1)],[(2,some ⟨25,treeK t,true,false⟩),(3,some ⟨25,treeK u,true,false⟩)]⟩) (fun x=>t.kids.length-x.1) ⟨0,by simp⟩ [] (by simp (maxSteps:=9999999) (implicitDefEqProofs:=false) only [go_sem];simp) (fun ⟨k,hk,hall⟩=>?_)
    have h5:=t.wt_kids
    by_cases hlt:k<t.kids.length
    · obtain ⟨x,hx⟩: ∃ x,t.kids[k]?=some x:=⟨_,List.getElem?_eq_getElem hlt⟩
      obtain ⟨y,hy⟩: ∃ y,u.kids[k]?=some y:=⟨_,List.getElem?_eq_getElem (by omega)⟩
      have hb:decide ((k:Int)<(t.kids.length:Int))=true:=by simpa using hlt
      have hm:=List.mem_of_getElem? hx
      (repeat' (first|with_reducible (first|refine zA fun Kn hK=>?_|refine zB (by kernel_rfl) ?_|refine Nx.go ?_|go_step)|(refine ⟨_,ih x hm y _ _ rfl rfl (by have:=Tree.wt_kid hm;omega),?_⟩)|with_reducible (first|refine zI ?_|refine zJ ?_|refine zK ?_ ?_|refine zL ?_ ?_|refine zR (by kernel_rfl) ?_)|simp (maxSteps:=9999999) (disch:=omega) only [wq]|(with_reducible refine zM (fun hb=>?_) (fun hb=>?_) <;> (try simp only [hb]))|(with_reducible refine And.intro (by first|omega|(simp;done)|(simp;omega)) ?_)|simp (maxSteps:=9999999) (implicitDefEqProofs:=false) only [go_sem,hb,flat_at treeC_len hx,flat_at treeC_len hy]|fail))
      · refine ⟨[],⟨k+1,hlt,?_⟩,?_⟩
        · rw [List.take_add_one,List.take_add_one,hx,hy,hall,same_of hb]
        · (iterate 2 ((try simp (maxSteps:=9999999) (implicitDefEqProofs:=false) only [go_sem,true_and,or_false]);(try simp (maxSteps:=9999999) (disch:=omega) only [wq])))
          (simp only [ijq,true_and,and_true];first|done|omega|(split <;> omega)|(simp;done)|(simp;omega))
      · rw [same_f]
        rintro rfl
        rw [hx] at hy
        injection hy with hy
        rw [same_t hy] at hb
        cases hb
    · have hb:decide ((k:Int)<(t.kids.length:Int))=false:=by simpa using hlt
      obtain rfl:k=t.kids.length:=by omega
      (repeat' (first|with_reducible (first|refine zA fun Kn hK=>?_|refine zB (by kernel_rfl) ?_|refine Nx.go ?_|go_step)|fail|with_reducible (first|refine zI ?_|refine zJ ?_|refine zK ?_ ?_|refine zL ?_ ?_|refine zR (by kernel_rfl) ?_)|simp (maxSteps:=9999999) (disch:=omega) only [wq]|(with_reducible refine zM (fun hb=>?_) (fun hb=>?_) <;> (try simp only [hb]))|(with_reducible refine And.intro (by first|omega|(simp;done)|(simp;omega)) ?_)|simp (maxSteps:=9999999) (implicitDefEqProofs:=false) only [go_sem,hb]|fail))
      rw [List.take_length,hf.2.2.2.2,List.take_length] at hall
      rw [same_t (Tree.ext_iff.2 ⟨hf.1,hf.2.1,hf.2.2.1,hf.2.2.2.1,hall⟩)]
  clear hK
  (repeat' (first|with_reducible (first|refine zA fun Kn hK=>?_|refine zB (by kernel_rfl) ?_|refine Nx.go ?_|go_step)|(refine hL (by refine ⟨?_,?_,?_,?_,?_⟩ <;> first|(simp_all;done)|(simp_all;omega)) _ ?_)|with_reducible (first|refine zI ?_|refine zJ ?_|refine zK ?_ ?_|refine zL ?_ ?_|refine zR (by kernel_rfl) ?_)|simp (maxSteps:=9999999) (disch:=omega) only [wq]|(with_reducible refine zM (fun hb=>?_) (fun hb=>?_) <;> (try simp only [hb]))|(with_reducible refine And.intro (by first|omega|(simp;done)|(simp;omega)) ?_)|simp (maxSteps:=9999999) (implicitDefEqProofs:=false) only [go_sem,true_and]|fail))
  all_goals first|(simp;done)|(rw [same_f];rintro rfl;simp at hb)
end Go.Proofs.YtdakeodebgggfaaGreatDoor
namespace Go.Proofs.YtdakeodebgggfaaGreatDoor
open Go.RowKit
end Go.Proofs.YtdakeodebgggfaaGreatDoor
namespace Go.Proofs.YtdakeodebgggfaaGreatDoor
def okT (t:Tree) (n d:Nat):Bool:=t.clean&&decide (n+t.nodes≤512)&&decide (t.deep+d≤17)
theorem Tree.nodes_pos (t:Tree):1≤t.nodes:=by rw [Tree.nodes_eq];omega
theorem okT_many {t:Tree} {n d:Nat} (h:512<n+1):okT t n d=false:=by
  have:=t.nodes_pos
  simp [okT]
  intro _ _
  omega
theorem okT_unfair {t:Tree} {n d:Nat} (h:t.fair=false):okT t n d=false:=by simp [okT,Tree.clean_eq,h]
theorem okT_atom {t:Tree} {n d:Nat} (hl:t.list=false) (hf:t.fair=true) (hk:t.kids=[]) (hn:n+1≤512) (hd:d≤17):okT t n d=true:=by
  have h1:t.nodes=1:=by rw [Tree.nodes_eq,hk];rfl
  have h2:t.deep=0:=by rw [Tree.deep_eq,hl];rfl
  simp [okT,Tree.clean_eq,hf,hk,h1,h2]
  omega
theorem okT_deep {t:Tree} {n d:Nat} (hl:t.list=true) (h:16<d):okT t n d=false:=by
  have h1:1≤t.deep:=by rw [Tree.deep_eq,hl];simp
  simp [okT]
  intro _ _
  omega
def CInv (t:Tree) (n d k:Nat):Prop:=
  (t.kids.take k).all Tree.clean=true∧n+1+((t.kids.take k).map Tree.nodes).sum≤512∧ ∀ x∈t.kids.take k,x.deep+(d+1)≤17
theorem CInv.zero {t:Tree} {n d:Nat} (h:n+1≤512):CInv t n d 0:=⟨by simp,by simpa using h,by simp⟩
theorem okT_parts {x:Tree} {m d:Nat} (h:okT x m d=true):x.clean=true∧m+x.nodes≤512∧x.deep+d≤17:=by
  simp [okT] at h
  exact ⟨h.1.1,h.1.2,h.2⟩
theorem CInv.step {t x:Tree} {n d k:Nat} (h:CInv t n d k) (hx:t.kids[k]?=some x) (ho:okT x (n+1+((t.kids.take k).map Tree.nodes).sum) (d+1)=true):CInv t n d (k+1):=by
  obtain ⟨h1,h2,h3⟩:=h
  obtain ⟨o1,o2,o3⟩:=okT_parts ho
  refine ⟨by rw [List.take_add_one,hx,Option.toList_some,List.all_append,List.all_cons,List.all_nil,Bool.and_true,h1,o1];rfl,by rw [sum_at Tree.nodes hx];omega,fun y hy=>?_⟩
  rw [List.take_add_one,hx] at hy
  simp only [Option.toList_some,List.mem_append,List.mem_singleton] at hy
  rcases hy with hy|rfl
  · exact h3 y hy
  · exact o3
theorem CInv.done {t:Tree} {n d k:Nat} (h:CInv t n d k) (hk:t.kids.length≤k) (hl:t.list=true) (hf:t.fair=true) (hd:d≤16):okT t n d=true:=by
  obtain ⟨h1,h2,h3⟩:=h
  rw [List.take_of_length_le hk] at h1 h2 h3
  have e1:t.clean=true:=by rw [Tree.clean_eq,hf,h1];rfl
  have e2:n+t.nodes≤512:=by rw [Tree.nodes_eq];omega
  have e3:t.deep+d≤17:=by
    have:most (t.kids.map Tree.deep)≤16-d:=most_le.2 fun m hm=>by
      obtain ⟨x,hx,rfl⟩:=List.mem_map.1 hm
      have:=h3 x hx
      omega
    rw [Tree.deep_eq,hl]
    simp only [if_true]
    omega
  simp [okT,e1,e2,e3]
theorem okT_kid {t x:Tree} {n d k:Nat} (hl:t.list=true) (hx:t.kids[k]?=some x) (ho:okT x (n+1+((t.kids.take k).map Tree.nodes).sum) (d+1)=false):okT t n d=false:=by
  cases hq:okT t n d with
  | false=>rfl
  | true =>
    obtain ⟨o1,o2,o3⟩:=okT_parts hq
    have hm:=List.mem_of_getElem? hx
    have e1:x.clean=true:=by
      rw [Tree.clean_eq,Bool.and_eq_true,List.all_eq_true] at o1
      exact o1.2 x hm
    have e2:n+1+((t.kids.take k).map Tree.nodes).sum+x.nodes≤512:=by
      rw [Tree.nodes_eq] at o2
      have:=sum_upto (l:=t.kids) (k:=k+1) Tree.nodes
      rw [sum_at Tree.nodes hx] at this
      omega
    have e3:x.deep+(d+1)≤17:=by
      rw [Tree.deep_eq,hl] at o3
      simp only [if_true] at o3
      have:x.deep≤most (t.kids.map Tree.deep):=most_le.1 (Nat.le_refl _) _ (List.mem_map.2 ⟨x,hm,rfl⟩)
      omega
    rw [okT,e1,decide_eq_true e2,decide_eq_true e3] at ho
    cases ho
theorem form_list {t:Tree} (hl:t.list=true):t.form.length=2+(t.kids.map Tree.form).flatten.length:=by
  rw [Tree.form_eq,hl]
  simp only [if_true,List.length_append,List.length_singleton]
  omega
theorem form_atom {t:Tree} (hl:t.list=false):t.form.length=(if t.hinted then 2+(textB t.hint).length else 0)+(textB t.data).length:=by
  rw [Tree.form_eq,hl,Tree.atomF]
  simp only [Bool.false_eq_true,if_false,List.length_append]
  split <;> simp only [List.length_append,List.length_singleton,List.length_nil] <;> omega
def rightF (t:Tree) (n s d:Nat):Bool × Nat × Nat:=
  if 512<n+1 then (false,n+1,s)
  else if t.list then
    if (decide (16<d)||t.hinted||decide (0<t.hint.length+t.data.length)) then (false,n+1,s)
    else t.kids.attach.foldl (fun st x=>if st.1 then rightF x.1 st.2.1 st.2.2 (d+1) else st) (true,n+1,s+2)
  else (t.kids.length==0&&(t.hinted||t.hint.length==0),n+1,s+(if t.hinted then 2+(textB t.hint).length else 0)+(textB t.data).length)
termination_by SizeOf.sizeOf t
decreasing_by exact Tree.kid_lt x.2
def rightK (d:Nat) (st:Bool × Nat × Nat) (x:Tree):Bool × Nat × Nat:=if st.1 then rightF x st.2.1 st.2.2 (d+1) else st
theorem rightF_eq (t:Tree) (n s d:Nat):rightF t n s d=if 512<n+1 then (false,n+1,s)
  else if t.list then
    if (decide (16<d)||t.hinted||decide (0<t.hint.length+t.data.length)) then (false,n+1,s)
    else t.kids.foldl (rightK d) (true,n+1,s+2)
  else (t.kids.length==0&&(t.hinted||t.hint.length==0),n+1,s+(if t.hinted then 2+(textB t.hint).length else 0)+(textB t.data).length):=by
  rw [rightF]
  have:t.kids.attach.foldl (fun st x=>if st.1 then rightF x.1 st.2.1 st.2.2 (d+1) else st) (true,n+1,s+2)=t.kids.foldl (rightK d) (true,n+1,s+2):=by
    conv=>rhs;rw [← List.attach_map_subtype_val t.kids,List.foldl_map]
    rfl
  rw [this]
theorem foldl_at {α β:Type} {f:β→α→β} {l:List α} {k:Nat} {x:α} {b:β} (h:l[k]?=some x):(l.take (k+1)).foldl f b=f ((l.take k).foldl f b) x:=by
  rw [List.take_add_one,h]
  simp
structure RightOk (t:Tree) (n s d:Nat):Prop where
  cn:(rightF t n s d).2.1≤513
  cs:(rightF t n s d).2.2≤s+t.form.length
  ok:(rightF t n s d).1=okT t n d
  yes:(rightF t n s d).1=true→(rightF t n s d).2.1=n+t.nodes∧(rightF t n s d).2.2=s+t.form.length
theorem fair_list {t:Tree} {d:Nat} (hl:t.list=true):(decide (16<d)||t.hinted||decide (0<t.hint.length+t.data.length))=(decide (16<d)|| !t.fair):=by
  unfold Tree.fair
  rw [hl]
  simp only [if_true]
  rw [Bool.eq_iff_iff]
  have h9:(0<t.hint.length+t.data.length)↔ ¬ (t.hint.length=0∧t.data.length=0):=by omega
  cases t.hinted <;> simp only [h9] <;> by_cases h16:16<d <;> by_cases ha:t.hint.length=0 <;> by_cases hb:t.data.length=0 <;> simp [h16,ha,hb]
theorem rightF_kids {t:Tree} {n s d:Nat} (hl:t.list=true) (hn:n+1≤512) (hd:d≤16) (ih: ∀ x∈t.kids,∀ n s d,n≤512→d≤17→RightOk x n s d): ∀ k,k≤t.kids.length →
    let st:=(t.kids.take k).foldl (rightK d) (true,n+1,s+2)
    st.2.1≤513∧st.2.2≤s+2+((t.kids.take k).map fun x=>x.form.length).sum∧(st.1=true→CInv t n d k∧st.2.1=n+1+((t.kids.take k).map Tree.nodes).sum∧st.2.2=s+2+((t.kids.take k).map fun x=>x.form.length).sum)∧(st.1=false→okT t n d=false)
  | 0,_=>by
    refine ⟨by simp;omega,by simp,fun _=>⟨CInv.zero hn,by simp,by simp⟩,fun h=>by cases h⟩
  | k + 1,hk=>by
    obtain ⟨x,hx⟩: ∃ x,t.kids[k]?=some x:=⟨_,List.getElem?_eq_getElem hk⟩
    have h:=rightF_kids (n:=n) (s:=s) (d:=d) hl hn hd ih k (by omega)
    intro st
    have hst:st=rightK d ((t.kids.take k).foldl (rightK d) (true,n+1,s+2)) x:=foldl_at hx
    have hs:=sum_at (fun x:Tree=>x.form.length) hx
    have hs2:=sum_at Tree.nodes hx
    generalize (t.kids.take k).foldl (rightK d) (true,n+1,s+2)=st0 at h hst
    obtain ⟨h1,h2,h3,h4⟩:=h
    rw [hst]
    unfold rightK
    split
    · rename_i hb
      obtain ⟨c1,c2,c3⟩:=h3 hb
      have hr:=ih x (List.mem_of_getElem? hx) st0.2.1 st0.2.2 (d+1) (by rw [c2];exact c1.2.1) (by omega)
      refine ⟨hr.cn,?_,fun hy=>?_,fun hf=>?_⟩
      · rw [hs]
        have:=hr.cs
        omega
      · obtain ⟨y1,y2⟩:=hr.yes hy
        refine ⟨c1.step hx ?_,by rw [y1,hs2];omega,by rw [y2,hs];omega⟩
        rw [← c2,← hr.ok]
        exact hy
      · refine okT_kid hl hx ?_
        rw [← c2,← hr.ok]
        exact hf
    · rename_i hb
      refine ⟨h1,?_,fun hy=>absurd hy hb,fun _=>h4 (by simpa using hb)⟩
      show st0.2.2≤_
      rw [hs]
      omega
theorem form_sum {t:Tree} (hl:t.list=true):t.form.length=2+(t.kids.map fun x=>x.form.length).sum:=by
  rw [form_list hl,List.length_flatten,List.map_map]
  rfl
theorem right_ok: ∀ (t:Tree) (n s d:Nat),n≤512→d≤17→RightOk t n s d:=Tree.ind fun t ih n s d hn hd=>by
  have he:=rightF_eq t n s d
  by_cases h1:512<n+1
  · rw [if_pos h1] at he
    exact ⟨by rw [he];show n+1≤513;omega,by rw [he];exact Nat.le_add_right _ _,by rw [he,okT_many h1],fun h=>by rw [he] at h;cases h⟩
  rw [if_neg h1] at he
  cases hl:t.list with
  | true =>
    rw [hl,if_pos rfl,fair_list hl] at he
    by_cases h2:(decide (16<d)|| !t.fair)=true
    · rw [if_pos h2] at he
      refine ⟨by rw [he];show n+1≤513;omega,by rw [he];exact Nat.le_add_right _ _,?_,fun h=>by rw [he] at h;cases h⟩
      rw [he]
      simp only [Bool.or_eq_true,decide_eq_true_eq,Bool.not_eq_true'] at h2
      rcases h2 with h2|h2
      · rw [okT_deep hl h2]
      · rw [okT_unfair h2]
    · rw [if_neg h2] at he
      simp only [Bool.or_eq_true,decide_eq_true_eq,Bool.not_eq_true',not_or,Bool.not_eq_false] at h2
      have hk:=rightF_kids (n:=n) (s:=s) (d:=d) hl (by omega) (by omega) ih t.kids.length (Nat.le_refl _)
      simp only [List.take_length] at hk
      rw [← he] at hk
      obtain ⟨k1,k2,k3,k4⟩:=hk
      have hf:=form_sum hl
      refine ⟨k1,by omega,?_,fun hy=>?_⟩
      · cases hb:(rightF t n s d).1 with
        | false=>rw [k4 hb]
        | true=>rw [(k3 hb).1.done (Nat.le_refl _) hl h2.2 (by omega)]
      · obtain ⟨c1,c2,c3⟩:=k3 hy
        exact ⟨by rw [c2,Tree.nodes_eq];omega,by rw [c3,hf];omega⟩
  | false =>
    rw [hl,if_neg (by simp)] at he
    have hf:=form_atom hl
    have hfair:t.fair=(t.kids.length==0&&(t.hinted||t.hint.length==0)):=by rw [Tree.fair,hl];rfl
    rw [← hfair] at he
    refine ⟨by rw [he];show n+1≤513;omega,by rw [he];show s+_+_≤_;omega,?_,fun hy=>?_⟩
    · rw [he]
      show t.fair=_
      cases hb:t.fair with
      | false=>rw [okT_unfair hb]
      | true =>
        have hb2:=hb
        rw [hfair,Bool.and_eq_true] at hb2
        rw [okT_atom hl hb (List.eq_nil_of_length_eq_zero (by simpa using hb2.1)) (by omega) hd]
    · rw [he] at hy
      have hy:t.fair=true:=hy
      rw [hfair,Bool.and_eq_true] at hy
      have hk:t.kids=[]:=List.eq_nil_of_length_eq_zero (by simpa using hy.1)
      rw [he]
      exact ⟨by rw [Tree.nodes_eq,hk];rfl,by show s+_+_=_;omega⟩
theorem may_okT (t:Tree):t.may=(okT t 0 1&&decide (t.form.length≤4096)):=by
  rw [Tree.may,okT,Nat.zero_add]
  congr 2
  rw [decide_eq_decide]
  omega
theorem rightK_stop {d:Nat}: ∀ (l:List Tree) (st:Bool × Nat × Nat),st.1=false→l.foldl (rightK d) st=st
  | [],_,_=>rfl
  | x::l,st,h=>by
    have:rightK d st x=st:=by simp [rightK,h]
    rw [List.foldl_cons,this,rightK_stop l st h]
theorem rightK_end {d k:Nat} {l:List Tree} {st0:Bool × Nat × Nat} (h:((l.take k).foldl (rightK d) st0).1=false):l.foldl (rightK d) st0=(l.take k).foldl (rightK d) st0:=by
  conv=>lhs;rw [← List.take_append_drop k l,List.foldl_append]
  exact rightK_stop _ _ h
end Go.Proofs.YtdakeodebgggfaaGreatDoor
namespace Go.Proofs.YtdakeodebgggfaaGreatDoor
open Go.RowKit
@[go_sem] def cntO (n s:Int):AObj:=⟨113,[.d (.v (.int .i64 n)),.d (.v (.int .i64 s))],true,false⟩
theorem cbytes_m {G:Nat→Option (List D)} (hG:G 0=some powD) (b:List UInt8) (n s:Int) (hb:b.length≤10000000) (h0:0≤s) (hs:s≤1000000000000) :
    SpecO Tryz.prog G 108 [.c (.ptr 0 0),.c (.d (bytesD b))] [(0,cntO n s)] (.ret (.tup []) [(0,some (cntO n (s+(textB b).length)))]):=by
  have hl:=textB_len (b:=b) (n:=10000000) hb (by omega)
  have he:(textB b).length=(dec b.length).length+1+b.length:=by simp [textB];omega
  refine specO_go Tryz.func108 rfl rfl rfl (by kernel_rfl) (by (iterate 2 ((try simp (maxSteps:=9999999) (implicitDefEqProofs:=false) only [go_sem,true_and]);(try simp (maxSteps:=9999999) (disch:=omega) only [wq])))) (by (iterate 2 ((try simp (maxSteps:=9999999) (implicitDefEqProofs:=false) only [go_sem,List.all_cons,List.all_nil]);(try simp (maxSteps:=9999999) (disch:=omega) only [wq])))) fun K m=>?_
  (repeat' (first|with_reducible (first|refine zA fun Kn hK=>?_|refine zB (by kernel_rfl) ?_|refine Nx.go ?_|go_step)|(refine ⟨_,putlen_m hG b.length (by omega),?_⟩)|refine raw_f ?_|with_reducible (first|refine zI ?_|refine zJ ?_|refine zK ?_ ?_|refine zL ?_ ?_|refine zR (by kernel_rfl) ?_)|simp (maxSteps:=9999999) (disch:=omega) only [wq]|(with_reducible refine zM (fun hb=>?_) (fun hb=>?_) <;> (try simp only [hb]))|(with_reducible refine And.intro (by first|omega|(simp;done)|(simp;omega)) ?_)|simp (maxSteps:=9999999) (implicitDefEqProofs:=false) only [go_sem,str_size]|fail))
  (simp only [Option.some.injEq,AObj.mk.injEq,List.cons.injEq,SV.a.injEq,AV.c.injEq,C.d.injEq,D.v.injEq,Value.int.injEq,true_and,and_true];first|done|omega|(simp;done)|(simp;omega))
theorem right_m {G:Nat→Option (List D)} (hG:G 0=some powD): ∀ (t:Tree) (cs:List D) (n s d:Nat),treeC t=cs→t.wt≤10000000→n≤512→d≤17→s+t.form.length≤1000000000 →
    SpecO Tryz.prog G 75 [.c (.ptr 0 0),(DV.g cs).av,.c (.d (.v (.int .i64 d)))] [(0,cntO n s)] (.ret (vB (rightF t n s d).1) [(0,some (cntO (rightF t n s d).2.1 (rightF t n s d).2.2))]):=Tree.ind fun t ih cs n s d hcs hw hn hd hs=>by
  subst hcs
  rw [treeC_eq]
  refine specO_go Tryz.func75 rfl rfl rfl (by kernel_rfl) (by (iterate 2 ((try simp (maxSteps:=9999999) (implicitDefEqProofs:=false) only [go_sem,true_and]);(try simp (maxSteps:=9999999) (disch:=omega) only [wq])))) (by (iterate 2 ((try simp (maxSteps:=9999999) (implicitDefEqProofs:=false) only [go_sem,List.all_cons,List.all_nil]);(try simp (maxSteps:=9999999) (disch:=omega) only [wq])))) fun K m=>?_
  have hlh:=t.wt_hint
  have hld:=t.wt_data
  have hlk:=t.wt_kids
  have hth:=textB_len (b:=t.hint) (n:=10000000) (by omega) (by omega)
  have he:=rightF_eq t n s d
  by_cases h1:512<n+1
  · rw [if_pos h1] at he
    rw [he]
    have d1:decide ((512:Int)<(n:Int)+1)=true:=decide_eq_true (by omega)
    (repeat' (first|with_reducible (first|refine zA fun Kn hK=>?_|refine zB (by kernel_rfl) ?_|refine Nx.go ?_|go_step)|refine raw_f ?_|with_reducible (first|refine zI ?_|refine zJ ?_|refine zK ?_ ?_|refine zL ?_ ?_|refine zR (by kernel_rfl) ?_)|simp (maxSteps:=9999999) (disch:=omega) only [wq]|(with_reducible refine zM (fun hb=>?_) (fun hb=>?_) <;> (try simp only [hb]))|(with_reducible refine And.intro (by first|omega|(simp;done)|(simp;omega)) ?_)|simp (maxSteps:=9999999) (implicitDefEqProofs:=false) only [go_sem,d1,gt_iff_lt]|fail))
    (simp only [Option.some.injEq,AObj.mk.injEq,List.cons.injEq,SV.a.injEq,AV.c.injEq,C.d.injEq,D.v.injEq,Value.int.injEq,true_and,and_true];first|done|omega|(simp;done)|(simp;omega))
  have d1:decide ((512:Int)<(n:Int)+1)=false:=decide_eq_false (by omega)
  rw [if_neg h1] at he
  cases hl:t.list with
  | false =>
    rw [hl,if_neg (by simp)] at he
    rw [he]
    have hf:=form_atom hl
    cases hh:t.hinted with
    | false =>
      rw [hh] at hf
      (repeat' (first|with_reducible (first|refine zA fun Kn hK=>?_|refine zB (by kernel_rfl) ?_|refine Nx.go ?_|go_step)|(refine ⟨some [0],?_⟩)|(refine ⟨_,cbytes_m hG t.data _ _ (by omega) (by omega) (by omega),?_⟩)|refine raw_f ?_|with_reducible (first|refine zI ?_|refine zJ ?_|refine zK ?_ ?_|refine zL ?_ ?_|refine zR (by kernel_rfl) ?_)|simp (maxSteps:=9999999) (disch:=omega) only [wq]|(with_reducible refine zM (fun hb=>?_) (fun hb=>?_) <;> (try simp only [hb]))|(with_reducible refine And.intro (by first|omega|(simp;done)|(simp;omega)) ?_)|simp (maxSteps:=9999999) (implicitDefEqProofs:=false) only [go_sem,d1,hl,hh,gt_iff_lt,int_beq0]|fail))
      all_goals first|(simp only [Option.some.injEq,AObj.mk.injEq,List.cons.injEq,SV.a.injEq,AV.c.injEq,C.d.injEq,D.v.injEq,Value.int.injEq,true_and,and_true];first|done|omega|(simp;done)|(simp;omega))|rfl|(simp only [*];rfl)|(simp [*];done)
    | true =>
      rw [hh] at hf
      (repeat' (first|with_reducible (first|refine zA fun Kn hK=>?_|refine zB (by kernel_rfl) ?_|refine Nx.go ?_|go_step)|(refine ⟨some [0],?_⟩)|(refine ⟨_,cbytes_m hG t.hint _ _ (by omega) (by omega) (by omega),?_⟩)|(refine ⟨_,cbytes_m hG t.data _ _ (by omega) (by omega) (by omega),?_⟩)|refine raw_f ?_|with_reducible (first|refine zI ?_|refine zJ ?_|refine zK ?_ ?_|refine zL ?_ ?_|refine zR (by kernel_rfl) ?_)|simp (maxSteps:=9999999) (disch:=omega) only [wq]|(with_reducible refine zM (fun hb=>?_) (fun hb=>?_) <;> (try simp only [hb]))|(with_reducible refine And.intro (by first|omega|(simp;done)|(simp;omega)) ?_)|simp (maxSteps:=9999999) (implicitDefEqProofs:=false) only [go_sem,d1,hl,hh,gt_iff_lt,int_beq0]|fail))
      all_goals first|(simp only [Option.some.injEq,AObj.mk.injEq,List.cons.injEq,SV.a.injEq,AV.c.injEq,C.d.injEq,D.v.injEq,Value.int.injEq,true_and,and_true];first|done|omega|(simp;done)|(simp;omega))|rfl|(simp only [*];rfl)|(simp [*];done)
  | true =>
    rw [hl,if_pos rfl] at he
    have hfs:=form_sum hl
    by_cases h2:(decide (16<d)||t.hinted||decide (0<t.hint.length+t.data.length))=true
    · rw [if_pos h2] at he
      rw [he]
      have e1:decide ((16:Int)<(d:Int))=decide (16<d):=by rw [decide_eq_decide];omega
      have e2:decide ((0:Int)<(t.hint.length:Int)+(t.data.length:Int))=decide (0<t.hint.length+t.data.length):=by rw [decide_eq_decide];omega
      refine zA fun Kn hK=>?_
      (repeat' (first|with_reducible (first|refine zA fun Kn hK=>?_|refine zB (by kernel_rfl) ?_|refine Nx.go ?_|go_step)|refine raw_f ?_|with_reducible (first|refine zI ?_|refine zJ ?_|refine zK ?_ ?_|refine zL ?_ ?_|refine zR (by kernel_rfl) ?_)|simp (maxSteps:=9999999) (disch:=omega) only [wq]|(with_reducible refine zM (fun hb=>?_) (fun hb=>?_) <;> (try simp only [hb]))|(with_reducible refine And.intro (by first|omega|(simp;done)|(simp;omega)) ?_)|simp (maxSteps:=9999999) (implicitDefEqProofs:=false) only [go_sem,d1,hl,gt_iff_lt,e1,e2]|fail))
      all_goals first|(simp only [Option.some.injEq,AObj.mk.injEq,List.cons.injEq,SV.a.injEq,AV.c.injEq,C.d.injEq,D.v.injEq,Value.int.injEq,true_and,and_true];first|done|omega|(simp;done)|(simp;omega))|rfl|(exfalso;revert h2;simp only [*];simp;done)
    · rw [if_neg h2] at he
      simp only [Bool.or_eq_true,decide_eq_true_eq,not_or,Bool.not_eq_true] at h2
      obtain ⟨⟨h3,h4⟩,h5⟩:=h2
      have e1:decide ((16:Int)<(d:Int))=false:=decide_eq_false (by omega)
      have e2:decide ((0:Int)<(t.hint.length:Int)+(t.data.length:Int))=false:=decide_eq_false (by omega)
      have hr:=rightF_kids (n:=n) (s:=s) (d:=d) hl (by omega) (by omega) (fun x hx n s d=>right_ok x n s d)
      (repeat' (first|with_reducible (first|refine zA fun Kn hK=>?_|refine zB (by kernel_rfl) ?_|refine Nx.go ?_|go_step)|refine raw_f ?_|with_reducible (first|refine zI ?_|refine zJ ?_|refine zK ?_ ?_|refine zL ?_ ?_|refine zR (by kernel_rfl) ?_)|simp (maxSteps:=9999999) (disch:=omega) only [wq]|(with_reducible refine zM (fun hb=>?_) (fun hb=>?_) <;> (try simp only [hb]))|(with_reducible refine And.intro (by first|omega|(simp;done)|(simp;omega)) ?_)|simp (maxSteps:=9999999) (implicitDefEqProofs:=false) only [go_sem,d1,hl,h4,gt_iff_lt,e1,e2]|fail))
      refine sound_loopR (fun x:{k:Nat // k≤t.kids.length∧((t.kids.take k).foldl (rightK d) (true,n+1,s+2)).1=true}=>⟨[(0,vP 0 0),(2,vI d),(79,vD (.sl t.kids.length (t.kids.flatMap treeC))),(80,vI t.kids.length),(81,vI x.1)],
        [(0,some (cntO ((t.kids.take x.1).foldl (rightK d) (true,n+1,s+2)).2.1 ((t.kids.take x.1).foldl (rightK d) (true,n+1,s+2)).2.2))]⟩) (fun x=>t.kids.length-x.1) ⟨0,by simp⟩ [] (by (iterate 2 ((try simp (maxSteps:=9999999) (implicitDefEqProofs:=false) only [go_sem,hl]);(try simp (maxSteps:=9999999) (disch:=omega) only [wq])));try (simp only [Option.some.injEq,AObj.mk.injEq,List.cons.injEq,SV.a.injEq,AV.c.injEq,C.d.injEq,D.v.injEq,Value.int.injEq,true_and,and_true];first|done|omega|(simp;done)|(simp;omega))) (fun ⟨k,hk,hall⟩=>?_)
      obtain ⟨b1,b2,b3,_⟩:=hr k hk
      obtain ⟨b3,b4,b5⟩:=b3 hall
      have b6:=b3.2.1
      have b7:=sum_upto (l:=t.kids) (k:=k) fun x:Tree=>x.form.length
      by_cases hlt:k<t.kids.length
      · obtain ⟨x,hx⟩: ∃ x,t.kids[k]?=some x:=⟨_,List.getElem?_eq_getElem hlt⟩
        have hb:decide ((k:Int)<(t.kids.length:Int))=true:=by simpa using hlt
        have hm:=List.mem_of_getElem? hx
        have b8:=sum_at (fun x:Tree=>x.form.length) hx
        have b9:=sum_upto (l:=t.kids) (k:=k+1) fun x:Tree=>x.form.length
        have hst:=foldl_at (f:=rightK d) (b:=(true,n+1,s+2)) hx
        have hend:=rightK_end (d:=d) (k:=k+1) (l:=t.kids) (st0:=(true,n+1,s+2))
        rw [hst] at hend
        rw [rightK,if_pos hall] at hst hend
        (repeat' (first|with_reducible (first|refine zA fun Kn hK=>?_|refine zB (by kernel_rfl) ?_|refine Nx.go ?_|go_step)|(refine ⟨some [0],?_⟩)|(refine ⟨_,ih x hm _ _ _ (d+1) rfl (by have:=Tree.wt_kid hm;omega) (by omega) (by omega) (by omega),?_⟩)|refine raw_f ?_|with_reducible (first|refine zI ?_|refine zJ ?_|refine zK ?_ ?_|refine zL ?_ ?_|refine zR (by kernel_rfl) ?_)|simp (maxSteps:=9999999) (disch:=omega) only [wq]|(with_reducible refine zM (fun hb=>?_) (fun hb=>?_) <;> (try simp only [hb]))|(with_reducible refine And.intro (by first|omega|(simp;done)|(simp;omega)) ?_)|simp (maxSteps:=9999999) (implicitDefEqProofs:=false) only [go_sem,hb,flat_at treeC_len hx,List.length_map,treeC_len]|fail))
        · refine ⟨[],⟨k+1,hlt,by rw [hst];assumption⟩,?_⟩
          (iterate 2 ((try simp (maxSteps:=9999999) (implicitDefEqProofs:=false) only [go_sem,hst]);(try simp (maxSteps:=9999999) (disch:=omega) only [wq])))
          try (simp only [ijq,true_and,and_true];first|done|omega|(split <;> omega)|(simp;done)|(simp;omega))
        all_goals
          rw [he,hend (by assumption)]
          try rw [hb]
      · have hb:decide ((k:Int)<(t.kids.length:Int))=false:=by simpa using hlt
        obtain rfl:k=t.kids.length:=by omega
        rw [List.take_length] at hall
        (repeat' (first|with_reducible (first|refine zA fun Kn hK=>?_|refine zB (by kernel_rfl) ?_|refine Nx.go ?_|go_step)|refine raw_f ?_|with_reducible (first|refine zI ?_|refine zJ ?_|refine zK ?_ ?_|refine zL ?_ ?_|refine zR (by kernel_rfl) ?_)|simp (maxSteps:=9999999) (disch:=omega) only [wq]|(with_reducible refine zM (fun hb=>?_) (fun hb=>?_) <;> (try simp only [hb]))|(with_reducible refine And.intro (by first|omega|(simp;done)|(simp;omega)) ?_)|simp (maxSteps:=9999999) (implicitDefEqProofs:=false) only [go_sem,hb,hall,List.take_length]|fail))
        all_goals (rw [he];try rw [hall])
theorem sxmay_m {G:Nat→Option (List D)} (hG:G 0=some powD) (t:Tree) {cs:List D} (hcs:treeC t=cs) (hw:t.wt≤10000000):Spec Tryz.prog G 40 [.g cs] (.one (.c (.v (.bool t.may)))):=by
  have hf:=Tree.form_wt t hw
  have hr:=right_ok t 0 0 1 (by omega) (by omega)
  have hm:=may_okT t
  have h1:=right_m hG t cs 0 0 1 hcs hw (by omega) (by omega) (by omega)
  subst hcs
  rw [hr.ok] at h1
  have hy:=hr.yes
  rw [hr.ok,Nat.zero_add,Nat.zero_add] at hy
  have e1:okT t 0 1=true→decide (((rightF t 0 0 1).2.2:Int)≤4096)=decide (t.form.length≤4096):=fun h=>by
    rw [decide_eq_decide,(hy h).2]
    omega
  rw [treeC_eq] at h1 ⊢
  refine spec_of Tryz.func40 rfl rfl rfl (by kernel_rfl) rfl fun K=>?_
  cases hb:okT t 0 1 with
  | true =>
    rw [hb] at h1
    have e1:=e1 hb
    (repeat' (first|with_reducible (first|refine zA fun Kn hK=>?_|refine zB (by kernel_rfl) ?_|refine Nx.go ?_|go_step)|(refine ⟨some [0],?_⟩)|(refine ⟨_,h1,?_⟩)|with_reducible (first|refine zI ?_|refine zJ ?_|refine zK ?_ ?_|refine zL ?_ ?_|refine zR (by kernel_rfl) ?_)|simp (maxSteps:=9999999) (disch:=omega) only [wq]|(with_reducible refine zM (fun hb=>?_) (fun hb=>?_) <;> (try simp only [hb]))|(with_reducible refine And.intro (by first|omega|(simp;done)|(simp;omega)) ?_)|simp (maxSteps:=9999999) (implicitDefEqProofs:=false) only [go_sem,e1]|fail))
    rw [hm,hb]
    rfl
  | false =>
    rw [hb] at h1
    (repeat' (first|with_reducible (first|refine zA fun Kn hK=>?_|refine zB (by kernel_rfl) ?_|refine Nx.go ?_|go_step)|(refine ⟨some [0],?_⟩)|(refine ⟨_,h1,?_⟩)|with_reducible (first|refine zI ?_|refine zJ ?_|refine zK ?_ ?_|refine zL ?_ ?_|refine zR (by kernel_rfl) ?_)|simp (maxSteps:=9999999) (disch:=omega) only [wq]|(with_reducible refine zM (fun hb=>?_) (fun hb=>?_) <;> (try simp only [hb]))|(with_reducible refine And.intro (by first|omega|(simp;done)|(simp;omega)) ?_)|simp (maxSteps:=9999999) (implicitDefEqProofs:=false) only [go_sem,true_and]|fail))
    rw [hm,hb]
    rfl
end Go.Proofs.YtdakeodebgggfaaGreatDoor
namespace Go.Proofs.YtdakeodebgggfaaGreatDoor
open Go.RowKit
@[go_sem] def rowB (x:List UInt8):AObj:=⟨5,(x.map bD).map C.d,false,false⟩
theorem putB_m {G:Nat→Option (List D)} (hG:G 0=some powD) (x b:List UInt8) (n:Nat) (hn:x.length=n) (hx:n≤1000000000) (hb:b.length≤10000000) :
    SpecO Tryz.prog G 42 [.c (.row 0 1 0 n .grow),.c (.d (bytesD b))] [(0,rowB x)] (.ret (vR 15 1 (n+(textB b).length)) [(0,none),(15,some (rowB (x++textB b)))]):=by
  have hl:=textB_len (b:=b) (n:=10000000) hb (by omega)
  have he:(textB b).length=(dec b.length).length+1+b.length:=by simp [textB];omega
  have e1:rowB (x++textB b)=⟨5,(x.map bD).map C.d++(dec b.length).map (fun b=>C.d (bD b))++[.d (.v (.int .u8 58))]++(b.map bD).map C.d,false,false⟩:=by
    simp [rowB,textB,bD]
  have e2:n+(textB b).length=n+(dec b.length).length+1+b.length:=by omega
  rw [e1,e2]
  refine specO_go Tryz.func42 rfl rfl rfl (by kernel_rfl) (by (iterate 2 ((try simp (maxSteps:=9999999) (implicitDefEqProofs:=false) only [go_sem,true_and]);(try simp (maxSteps:=9999999) (disch:=omega) only [wq])))) (by (iterate 2 ((try simp (maxSteps:=9999999) (implicitDefEqProofs:=false) only [go_sem,List.all_cons,List.all_nil]);(try simp (maxSteps:=9999999) (disch:=omega) only [wq])))) fun K m=>?_
  (repeat' (first|with_reducible (first|refine zA fun Kn hK=>?_|refine zB (by kernel_rfl) ?_|refine Nx.go ?_|go_step)|(refine ⟨_,putlen_m hG b.length (by omega),?_⟩)|refine raw_t (by rfl) (by rfl) (by rfl)|with_reducible (first|refine zI ?_|refine zJ ?_|refine zK ?_ ?_|refine zL ?_ ?_|refine zR (by kernel_rfl) ?_)|simp (maxSteps:=9999999) (disch:=omega) only [wq]|(with_reducible refine zM (fun hb=>?_) (fun hb=>?_) <;> (try simp only [hb]))|(with_reducible refine And.intro (by first|omega|(simp;done)|(simp;omega)) ?_)|simp (maxSteps:=9999999) (implicitDefEqProofs:=false) only [go_sem,str_size,List.length_map,hn]|fail))
def Ptr5 (d:D) (x:Tree):Prop:= ∃ cs off,d= .ptr cs off∧(cs.drop off).take 5=treeC x
def TodoOk (p:D × Option Tree):Prop:=match p.2 with
  | none=>p.1= .v (.pointer none)
  | some x=>Ptr5 p.1 x
def formO:Option Tree→List UInt8
  | none=>[41]
  | some x=>x.form
def costO:Option Tree→Nat
  | none=>1
  | some x=>2*x.nodes
theorem ptr_cells {cs:List D} {off:Nat} {x:Tree} (h:(cs.drop off).take 5=treeC x):cs[off]?=some (.v (.bool x.list))∧cs[off+1]?=some (.v (.bool x.hinted))∧cs[off+2]?=some (bytesD x.hint)∧cs[off+3]?=some (bytesD x.data)∧cs[off+4]?=some (.sl x.kids.length (x.kids.flatMap treeC)):=by
  rw [treeC_eq] at h
  have key: ∀ i,i<5→cs[off+i]?=((cs.drop off).take 5)[i]?:=fun i hi=>by rw [List.getElem?_take,if_pos hi,List.getElem?_drop]
  refine ⟨?_,?_,?_,?_,?_⟩
  · have:=key 0 (by omega)
    rw [Nat.add_zero,h] at this
    exact this
  all_goals (rw [key _ (by omega),h];rfl)
theorem form_pos (x:Tree):1≤x.form.length:=by
  rw [x.form_eq]
  split
  · simp
  · simp [Tree.atomF,textB]
    omega
structure PutX (t:Tree) where
  o:List UInt8
  st:List (D × Option Tree)
  ok: ∀ p∈st,TodoOk p
  whole:o++(st.flatMap fun p=>formO p.2)=t.form
def todoD (st:List (D × Option Tree)):List D:=(st.map (·.1)).reverse
theorem todoD_len (st:List (D × Option Tree)):(todoD st).length=st.length:=by simp [todoD]
def PutX.cost {t:Tree} (x:PutX t):Nat:=(x.st.map fun p=>costO p.2).sum
theorem PutX.len {t:Tree} (x:PutX t):x.st.length+x.o.length≤t.form.length:=by
  have h: ∀ l:List (D × Option Tree),l.length≤(l.flatMap fun p=>formO p.2).length:=by
    intro l
    induction l with
    | nil=>simp
    | cons p l ih =>
      rw [List.flatMap_cons,List.length_append,List.length_cons]
      have:1≤(formO p.2).length:=by
        cases hp:p.2 with
        | none=>simp [formO]
        | some y=>exact form_pos y
      omega
  have h1:=h x.st
  rw [← x.whole,List.length_append]
  omega
theorem sound_popped {P:Program} {G:Nat→Option (List D)} {K:Ctx G} {F:Fr} {Qx:Exit→FSt→Prop} {s:FSt} {c:Code} (t r sz n k:Nat) (ty:TypeId) (cs:List C) (hs:s.sl t=vR r sz n) (ho:s.ob r=some (some ⟨ty,cs,false,false⟩)) (h:Sound P K F c Qx ⟨s.sl,upd s.ob r (some (some ⟨ty,cs.take k,false,false⟩))⟩):Sound P K F c Qx s:=sound_trim r k ho h
def pushK (l:List Tree):List (D × Option Tree):=l.zipIdx.map fun p=>(D.ptr (l.flatMap treeC) (p.2*5),some p.1)
theorem pushK_len (l:List Tree):(pushK l).length=l.length:=by simp [pushK]
theorem pushK_snd (l:List Tree):(pushK l).map (·.2)=l.map some:=by
  conv=>rhs;rw [← List.zipIdx_map_fst 0 l,List.map_map]
  rw [pushK,List.map_map]
  rfl
theorem pushK_todo (l:List Tree):todoD (pushK l)=(List.range l.length).map fun i=>D.ptr (l.flatMap treeC) ((l.length-1-i)*5):=by
  apply List.ext_getElem?
  intro i
  unfold todoD pushK
  generalize l.flatMap treeC=K
  rw [List.map_map]
  by_cases hi:i<l.length
  · rw [List.getElem?_reverse (by simpa using hi)]
    have h2:l.length-1-i<l.length:=by omega
    simp [hi,h2]
  · simp [hi]
theorem pushK_ok {l:List Tree}: ∀ p∈pushK l,TodoOk p:=by
  intro p hp
  obtain ⟨q,hq,rfl⟩:=List.mem_map.1 hp
  exact ⟨_,_,rfl,flat_at treeC_len (List.mk_mem_zipIdx_iff_getElem?.1 hq)⟩
theorem pushK_form (l:List Tree):((pushK l).flatMap fun p=>formO p.2)=(l.map Tree.form).flatten:=by
  have h:=pushK_snd l
  rw [show (pushK l).flatMap (fun p=>formO p.2)=((pushK l).map (·.2)).flatMap formO by rw [List.flatMap_map],h,List.flatMap_map]
  rfl
theorem pushK_cost (l:List Tree):((pushK l).map fun p=>costO p.2).sum=2*(l.map Tree.nodes).sum:=by
  have h:=pushK_snd l
  rw [show (pushK l).map (fun p=>costO p.2)=((pushK l).map (·.2)).map costO by rw [List.map_map];rfl,h,List.map_map]
  clear h
  induction l with
  | nil=>rfl
  | cons x l ih =>
    rw [List.map_cons,List.sum_cons,List.map_cons,List.sum_cons,ih]
    simp only [Function.comp,costO]
    omega
theorem cost_none:costO none=1:=rfl
theorem cost_some (x:Tree):costO (some x)=2*x.nodes:=rfl
theorem todoD_app (a b:List (D × Option Tree)):todoD (a++b)=todoD b++todoD a:=by simp [todoD]
theorem todoD_cons (p:D × Option Tree) (b:List (D × Option Tree)):todoD (p::b)=todoD b++[p.1]:=by simp [todoD]
theorem sput_m {G:Nat→Option (List D)} (hG:G 0=some powD) (t:Tree) {cs:List D} (hcs:treeC t=cs) (hw:t.wt≤10000000) :
    Spec Tryz.prog G 20 [.g cs] (if t.may then .many [.c (bytesD t.form),.c (.v (.int .i64 0))] else .many [.c (.sl 0 []),.c (.v (.int .i64 4))]):=by
  subst hcs
  cases hm:t.may with
  | false =>
    rw [if_neg (by simp)]
    refine spec_of Tryz.func20 rfl rfl rfl (by kernel_rfl) rfl fun K=>?_
    (repeat' (first|with_reducible (first|refine zA fun Kn hK=>?_|refine zB (by kernel_rfl) ?_|refine Nx.go ?_|go_step)|(refine ⟨_,sxmay_m hG t rfl hw,?_⟩)|with_reducible (first|refine zI ?_|refine zJ ?_|refine zK ?_ ?_|refine zL ?_ ?_|refine zR (by kernel_rfl) ?_)|simp (maxSteps:=9999999) (disch:=omega) only [wq]|(with_reducible refine zM (fun hb=>?_) (fun hb=>?_) <;> (try simp only [hb]))|(with_reducible refine And.intro (by first|omega|(simp;done)|(simp;omega)) ?_)|simp (maxSteps:=9999999) (implicitDefEqProofs:=false) only [go_sem,hm,treeC_len,List.length_map]|fail))
  | true =>
    rw [if_pos rfl]
    have hfl:t.form.length≤4096:=by
      rw [Tree.may] at hm
      simp only [Bool.and_eq_true,decide_eq_true_eq] at hm
      exact hm.2
    refine spec_of Tryz.func20 rfl rfl rfl (by kernel_rfl) rfl fun K=>?_
    refine zA fun Kn hK=>?_
    refine zB (by kernel_rfl) ?_
    (iterate 2 ((try simp (maxSteps:=9999999) (implicitDefEqProofs:=false) only [go_sem,true_and]);(try simp (maxSteps:=9999999) (disch:=omega) only [wq])))
    refine hK _ ?_;clear hK;clear Kn
    refine sound_data 1 ?_
    (iterate 2 ((try simp (maxSteps:=9999999) (implicitDefEqProofs:=false) only [go_sem,true_and]);(try simp (maxSteps:=9999999) (disch:=omega) only [wq])))
    (repeat' (first|with_reducible (first|refine zA fun Kn hK=>?_|refine zB (by kernel_rfl) ?_|refine Nx.go ?_|go_step)|(refine ⟨_,sxmay_m hG t rfl hw,?_⟩)|with_reducible (first|refine zI ?_|refine zJ ?_|refine zK ?_ ?_|refine zL ?_ ?_|refine zR (by kernel_rfl) ?_)|simp (maxSteps:=9999999) (disch:=omega) only [wq]|(with_reducible refine zM (fun hb=>?_) (fun hb=>?_) <;> (try simp only [hb]))|(with_reducible refine And.intro (by first|omega|(simp;done)|(simp;omega)) ?_)|simp (maxSteps:=9999999) (implicitDefEqProofs:=false) only [go_sem,hm,treeC_len,treeC_t5,List.length_map]|fail))
    refine sound_void 4 1001 1 5 (by rfl) (by rfl) ?_
    refine sound_grow 5 11 1 1 1 (by rfl) (by rfl) (by rfl) (by rfl) ?_
    refine sound_trim 11 1 (by rfl) ?_
    refine sound_loopR (fun x:PutX t=>⟨[(4,vR 1001 1 x.o.length),(5,vR 1000 1 x.st.length)],[(1000,some ⟨76,(todoD x.st).map C.d,false,false⟩),(1001,some (rowB x.o))]⟩) PutX.cost
      ⟨[],[(.ptr (treeC t) 0,some t)],fun p hp=>by
        rw [List.mem_singleton.1 hp]
        exact ⟨_,_,rfl,by rw [List.drop_zero,treeC_t5]⟩,by simp [formO]⟩ [(1000,11)] (by (iterate 2 ((try simp (maxSteps:=9999999) (implicitDefEqProofs:=false) only [go_sem,AObj.trim,List.take_succ_cons,List.take_zero,todoD,List.map_cons,List.map_nil,List.reverse_cons,List.reverse_nil,List.nil_append]);(try simp (maxSteps:=9999999) (disch:=omega) only [wq])));simp) (fun ⟨o,st,ok,whole⟩=>?_)
    have hbd:=PutX.len ⟨o,st,ok,whole⟩
    simp only at hbd ⊢
    cases st with
    | nil =>
      rw [List.flatMap_nil,List.append_nil] at whole
      have e0:decide ((0:Int)<((0:Nat):Int))=false:=rfl
      (repeat' (first|with_reducible (first|refine zA fun Kn hK=>?_|refine zB (by kernel_rfl) ?_|refine Nx.go ?_|go_step)|fail|with_reducible (first|refine zI ?_|refine zJ ?_|refine zK ?_ ?_|refine zL ?_ ?_|refine zR (by kernel_rfl) ?_)|simp (maxSteps:=9999999) (disch:=omega) only [wq]|(with_reducible refine zM (fun hb=>?_) (fun hb=>?_) <;> (try simp only [hb]))|(with_reducible refine And.intro (by first|omega|(simp;done)|(simp;omega)) ?_)|simp (maxSteps:=9999999) (implicitDefEqProofs:=false) only [go_sem,List.length_nil,e0,gt_iff_lt]|fail))
      rw [whole]
    | cons p st =>
      obtain ⟨d,q⟩:=p
      have hd:=ok (d,q) (List.mem_cons_self ..)
      have ok': ∀ p∈st,TodoOk p:=fun p hp=>ok p (List.mem_cons_of_mem _ hp)
      rw [List.flatMap_cons] at whole
      rw [List.length_cons] at hbd
      have e0:decide ((0:Int)<((st.length+1:Nat):Int))=true:=decide_eq_true (by omega)
      have e1:(((st.length+1:Nat):Int)-1)=(st.length:Int):=by omega
      have e2:((todoD ((d,q)::st)).map C.d)[st.length]?=some (C.d d):=by simp [todoD]
      have e3:((todoD ((d,q)::st)).map C.d).take st.length=(todoD st).map C.d:=by simp [todoD]
      have e4:=todoD_len ((d,q)::st)
      generalize todoD ((d,q)::st)=T at e2 e3 e4 ⊢
      cases q with
      | none =>
        obtain rfl:d= .v (.pointer none):=hd
        (repeat' (first|(refine sound_popped 5 1000 1 st.length st.length 76 (T.map C.d) (by rfl) (by rfl) ?_)|with_reducible (first|refine zA fun Kn hK=>?_|refine zB (by kernel_rfl) ?_|refine Nx.go ?_|go_step)|fail|with_reducible (first|refine zI ?_|refine zJ ?_|refine zK ?_ ?_|refine zL ?_ ?_|refine zR (by kernel_rfl) ?_)|simp (maxSteps:=9999999) (disch:=omega) only [wq]|(with_reducible refine zM (fun hb=>?_) (fun hb=>?_) <;> (try simp only [hb]))|(with_reducible refine And.intro (by first|omega|(simp;done)|(simp;omega)) ?_)|simp (maxSteps:=9999999) (implicitDefEqProofs:=false) only [go_sem,e0,e1,e2,e3,gt_iff_lt,List.length_cons,List.length_map,todoD_len,e4]|fail))
        refine ⟨[(1001,51)],⟨o++[41],st,ok',by rw [List.append_assoc];exact whole⟩,?_⟩
        (iterate 2 ((try simp (maxSteps:=9999999) (implicitDefEqProofs:=false) only [go_sem,List.length_append,List.length_cons,List.length_nil,List.map_append,List.map_cons,List.map_nil]);(try simp (maxSteps:=9999999) (disch:=omega) only [wq])))
        simp [PutX.cost,cost_none,cost_some,bD]
      | some x =>
        obtain ⟨K,off,rfl,hK⟩:=hd
        obtain ⟨c0,c1,c2,c3,c4⟩:=ptr_cells hK
        have hxf:o.length+x.form.length≤4096:=by
          have:=congrArg List.length whole
          simp only [formO,List.length_append] at this
          omega
        have hfp:=form_pos x
        cases hl:x.list with
        | false =>
          have hfx:x.form=x.atomF:=by rw [x.form_eq,hl];rfl
          have hfl2:=hxf
          rw [hfx,Tree.atomF,List.length_append] at hfl2
          rw [hl] at c0
          have h91:(o.map bD).map C.d++[C.d (.v (.int .u8 91))]=((o++[91]).map bD).map C.d:=by simp [bD]
          have htd:x.data.length<(textB x.data).length:=by simp [textB];omega
          cases hh:x.hinted with
          | false =>
            rw [hh] at c1 hfl2
            rw [if_neg (by simp),List.length_nil] at hfl2
            (repeat' (first|(refine sound_popped 5 1000 1 st.length st.length 76 (T.map C.d) (by rfl) (by rfl) ?_)|with_reducible (first|refine zA fun Kn hK=>?_|refine zB (by kernel_rfl) ?_|refine Nx.go ?_|go_step)|(refine ⟨some [0],?_⟩)|(refine ⟨_,putB_m hG o x.data _ rfl (by omega) (by omega),?_⟩)|with_reducible (first|refine zI ?_|refine zJ ?_|refine zK ?_ ?_|refine zL ?_ ?_|refine zR (by kernel_rfl) ?_)|simp (maxSteps:=9999999) (disch:=omega) only [wq]|(with_reducible refine zM (fun hb=>?_) (fun hb=>?_) <;> (try simp only [hb]))|(with_reducible refine And.intro (by first|omega|(simp;done)|(simp;omega)) ?_)|simp (maxSteps:=9999999) (implicitDefEqProofs:=false) only [go_sem,e0,e1,e2,e3,gt_iff_lt,List.length_cons,List.length_map,todoD_len,e4,Nat.add_zero,c0,c1,c2,c3,c4]|fail))
            refine ⟨[(1001,45)],⟨o++textB x.data,st,ok',by rw [← whole,formO,hfx,Tree.atomF,hh];simp⟩,?_⟩
            (iterate 2 ((try simp (maxSteps:=9999999) (implicitDefEqProofs:=false) only [go_sem,List.length_append,List.length_cons]);(try simp (maxSteps:=9999999) (disch:=omega) only [wq])))
            have:=x.nodes_pos
            simp [PutX.cost,cost_none,cost_some]
            omega
          | true =>
            rw [hh] at c1 hfl2
            rw [if_pos rfl] at hfl2
            simp only [List.length_append,List.length_cons,List.length_nil] at hfl2
            have hth:x.hint.length<(textB x.hint).length:=by simp [textB];omega
            have h93:((o++[91]++textB x.hint).map bD).map C.d++[C.d (.v (.int .u8 93))]=((o++[91]++textB x.hint++[93]).map bD).map C.d:=by simp [bD]
            (repeat' (first|(refine sound_popped 5 1000 1 st.length st.length 76 (T.map C.d) (by rfl) (by rfl) ?_)|with_reducible (first|refine zA fun Kn hK=>?_|refine zB (by kernel_rfl) ?_|refine Nx.go ?_|go_step)|(refine ⟨some [0],?_⟩)|(refine ⟨_,putB_m hG (o++[91]) x.hint _ (by simp;done) (by omega) (by omega),?_⟩)|(refine ⟨_,putB_m hG (o++[91]++textB x.hint++[93]) x.data _ (by simp;omega) (by omega) (by omega),?_⟩)|with_reducible (first|refine zI ?_|refine zJ ?_|refine zK ?_ ?_|refine zL ?_ ?_|refine zR (by kernel_rfl) ?_)|simp (maxSteps:=9999999) (disch:=omega) only [wq]|(with_reducible refine zM (fun hb=>?_) (fun hb=>?_) <;> (try simp only [hb]))|(with_reducible refine And.intro (by first|omega|(simp;done)|(simp;omega)) ?_)|simp (maxSteps:=9999999) (implicitDefEqProofs:=false) only [go_sem,e0,e1,e2,e3,gt_iff_lt,List.length_cons,List.length_map,todoD_len,e4,Nat.add_zero,c0,c1,c2,c3,c4,h91,h93]|fail))
            refine ⟨[(1001,45)],⟨o++[91]++textB x.hint++[93]++textB x.data,st,ok',by rw [← whole,formO,hfx,Tree.atomF,hh];simp⟩,?_⟩
            (iterate 2 ((try simp (maxSteps:=9999999) (implicitDefEqProofs:=false) only [go_sem,List.length_append,List.length_cons,List.length_nil]);(try simp (maxSteps:=9999999) (disch:=omega) only [wq])))
            have:=x.nodes_pos
            simp [PutX.cost,cost_none,cost_some]
            omega
        | true =>
          rw [hl] at c0
          have hwk:=x.wt_kids
          have hxk:x.kids.length≤4096:=by
            have h1: ∀ l:List Tree,l.length≤(l.map Tree.form).flatten.length:=by
              intro l
              induction l with
              | nil=>simp
              | cons y l ih =>
                have:=form_pos y
                simp only [List.map_cons,List.flatten_cons,List.length_append,List.length_cons]
                omega
            have h2:=h1 x.kids
            have h3:=form_list hl
            omega
          (repeat' (first|(refine sound_popped 5 1000 1 st.length st.length 76 (T.map C.d) (by rfl) (by rfl) ?_)|with_reducible (first|refine zA fun Kn hK=>?_|refine zB (by kernel_rfl) ?_|refine Nx.go ?_|go_step)|fail|with_reducible (first|refine zI ?_|refine zJ ?_|refine zK ?_ ?_|refine zL ?_ ?_|refine zR (by kernel_rfl) ?_)|simp (maxSteps:=9999999) (disch:=omega) only [wq]|(with_reducible refine zM (fun hb=>?_) (fun hb=>?_) <;> (try simp only [hb]))|(with_reducible refine And.intro (by first|omega|(simp;done)|(simp;omega)) ?_)|simp (maxSteps:=9999999) (implicitDefEqProofs:=false) only [go_sem,e0,e1,e2,e3,gt_iff_lt,List.length_cons,List.length_map,todoD_len,e4,Nat.add_zero,c0,c1,c2,c3,c4]|fail))
          refine sound_loopR (fun y:{j:Nat // j≤x.kids.length}=>⟨[(4,vR 1001 1 (o.length+1)),(5,vR 1000 1 (st.length+1+y.1)),(6,vD (.ptr K off)),(67,vI x.kids.length),(68,vI y.1)],
            [(1000,some ⟨76,(todoD st++[D.v (.pointer none)]++(List.range y.1).map fun i=>D.ptr (x.kids.flatMap treeC) ((x.kids.length-1-i)*5)).map C.d,false,false⟩),(1001,some (rowB (o++[40])))]⟩) (fun y=>x.kids.length-y.1)
            ⟨0,by omega⟩ [(1000,62),(1001,59)] (by (iterate 2 ((try simp (maxSteps:=9999999) (implicitDefEqProofs:=false) only [go_sem,List.range_zero,List.map_nil,List.append_nil]);(try simp (maxSteps:=9999999) (disch:=omega) only [wq])));simp [bD]) (fun ⟨j,hj⟩=>?_)
          by_cases hlt:j<x.kids.length
          · have hb:decide ((j:Int)<(x.kids.length:Int))=true:=by simpa using hlt
            have e5:(x.kids.length:Int)-1-(j:Int)=((x.kids.length-1-j:Nat):Int):=by omega
            (repeat' (first|with_reducible (first|refine zA fun Kn hK=>?_|refine zB (by kernel_rfl) ?_|refine Nx.go ?_|go_step)|fail|with_reducible (first|refine zI ?_|refine zJ ?_|refine zK ?_ ?_|refine zL ?_ ?_|refine zR (by kernel_rfl) ?_)|simp (maxSteps:=9999999) (disch:=omega) only [wq]|(with_reducible refine zM (fun hb=>?_) (fun hb=>?_) <;> (try simp only [hb]))|(with_reducible refine And.intro (by first|omega|(simp;done)|(simp;omega)) ?_)|simp (maxSteps:=9999999) (implicitDefEqProofs:=false) only [go_sem,hb,c4,e5,List.length_append,List.length_cons,List.length_nil,List.length_map,todoD_len,List.length_range]|fail))
            refine ⟨[(1000,86)],⟨j+1,hlt⟩,?_⟩
            (iterate 2 ((try simp (maxSteps:=9999999) (implicitDefEqProofs:=false) only [go_sem,List.range_succ,List.map_append,List.map_cons,List.map_nil]);(try simp (maxSteps:=9999999) (disch:=omega) only [wq])))
            simp
            omega
          · have hb:decide ((j:Int)<(x.kids.length:Int))=false:=by simpa using hlt
            obtain rfl:j=x.kids.length:=by omega
            (repeat' (first|with_reducible (first|refine zA fun Kn hK=>?_|refine zB (by kernel_rfl) ?_|refine Nx.go ?_|go_step)|fail|with_reducible (first|refine zI ?_|refine zJ ?_|refine zK ?_ ?_|refine zL ?_ ?_|refine zR (by kernel_rfl) ?_)|simp (maxSteps:=9999999) (disch:=omega) only [wq]|(with_reducible refine zM (fun hb=>?_) (fun hb=>?_) <;> (try simp only [hb]))|(with_reducible refine And.intro (by first|omega|(simp;done)|(simp;omega)) ?_)|simp (maxSteps:=9999999) (implicitDefEqProofs:=false) only [go_sem,hb]|fail))
            have hn:=x.nodes_eq
            refine ⟨[],⟨o++[40],pushK x.kids++(D.v (.pointer none),none)::st,fun p hp=>?_,?_⟩,?_⟩
            · rcases List.mem_append.1 hp with hp|hp
              · exact pushK_ok p hp
              · rcases List.mem_cons.1 hp with rfl|hp
                · exact rfl
                · exact ok' p hp
            · rw [List.flatMap_append,pushK_form,← whole,List.flatMap_cons,formO,formO,x.form_eq,hl]
              simp
            · (iterate 2 ((try simp (maxSteps:=9999999) (implicitDefEqProofs:=false) only [go_sem,todoD_app,todoD_cons,pushK_todo,List.length_append,List.length_cons,pushK_len]);(try simp (maxSteps:=9999999) (disch:=omega) only [wq])))
              simp [PutX.cost,pushK_cost,cost_none,cost_some]
              omega
end Go.Proofs.YtdakeodebgggfaaGreatDoor
namespace Go.Proofs.YtdakeodebgggfaaGreatDoor
def keyMay (s:Bool) (d:List UInt8):Bool:=if s then d.length==64 else d.length==32
def tHash:List UInt8:=[104,97,115,104]
def tSha:List UInt8:=[115,104,97,53,49,50]
def tPub:List UInt8:=[112,117,98,108,105,99,45,107,101,121]
def tEd:List UInt8:=[101,100,50,53,53,49,57]
def keyV (s:Bool) (d:List UInt8):Tree:=if s then listT [atomT tHash,atomT tSha,atomT d] else listT [atomT tPub,listT [atomT tEd,atomT d]]
def zeroT:Tree:= .mk false false [] [] []
def keyOut (s:Bool) (d:List UInt8):Tree:=if keyMay s d then keyV s d else zeroT
def keyErr (s:Bool) (d:List UInt8):Int:=if keyMay s d then 0 else 7
theorem keyMay_err {s:Bool} {d:List UInt8}:(keyErr s d==0)=keyMay s d:=by
  rw [keyErr]
  cases keyMay s d <;> rfl
end Go.Proofs.YtdakeodebgggfaaGreatDoor
namespace Go.Proofs.YtdakeodebgggfaaGreatDoor
open Go.RowKit
@[go_sem] def keyC (s:Bool) (d:List UInt8):List D:=[.v (.bool s),bytesD d]
theorem kmay_m {G:Nat→Option (List D)} (s:Bool) (d:List UInt8):Spec Tryz.prog G 74 [.g (keyC s d)] (.one (.c (.v (.bool (keyMay s d))))):=by
  refine spec_of Tryz.func74 rfl rfl rfl (by kernel_rfl) rfl fun K=>?_
  cases s <;> (repeat' (first|with_reducible (first|refine zA fun Kn hK=>?_|refine zB (by kernel_rfl) ?_|refine Nx.go ?_|go_step)|fail|with_reducible (first|refine zI ?_|refine zJ ?_|refine zK ?_ ?_|refine zL ?_ ?_|refine zR (by kernel_rfl) ?_)|simp (maxSteps:=9999999) (disch:=omega) only [wq]|(with_reducible refine zM (fun hb=>?_) (fun hb=>?_) <;> (try simp only [hb]))|(with_reducible refine And.intro (by first|omega|(simp;done)|(simp;omega)) ?_)|simp (maxSteps:=9999999) (implicitDefEqProofs:=false) only [go_sem,int_beqL]|fail))
  all_goals (rw [keyMay];rfl)
theorem value_m {G:Nat→Option (List D)} (s:Bool) (d:List UInt8) (hd:d.length≤1000000000):Spec Tryz.prog G 68 [.g (keyC s d)] (.one (.g (treeC (keyV s d)))):=by
  refine spec_of Tryz.func68 rfl rfl rfl (by kernel_rfl) rfl fun K=>?_
  cases s <;> (repeat' (first|with_reducible (first|refine zA fun Kn hK=>?_|refine zB (by kernel_rfl) ?_|refine Nx.go ?_|go_step)|(refine ⟨_,atomref_m tHash (by decide),?_⟩)|(refine ⟨_,atomref_m tSha (by decide),?_⟩)|(refine ⟨_,atomref_m tPub (by decide),?_⟩)|(refine ⟨_,atomref_m tEd (by decide),?_⟩)|with_reducible (first|refine zI ?_|refine zJ ?_|refine zK ?_ ?_|refine zL ?_ ?_|refine zR (by kernel_rfl) ?_)|simp (maxSteps:=9999999) (disch:=omega) only [wq]|(with_reducible refine zM (fun hb=>?_) (fun hb=>?_) <;> (try simp only [hb]))|(with_reducible refine And.intro (by first|omega|(simp;done)|(simp;omega)) ?_)|simp (maxSteps:=9999999) (implicitDefEqProofs:=false) only [go_sem,treeC_mk]|fail))
  all_goals (simp only [keyV, ↓reduceIte,Bool.false_eq_true,listT,atomT,treeC_mk,List.flatMap_cons,List.flatMap_nil];rfl)
theorem list_m' {G:Nat→Option (List D)} (l:List Tree) {n:Nat} {cs:List D} (hn:n=l.length) (hc:cs=l.flatMap treeC) (hl:l.length≤100000000):Spec Tryz.prog G 37 [.c (.sl n cs)] (.one (.g (treeC (listT l)))):=by
  subst hn hc
  exact list_m l hl
theorem kput_m {G:Nat→Option (List D)} (s:Bool) (d:List UInt8) (hd:d.length≤1000000000):Spec Tryz.prog G 36 [.g (keyC s d)] (.many [.g (treeC (keyOut s d)),.c (.v (.int .i64 (keyErr s d)))]):=by
  refine spec_of Tryz.func36 rfl rfl rfl (by kernel_rfl) rfl fun K=>?_
  cases hm:keyMay s d with
  | false =>
    (repeat' (first|with_reducible (first|refine zA fun Kn hK=>?_|refine zB (by kernel_rfl) ?_|refine Nx.go ?_|go_step)|(refine ⟨none,?_⟩)|(refine ⟨_,bclone_m d (by omega),?_⟩)|(refine ⟨_,kmay_m s d,?_⟩)|with_reducible (first|refine zI ?_|refine zJ ?_|refine zK ?_ ?_|refine zL ?_ ?_|refine zR (by kernel_rfl) ?_)|simp (maxSteps:=9999999) (disch:=omega) only [wq]|(with_reducible refine zM (fun hb=>?_) (fun hb=>?_) <;> (try simp only [hb]))|(with_reducible refine And.intro (by first|omega|(simp;done)|(simp;omega)) ?_)|simp (maxSteps:=9999999) (implicitDefEqProofs:=false) only [go_sem,hm]|fail))
    all_goals (rw [keyOut,keyErr,hm];simp only [↓reduceIte,Bool.false_eq_true,zeroT,treeC_mk];rfl)
  | true =>
    cases s with
    | false =>
      (repeat' (first|with_reducible (first|refine zA fun Kn hK=>?_|refine zB (by kernel_rfl) ?_|refine Nx.go ?_|go_step)|(refine ⟨none,?_⟩)|(refine ⟨_,bclone_m d (by omega),?_⟩)|(refine ⟨_,kmay_m false d,?_⟩)|(refine ⟨_,atom_m tPub (by decide),?_⟩)|(refine ⟨_,atom_m tEd (by decide),?_⟩)|(refine ⟨_,list_m' [atomT tEd,atomT d] (by rfl) (by first|(simp only [atomT,listT,List.flatMap_cons,List.flatMap_nil,treeC_mk,bytesD,List.cons_append,List.nil_append,List.length_cons,List.length_nil,List.map_nil,Nat.reduceAdd,List.append_nil];done)|(simp only [atomT,listT,List.flatMap_cons,List.flatMap_nil,treeC_mk,bytesD,List.cons_append,List.nil_append,List.length_cons,List.length_nil,List.map_nil,Nat.reduceAdd,List.append_nil];rfl)) (by simp),?_⟩)|(refine ⟨_,list_m' [atomT tPub,listT [atomT tEd,atomT d] ] (by rfl) (by first|(simp only [atomT,listT,List.flatMap_cons,List.flatMap_nil,treeC_mk,bytesD,List.cons_append,List.nil_append,List.length_cons,List.length_nil,List.map_nil,Nat.reduceAdd,List.append_nil];done)|(simp only [atomT,listT,List.flatMap_cons,List.flatMap_nil,treeC_mk,bytesD,List.cons_append,List.nil_append,List.length_cons,List.length_nil,List.map_nil,Nat.reduceAdd,List.append_nil];rfl)) (by simp),?_⟩)|with_reducible (first|refine zI ?_|refine zJ ?_|refine zK ?_ ?_|refine zL ?_ ?_|refine zR (by kernel_rfl) ?_)|simp (maxSteps:=9999999) (disch:=omega) only [wq]|(with_reducible refine zM (fun hb=>?_) (fun hb=>?_) <;> (try simp only [hb]))|(with_reducible refine And.intro (by first|omega|(simp;done)|(simp;omega)) ?_)|simp (maxSteps:=9999999) (implicitDefEqProofs:=false) only [go_sem,hm,treeC_mk,atomT,listT]|fail))
      all_goals (simp only [keyOut,keyErr,hm,keyV, ↓reduceIte,Bool.false_eq_true,listT,atomT,treeC_mk,List.flatMap_cons,List.flatMap_nil];rfl)
    | true =>
      (repeat' (first|with_reducible (first|refine zA fun Kn hK=>?_|refine zB (by kernel_rfl) ?_|refine Nx.go ?_|go_step)|(refine ⟨none,?_⟩)|(refine ⟨_,bclone_m d (by omega),?_⟩)|(refine ⟨_,kmay_m true d,?_⟩)|(refine ⟨_,atom_m tHash (by decide),?_⟩)|(refine ⟨_,atom_m tSha (by decide),?_⟩)|(refine ⟨_,list_m' [atomT tHash,atomT tSha,atomT d] (by rfl) (by first|(simp only [atomT,listT,List.flatMap_cons,List.flatMap_nil,treeC_mk,bytesD,List.cons_append,List.nil_append,List.length_cons,List.length_nil,List.map_nil,Nat.reduceAdd,List.append_nil];done)|(simp only [atomT,listT,List.flatMap_cons,List.flatMap_nil,treeC_mk,bytesD,List.cons_append,List.nil_append,List.length_cons,List.length_nil,List.map_nil,Nat.reduceAdd,List.append_nil];rfl)) (by simp),?_⟩)|with_reducible (first|refine zI ?_|refine zJ ?_|refine zK ?_ ?_|refine zL ?_ ?_|refine zR (by kernel_rfl) ?_)|simp (maxSteps:=9999999) (disch:=omega) only [wq]|(with_reducible refine zM (fun hb=>?_) (fun hb=>?_) <;> (try simp only [hb]))|(with_reducible refine And.intro (by first|omega|(simp;done)|(simp;omega)) ?_)|simp (maxSteps:=9999999) (implicitDefEqProofs:=false) only [go_sem,hm,treeC_mk,atomT,listT]|fail))
      all_goals (simp only [keyOut,keyErr,hm,keyV, ↓reduceIte,Bool.false_eq_true,listT,atomT,treeC_mk,List.flatMap_cons,List.flatMap_nil];rfl)
end Go.Proofs.YtdakeodebgggfaaGreatDoor
namespace Go.Proofs.YtdakeodebgggfaaGreatDoor
open Go.RowKit
end Go.Proofs.YtdakeodebgggfaaGreatDoor
namespace Go.Proofs.YtdakeodebgggfaaGreatDoor
open Go.RowKit
def tSigned:List UInt8:=[115,105,103,110,101,100]
def signedT (b:Tree) (p s:List UInt8):Tree:=listT [atomT tSigned,b,keyV false p,atomT s]
def sMay (b:Tree) (p s:List UInt8):Bool:=p.length==32&&s.length==64&&(signedT b p s).may
def sOut (b:Tree) (p s:List UInt8):Tree:=if sMay b p s then signedT b p s else zeroT
def sErr (b:Tree) (p s:List UInt8):Int:=if sMay b p s then 0 else 3
@[go_sem] def sgnC (b:Tree) (p s:List UInt8):List D:=treeC b++[bytesD p,bytesD s]
theorem signed_wt {b:Tree} {p s:List UInt8}:(signedT b p s).wt≤100+b.wt+p.length+s.length:=by
  simp [signedT,keyV,Tree.wt_eq,listT,atomT,Tree.hint,Tree.data,Tree.kids,tSigned,tPub,tEd]
  omega
theorem sput18_m {G:Nat→Option (List D)} (hG:G 0=some powD) (b:Tree) (p s:List UInt8) (hw:b.wt≤5000000) (hp:p.length≤1000000) (hs:s.length≤1000000) :
    Spec Tryz.prog G 17 [.g (sgnC b p s)] (.many [.g (treeC (sOut b p s)),.c (.v (.int .i64 (sErr b p s)))]):=by
  have hw2:=signed_wt (b:=b) (p:=p) (s:=s)
  have hb:=treeC_eq b
  have hm:sMay b p s=(p.length==32&&s.length==64&&(signedT b p s).may):=rfl
  have no:sMay b p s=false→treeC (sOut b p s)=[.v (.bool false),.v (.bool false),.sl 0 [],.sl 0 [],.sl 0 []]∧sErr b p s=3:=fun h=>by
    rw [sOut,sErr,h]
    simp only [Bool.false_eq_true, ↓reduceIte,zeroT,treeC_mk]
    exact ⟨rfl,trivial⟩
  refine spec_of Tryz.func17 rfl rfl rfl (by kernel_rfl) rfl fun K=>?_
  cases h1:p.length==32 with
  | false =>
    have h2:keyMay false p=false:=h1
    obtain ⟨n1,n2⟩:=no (by rw [hm,h1];rfl)
    rw [n1,n2]
    (repeat' (first|with_reducible (first|refine zA fun Kn hK=>?_|refine zB (by kernel_rfl) ?_|refine Nx.go ?_|go_step)|(refine ⟨_,kput_m false p (by omega),?_⟩)|with_reducible (first|refine zI ?_|refine zJ ?_|refine zK ?_ ?_|refine zL ?_ ?_|refine zR (by kernel_rfl) ?_)|simp (maxSteps:=9999999) (disch:=omega) only [wq]|(with_reducible refine zM (fun hb=>?_) (fun hb=>?_) <;> (try simp only [hb]))|(with_reducible refine And.intro (by first|omega|(simp;done)|(simp;omega)) ?_)|simp (maxSteps:=9999999) (implicitDefEqProofs:=false) only [go_sem,hb,keyMay_err,h2,int_beqL,List.length_map]|fail))
  | true =>
    have h2:keyMay false p=true:=h1
    have h3:keyOut false p=keyV false p:=by rw [keyOut,if_pos h2]
    cases h4:s.length==64 with
    | false =>
      obtain ⟨n1,n2⟩:=no (by rw [hm,h1,h4];rfl)
      rw [n1,n2]
      (repeat' (first|with_reducible (first|refine zA fun Kn hK=>?_|refine zB (by kernel_rfl) ?_|refine Nx.go ?_|go_step)|(refine ⟨_,kput_m false p (by omega),?_⟩)|with_reducible (first|refine zI ?_|refine zJ ?_|refine zK ?_ ?_|refine zL ?_ ?_|refine zR (by kernel_rfl) ?_)|simp (maxSteps:=9999999) (disch:=omega) only [wq]|(with_reducible refine zM (fun hb=>?_) (fun hb=>?_) <;> (try simp only [hb]))|(with_reducible refine And.intro (by first|omega|(simp;done)|(simp;omega)) ?_)|simp (maxSteps:=9999999) (implicitDefEqProofs:=false) only [go_sem,hb,keyMay_err,h2,h4,int_beqL,List.length_map]|fail))
    | true =>
      cases hb':(signedT b p s).may with
      | false =>
        obtain ⟨n1,n2⟩:=no (by rw [hm,h1,h4,hb'];rfl)
        rw [n1,n2]
        (repeat' (first|with_reducible (first|refine zA fun Kn hK=>?_|refine zB (by kernel_rfl) ?_|refine Nx.go ?_|go_step)|(refine ⟨none,?_⟩)|(refine ⟨_,kput_m false p (by omega),?_⟩)|(refine ⟨_,atom_m tSigned (by decide),?_⟩)|(refine ⟨_,clone_m b _ (by first|rfl|(rw [treeC_eq];first|rfl|(simp only [go_sem, *];done))) (by omega),?_⟩)|(refine ⟨_,bclone_m s (by omega),?_⟩)|(refine ⟨_,list_m' [atomT tSigned,b,keyV false p,atomT s] (by rfl) (by first|(simp only [hb,keyV,Bool.false_eq_true, ↓reduceIte,atomT,listT,List.flatMap_cons,List.flatMap_nil,treeC_mk,bytesD,List.cons_append,List.nil_append,List.length_cons,List.length_nil,List.map_nil,Nat.reduceAdd,List.append_nil];done)|(simp only [hb,keyV,Bool.false_eq_true, ↓reduceIte,atomT,listT,List.flatMap_cons,List.flatMap_nil,treeC_mk,bytesD,List.cons_append,List.nil_append,List.length_cons,List.length_nil,List.map_nil,Nat.reduceAdd,List.append_nil];rfl)) (by simp),?_⟩)|(refine ⟨_,sxmay_m hG (signedT b p s) (by simp only [signedT,hb,keyV,Bool.false_eq_true, ↓reduceIte,listT,atomT,List.flatMap_cons,List.flatMap_nil,treeC_mk];rfl) (by omega),?_⟩)|with_reducible (first|refine zI ?_|refine zJ ?_|refine zK ?_ ?_|refine zL ?_ ?_|refine zR (by kernel_rfl) ?_)|simp (maxSteps:=9999999) (disch:=omega) only [wq]|(with_reducible refine zM (fun hb=>?_) (fun hb=>?_) <;> (try simp only [hb]))|(with_reducible refine And.intro (by first|omega|(simp;done)|(simp;omega)) ?_)|simp (maxSteps:=9999999) (implicitDefEqProofs:=false) only [go_sem,hb,hb',keyMay_err,h2,h3,h4,keyV,listT,atomT,treeC_mk,List.flatMap_cons,List.flatMap_nil,List.length_map,int_beqL]|fail))
      | true =>
        have y1:sMay b p s=true:=by rw [hm,h1,h4,hb'];rfl
        have y2:sOut b p s=signedT b p s:=by rw [sOut,y1];rfl
        have y3:sErr b p s=0:=by rw [sErr,y1];rfl
        rw [y2,y3]
        (repeat' (first|with_reducible (first|refine zA fun Kn hK=>?_|refine zB (by kernel_rfl) ?_|refine Nx.go ?_|go_step)|(refine ⟨none,?_⟩)|(refine ⟨_,kput_m false p (by omega),?_⟩)|(refine ⟨_,atom_m tSigned (by decide),?_⟩)|(refine ⟨_,clone_m b _ (by first|rfl|(rw [treeC_eq];first|rfl|(simp only [go_sem, *];done))) (by omega),?_⟩)|(refine ⟨_,bclone_m s (by omega),?_⟩)|(refine ⟨_,list_m' [atomT tSigned,b,keyV false p,atomT s] (by rfl) (by first|(simp only [hb,keyV,Bool.false_eq_true, ↓reduceIte,atomT,listT,List.flatMap_cons,List.flatMap_nil,treeC_mk,bytesD,List.cons_append,List.nil_append,List.length_cons,List.length_nil,List.map_nil,Nat.reduceAdd,List.append_nil];done)|(simp only [hb,keyV,Bool.false_eq_true, ↓reduceIte,atomT,listT,List.flatMap_cons,List.flatMap_nil,treeC_mk,bytesD,List.cons_append,List.nil_append,List.length_cons,List.length_nil,List.map_nil,Nat.reduceAdd,List.append_nil];rfl)) (by simp),?_⟩)|(refine ⟨_,sxmay_m hG (signedT b p s) (by simp only [signedT,hb,keyV,Bool.false_eq_true, ↓reduceIte,listT,atomT,List.flatMap_cons,List.flatMap_nil,treeC_mk];rfl) (by omega),?_⟩)|with_reducible (first|refine zI ?_|refine zJ ?_|refine zK ?_ ?_|refine zL ?_ ?_|refine zR (by kernel_rfl) ?_)|simp (maxSteps:=9999999) (disch:=omega) only [wq]|(with_reducible refine zM (fun hb=>?_) (fun hb=>?_) <;> (try simp only [hb]))|(with_reducible refine And.intro (by first|omega|(simp;done)|(simp;omega)) ?_)|simp (maxSteps:=9999999) (implicitDefEqProofs:=false) only [go_sem,hb,hb',keyMay_err,h2,h3,h4,keyV,listT,atomT,treeC_mk,List.flatMap_cons,List.flatMap_nil,List.length_map,int_beqL]|fail))
        simp only [signedT,hb,keyV,Bool.false_eq_true, ↓reduceIte,listT,atomT,List.flatMap_cons,List.flatMap_nil,treeC_mk]
        rfl
end Go.Proofs.YtdakeodebgggfaaGreatDoor
namespace Go.Proofs.YtdakeodebgggfaaGreatDoor
open Go.ChangeShapes Go.WideShapes Go.ChangeAt Go.RowKit
def Rep.signed:Rep (Tree × List UInt8 × List UInt8) where
  size:=7
  pos:=by omega
  rd:=fun w S cs k=> ∃ es A n c B m d,cs=es++[.slice A n c,.slice B m d]∧Rep.tree.rd w S es k.1∧Rep.u8.sl w S A n c k.2.1∧Rep.u8.sl w S B m d k.2.2
  len:=fun h=>by
    obtain ⟨es,_,_,_,_,_,_,rfl,h,_⟩:=h
    rw [List.length_append,Rep.tree.len h]
    rfl
  keep:=fun h hk=>by
    obtain ⟨es,A,n,c,B,m,d,rfl,h1,h2,h3⟩:=h
    exact ⟨es,A,n,c,B,m,d,rfl,Rep.tree.keep h1 hk,Rep.sl_keep h2 hk,Rep.sl_keep h3 hk⟩
  more:=fun h hS=>by
    obtain ⟨es,A,n,c,B,m,d,rfl,h1,h2,h3⟩:=h
    exact ⟨es,A,n,c,B,m,d,rfl,Rep.tree.more h1 hS,Rep.sl_more h2 hS,Rep.sl_more h3 hS⟩
  one := fun h u hu=>by
    obtain ⟨es,A,n,c,B,m,d,rfl,h1,h2,h3⟩:=h
    rcases List.mem_append.1 hu with hu|hu
    · exact Rep.tree.one h1 u hu
    · simp at hu
      rcases hu with rfl|rfl <;> rfl
theorem opensN_signed {P:Program} {t tt tB ty:TypeId} {fs:Array Field} (ht:P.underlying t=some (.struct fs)) (hf:fs.toList.map (fun f=>(f.type,f.offset))=[(tt,0),(tB,5),(tB,6)]) (hc:P.cellsOf t=7)
    (hT: ∀ fuel,OpensN P fuel tt Rep.tree Tree.wt) (hB:P.underlying tB=some (.slice ty)) (hy:P.underlying ty=some (.int .u8)) (ct:P.cellsOf tt=5) (cB:P.cellsOf tB=1) (cy:P.cellsOf ty=1) (fuel:Nat) :
    OpensN P fuel t Rep.signed (fun k=>k.1.wt+k.2.1.length+k.2.2.length):=by
  intro H enc w sp held cs x h
  obtain ⟨m,xs,rfl,hx,hl,hcl,hg⟩:=field_at ht h hf
  rw [hc] at hcl
  match xs,hl,cs,hcl with
  | [x0,x1,x2],_,[c0,c1,c2,c3,c4,c5,c6],_ =>
    have e0:=hg 0 _ _ rfl rfl
    have e1:=hg 1 _ _ rfl rfl
    have e2:=hg 2 _ _ rfl rfl
    dsimp only at e0 e1 e2
    rw [ct] at e0
    rw [cB] at e1 e2
    obtain ⟨y0,r0,w0⟩:=hT _ _ _ _ _ _ _ _ e0
    obtain ⟨y1,A1,n1,k1,q1,s1,w1⟩:=bytes_at hB hy cy e1
    obtain ⟨y2,A2,n2,k2,q2,s2,w2⟩:=bytes_at hB hy cy e2
    simp only [List.drop_zero,List.drop_succ_cons,List.take_succ_cons,List.take_zero,List.cons.injEq,and_true] at q1 q2 r0
    subst q1 q2
    refine ⟨(y0,y1,y2),⟨[c0,c1,c2,c3,c4],A1,n1,k1,A2,n2,k2,rfl,r0,s1,s2⟩,?_⟩
    rw [hx]
    simp only [Rows.uptoBulk,Rows.uptoBulkAll,List.map_cons,List.map_nil]
    omega
theorem opens_signed (fuel:Nat):OpensN Tryz.prog fuel 27 Rep.signed (fun k=>k.1.wt+k.2.1.length+k.2.2.length):=
  opensN_signed Tryz.underlying27 (by kernel_rfl) (by kernel_rfl) opens_sexp Tryz.underlying22 Tryz.underlying5 (by kernel_rfl) (by kernel_rfl) (by kernel_rfl) fuel
theorem cellsOf_signed:CellsOf Rep.signed (fun k=>sgnC k.1 k.2.1 k.2.2):=by
  rintro w S cs y ⟨es,A,n,c,B,m,d,rfl,h1,h2,h3⟩
  exact cellsR_app (cellsOf_tree h1) (cellsR_cons (rd_bytes h2) (cellsR_cons (rd_bytes h3) cellsR_nil))
theorem opens_bytes (fuel:Nat):OpensN Tryz.prog fuel 22 Rep.u8.slice (fun xs=>xs.length+1):=by
  have h:=opensN_slice (P:=Tryz.prog) fuel Tryz.underlying22 (by kernel_rfl) fun m _=>opensN_u8 m Tryz.underlying5 (by kernel_rfl)
  simpa only [sum_ones] using h
end Go.Proofs.YtdakeodebgggfaaGreatDoor
namespace Go.Proofs.YtdakeodebgggfaaGreatDoor
theorem sum_memT {α:Type} {f:α→Nat} {x:α}: ∀ {l:List α},x∈l→f x≤(l.map f).sum
  | y :: l,h=>by
    rw [List.map_cons,List.sum_cons]
    rcases List.mem_cons.1 h with rfl|h
    · omega
    · have:=sum_memT (f:=f) h
      omega
theorem flat_mem {α β:Type} {f:α→List β} {x:α}: ∀ {l:List α},x∈l→(f x).length≤(l.map f).flatten.length
  | y :: l,h=>by
    rw [List.map_cons,List.flatten_cons,List.length_append]
    rcases List.mem_cons.1 h with rfl|h
    · omega
    · have:=flat_mem (f:=f) h
      omega
theorem may_kid {t x:Tree} (h:t.may=true) (hl:t.list=true) (hx:x∈t.kids):x.may=true:=by
  simp only [Tree.may,Bool.and_eq_true,decide_eq_true_eq] at h ⊢
  obtain ⟨⟨⟨h1,h2⟩,h3⟩,h4⟩:=h
  rw [Tree.clean_eq,Bool.and_eq_true] at h1
  rw [Tree.nodes_eq] at h2
  rw [Tree.deep_eq,if_pos hl] at h3
  rw [Tree.form_eq,if_pos hl] at h4
  have k2:=sum_memT (f:=Tree.nodes) hx
  have k3:=most_le.1 (Nat.le_refl (most (t.kids.map Tree.deep))) x.deep (List.mem_map_of_mem hx)
  have k4:=flat_mem (f:=Tree.form) hx
  simp only [List.length_append,List.length_singleton] at h4
  exact ⟨⟨⟨List.all_eq_true.1 h1.2 x hx,by omega⟩,by omega⟩,by omega⟩
theorem may_form {t:Tree} (h:t.may=true):t.form.length≤4096:=by
  simp only [Tree.may,Bool.and_eq_true,decide_eq_true_eq] at h
  exact h.2
theorem signed_body {b:Tree} {p s:List UInt8} (h:sMay b p s=true):b.may=true:=by
  simp only [sMay,Bool.and_eq_true] at h
  exact may_kid h.2 rfl (by simp [signedT,listT,Tree.kids])
theorem listT_may {l:List Tree}:(listT l).may=(l.all Tree.clean&&decide (1+(l.map Tree.nodes).sum≤512)&&decide (most (l.map Tree.deep)+1≤16)&&decide (2+(l.map Tree.form).flatten.length≤4096)):=by
  have e1:(listT l).clean=l.all Tree.clean:=by rw [Tree.clean_eq];simp [Tree.fair,listT,Tree.list,Tree.hinted,Tree.hint,Tree.data,Tree.kids]
  have e2:(listT l).nodes=1+(l.map Tree.nodes).sum:=Tree.nodes_eq _
  have e3:(listT l).deep=most (l.map Tree.deep)+1:=Tree.deep_eq _
  have e4:(listT l).form.length=2+(l.map Tree.form).flatten.length:=by
    rw [Tree.form_eq,if_pos (show (listT l).list=true from rfl)]
    simp only [List.length_append,List.length_singleton,listT,Tree.kids]
    omega
  rw [Tree.may,e1,e2,e3,e4]
theorem atomT_is {d:List UInt8}:(atomT d).clean=true∧(atomT d).nodes=1∧(atomT d).deep=0∧(atomT d).form=textB d:=by
  refine ⟨?_,?_,?_,?_⟩
  · rw [Tree.clean_eq]
    simp [Tree.fair,atomT,Tree.list,Tree.hinted,Tree.hint,Tree.kids]
  · rw [Tree.nodes_eq]
    simp [atomT,Tree.kids]
  · rw [Tree.deep_eq]
    simp [atomT,Tree.list]
  · rw [Tree.form_eq]
    simp [Tree.atomF,atomT,Tree.list,Tree.hinted,Tree.data]
theorem textB_eq {d e:List UInt8} (h:d.length=e.length):(textB d).length=(textB e).length:=by simp [textB,h]
theorem sMay_sig {b:Tree} {p s s':List UInt8} (h:s.length=s'.length):sMay b p s=sMay b p s':=by
  have k:=textB_eq h
  rw [sMay,sMay,h,signedT,signedT,listT_may,listT_may]
  simp only [List.all_cons,List.all_nil,List.map_cons,List.map_nil,List.flatten_cons,List.flatten_nil,List.length_append,List.length_nil,atomT_is.1,atomT_is.2.1,atomT_is.2.2.1,atomT_is.2.2.2,k]
end Go.Proofs.YtdakeodebgggfaaGreatDoor
namespace Go.Proofs.YtdakeodebgggfaaGreatDoor
open Go.RowKit
def zeroL (n:Nat):List UInt8:=List.replicate n 0
theorem zeroL_len (n:Nat):(zeroL n).length=n:=List.length_replicate
theorem zeros_C (n:Nat):(List.replicate n [C.d (.v (.int .u8 0))]).flatten=((zeroL n).map bD).map C.d:=by
  induction n with
  | zero=>rfl
  | succ n ih=>rw [List.replicate_succ,List.flatten_cons,ih];rfl
theorem zeros_take (n:Nat):((zeroL n).map bD).take n=(zeroL n).map bD:=List.take_of_length_le (by rw [List.length_map,zeroL_len];exact Nat.le_refl _)
theorem awake18_may:sMay (atomT [120]) (zeroL 32) (zeroL 64)=true:=by
  have hm:(signedT (atomT [120]) (zeroL 32) (zeroL 64)).may=true:=by
    simp only [Tree.may,signedT,keyV,Bool.false_eq_true,if_false,Tree.clean_eq,Tree.nodes_eq,Tree.deep_eq,Tree.form_eq,Tree.fair,Tree.atomF,listT,atomT,Tree.list,Tree.hinted,Tree.hint,Tree.data,Tree.kids,textB,zeroL,List.length_replicate]
    decide +kernel
  rw [sMay,hm,zeroL_len,zeroL_len]
  rfl
theorem head_signed (b:Tree) (p s:List UInt8):headB (signedT b p s) tSigned=true:=by
  simp [headB,signedT,listT,atomT,isB,Tree.list,Tree.kids,Tree.hinted,Tree.data]
theorem awake18_of {G:Nat→Option (List D)} (T:Tree) (h1:Spec Tryz.prog G 17 [.g (sgnC (atomT [120]) (zeroL 32) (zeroL 64))] (.many [.g (treeC T),.c (.v (.int .i64 0))])) (hk:T.kids.length=4) (hh:headB T tSigned=true) :
    Spec Tryz.prog G 7 [] (.one (.c (.v (.bool true)))):=by
  have h2:=headref_m (G:=G) T rfl tSigned
  rw [hh] at h2
  rw [treeC_eq T,hk] at h1 h2
  rw [sgnC,atomT,treeC_mk] at h1
  refine spec_of Tryz.func7 rfl rfl rfl (by kernel_rfl) rfl fun K=>?_
  (repeat' (first|with_reducible (first|refine zA fun Kn hK=>?_|refine zB (by kernel_rfl) ?_|refine Nx.go ?_|go_step)|(refine ⟨none,?_⟩)|(refine ⟨_,atomref_m [120] (by decide),?_⟩)|(refine ⟨_,h1,?_⟩)|(refine ⟨_,h2,?_⟩)|with_reducible (first|refine zI ?_|refine zJ ?_|refine zK ?_ ?_|refine zL ?_ ?_|refine zR (by kernel_rfl) ?_)|simp (maxSteps:=9999999) (disch:=omega) only [wq]|(with_reducible refine zM (fun hb=>?_) (fun hb=>?_) <;> (try simp only [hb]))|(with_reducible refine And.intro (by first|omega|(simp;done)|(simp;omega)) ?_)|simp (maxSteps:=9999999) (implicitDefEqProofs:=false) only [go_sem,zeros_C,zeros_take,int_beqL,List.flatMap_nil,List.length_map,treeC_mk,atomT,zeroL_len]|fail))
theorem awake18_m {G:Nat→Option (List D)} (hG:G 0=some powD):Spec Tryz.prog G 7 [] (.one (.c (.v (.bool true)))):=by
  refine awake18_of (signedT (atomT [120]) (zeroL 32) (zeroL 64)) ?_ rfl (head_signed _ _ _)
  have h1:=sput18_m (G:=G) hG (atomT [120]) (zeroL 32) (zeroL 64) (by simp [Tree.wt_eq,atomT,Tree.hint,Tree.data,Tree.kids]) (by simp [zeroL_len]) (by simp [zeroL_len])
  have ho:sOut (atomT [120]) (zeroL 32) (zeroL 64)=signedT (atomT [120]) (zeroL 32) (zeroL 64):=by rw [sOut,awake18_may];rfl
  have he:sErr (atomT [120]) (zeroL 32) (zeroL 64)=0:=by rw [sErr,awake18_may];rfl
  rw [ho,he] at h1
  exact h1
end Go.Proofs.YtdakeodebgggfaaGreatDoor
namespace Go.Proofs.YtdakeodebgggfaaGreatDoor
def pP:Nat:=57896044618658097711785492504343953926634992332820282019728792003956564819949
def powm (m:Nat):Nat→Nat→Nat→Nat
  | 0,_,_=>1%m
  | f+1,a,e=>if e=0 then 1%m else if e%2=1 then a*powm m f (a*a%m) (e/2)%m else powm m f (a*a%m) (e/2)
theorem powm_eq {m:Nat}: ∀ f a e,e<2^f→powm m f a e=a^e%m
  | 0,a,e,h=>by
    have:e=0:=by omega
    subst this
    rfl
  | f + 1,a,e,h=>by
    unfold powm
    split
    · rename_i h0
      subst h0
      rfl
    · have ih:=powm_eq (m:=m) f (a*a%m) (e/2) (by rw [Nat.pow_succ] at h;omega)
      have e2:(a*a%m)^(e/2)%m=(a*a)^(e/2)%m:=by rw [← Nat.pow_mod]
      rw [ih,e2]
      split
      · rename_i h1
        rw [Nat.mul_mod,Nat.mod_mod,← Nat.mul_mod]
        congr 1
        rw [← Nat.pow_two,← Nat.pow_mul,← Nat.pow_succ']
        congr 1
        omega
      · rw [← Nat.pow_two,← Nat.pow_mul]
        congr 2
        omega
def Pr (n:Nat):Prop:=2≤n∧ ∀ k,k ∣ n→k=1∨k=n
theorem Pr.cop {r m:Nat} (h:Pr r) (hm: ¬ r ∣ m):Nat.Coprime m r:=by
  rcases h.2 (Nat.gcd m r) (Nat.gcd_dvd_right ..) with e|e
  · exact e
  · exact absurd (e▸Nat.gcd_dvd_left m r) hm
theorem Pr.euclid {r a b:Nat} (h:Pr r) (hd:r ∣ a*b):r ∣ a∨r ∣ b:=by
  by_cases ha:r ∣ a
  · exact .inl ha
  · exact .inr ((h.cop ha).symm.dvd_of_dvd_mul_left hd)
def prodL (l:List Nat):Nat:=l.foldr (· * ·) 1
theorem prime_in {l:List Nat} (hl: ∀ r∈l,Pr r): ∀ {m:Nat},m ∣ prodL l→m≠1→ ∃ r∈l,r ∣ m:=by
  induction l with
  | nil =>
    intro m hm h1
    exact absurd (Nat.dvd_one.1 hm) h1
  | cons r l ih =>
    intro m hm h1
    by_cases hr:r ∣ m
    · exact ⟨r,by simp,hr⟩
    · have hc:=(hl r (by simp)).cop hr
      obtain ⟨s,hs,hd⟩:=ih (fun s hs=>hl s (by simp [hs])) (hc.dvd_of_dvd_mul_left (show m ∣ r*prodL l from hm)) h1
      exact ⟨s,by simp [hs],hd⟩
theorem pow_one_mul {q g n:Nat} (h:g^n%q=1%q) (k:Nat):g^(n*k)%q=1%q:=by
  rw [Nat.pow_mul,Nat.pow_mod,h,← Nat.pow_mod,Nat.one_pow]
theorem pow_one_mod {q g n m:Nat} (hn:g^n%q=1%q) (hm:g^m%q=1%q):g^(m%n)%q=1%q:=by
  have h:=Nat.div_add_mod m n
  have h2:g^m%q=g^(m%n)%q:=by
    conv=>lhs;rw [← h,Nat.pow_add,Nat.mul_mod,pow_one_mul hn,← Nat.mul_mod,Nat.one_mul]
  rw [← h2,hm]
theorem order_of {q g:Nat} {l:List Nat} (hl: ∀ r∈l,Pr r) (hp:prodL l=q-1) (hq:2≤q) (h1:g^(q-1)%q=1%q) (hr: ∀ r∈l,g^((q-1)/r)%q≠1%q) :
    ∀ n,0<n→n<q-1→g^n%q≠1%q:=by
  intro n
  induction n using Nat.strongRecOn with
  | _ n ih =>
    intro h0 hlt hn
    by_cases hd:(q-1)%n=0
    · have hdv:n ∣ q-1:=Nat.dvd_of_mod_eq_zero hd
      obtain ⟨m,hm⟩:=hdv
      have hm1:m≠1:=by
        intro e
        subst e
        omega
      obtain ⟨r,hrl,k,hk⟩:=prime_in hl (m:=m) ⟨n,by rw [hp,hm,Nat.mul_comm]⟩ hm1
      have h2:=(hl r hrl).1
      refine hr r hrl ?_
      have e:(q-1)/r=n*k:=by
        rw [hm,hk,show n*(r*k)=r*(n*k) by rw [← Nat.mul_assoc,Nat.mul_comm n r,Nat.mul_assoc],Nat.mul_div_cancel_left _ (by omega)]
      rw [e]
      exact pow_one_mul hn k
    · have h2:=Nat.mod_lt (q-1) h0
      exact ih _ h2 (by omega) (by omega) (pow_one_mod hn h1)
theorem nodup_all: ∀ (n:Nat) (l:List Nat),l.Nodup→(∀ x∈l,x<n)→n≤l.length→ ∀ x,x<n→x∈l:=by
  intro n
  induction n with
  | zero=>intro l _ _ _ x hx;omega
  | succ n ih =>
    intro l hn hl hlen x hx
    have hlen2: ∀ (m:Nat) (l:List Nat),l.Nodup→(∀ x∈l,x<m)→l.length≤m:=by
      intro m
      induction m with
      | zero =>
        intro l _ hl
        cases l with
        | nil=>simp
        | cons a l=>have:=hl a (by simp);omega
      | succ m ihm =>
        intro l hn hl
        have h1:=ihm (l.erase m) (hn.erase m) fun x hx=>by
          have h2:=hl x (List.mem_of_mem_erase hx)
          have h3:x≠m:=by
            rintro rfl
            exact (hn.mem_erase_iff.1 hx).1 rfl
          omega
        have h4:=List.length_erase (a:=m) (l:=l)
        split at h4 <;> omega
    have hmem:n∈l:=by
      apply Classical.byContradiction
      intro hc
      have:=hlen2 n l hn fun x hx=>by
        have h1:=hl x hx
        have h2:x≠n:=by
          intro e
          exact hc (e▸hx)
        omega
      omega
    by_cases hxn:x=n
    · subst hxn;exact hmem
    · have:=ih (l.erase n) (hn.erase n) (fun y hy=>by
        have h2:=hl y (List.mem_of_mem_erase hy)
        have h3:y≠n:=by
          rintro rfl
          exact (hn.mem_erase_iff.1 hy).1 rfl
        omega) (by rw [List.length_erase,if_pos hmem];omega) x (by omega)
      exact List.mem_of_mem_erase this
theorem cop_pow {q g:Nat} (hq:2≤q) {n:Nat} (hn:0<n) (h:g^n%q=1%q):Nat.Coprime g q:=by
  have h1:Nat.gcd (g^n) q=1:=by
    rw [Nat.gcd_comm,Nat.gcd_rec,h,Nat.mod_eq_of_lt (by omega)]
    simp
  have h2:Nat.gcd g q ∣ 1:=by
    rw [← h1]
    exact Nat.dvd_gcd (Nat.dvd_trans (Nat.gcd_dvd_left ..) (show g ∣ g^n from by obtain ⟨k,rfl⟩: ∃ k,n=k+1:=⟨n-1,by omega⟩;exact ⟨g^k,Nat.pow_succ'⟩)) (Nat.gcd_dvd_right ..)
  exact Nat.dvd_one.1 h2
theorem dvd_sub_of {q a b:Nat} (h:a%q=b%q) (hab:a≤b):q ∣ b-a:=Nat.dvd_of_mod_eq_zero (Nat.sub_mod_eq_zero_of_mod_eq h.symm)
theorem of_dvd_sub {q a b:Nat} (h:q ∣ b-a) (hab:a≤b):a%q=b%q:=by
  obtain ⟨k,hk⟩:=h
  have:b=a+q*k:=by omega
  rw [this,Nat.add_mul_mod_self_left]
theorem modeq_cancel {q a x y:Nat} (hc:Nat.Coprime a q) (h:a*x%q=a*y%q) (hxy:x≤y):x%q=y%q:=by
  have h1:q ∣ a*(y-x):=by
    rw [Nat.mul_sub]
    exact dvd_sub_of h (Nat.mul_le_mul_left a hxy)
  exact of_dvd_sub (hc.symm.dvd_of_dvd_mul_left h1) hxy
theorem all_pow {q g:Nat} (hq:2≤q) (h1:g^(q-1)%q=1%q) (ho: ∀ n,0<n→n<q-1→g^n%q≠1%q) {x:Nat} (hx0:0<x) (hx:x<q): ∃ k,k<q-1∧g^k%q=x:=by
  have hc:=cop_pow hq (show 0<q-1 by omega) h1
  have hck: ∀ k,Nat.Coprime (g^k) q:=fun k=>Nat.Coprime.pow_left k hc
  have key: ∀ i j,i<j→j<q-1→g^i%q≠g^j%q:=by
    intro i j hij hj e
    have e2:g^i*1%q=g^i*g^(j-i)%q:=by
      rw [Nat.mul_one,← Nat.pow_add,show i+(j-i)=j by omega,e]
    have hg0:0<g:=by
      rcases Nat.eq_zero_or_pos g with h0|h0
      · subst h0
        rw [Nat.zero_pow (by omega)] at h1
        rw [Nat.mod_eq_of_lt (show 1<q by omega)] at h1
        simp at h1
      · exact h0
    have:=modeq_cancel (hck i) e2 (Nat.pow_pos hg0)
    exact ho (j-i) (by omega) (by omega) this.symm
  have hpos: ∀ k,0<g^k%q:=by
    intro k
    rcases Nat.eq_zero_or_pos (g^k%q) with h0|h0
    · have h2:=hck k
      have h3:q ∣ g^k:=Nat.dvd_of_mod_eq_zero h0
      have h4:q ∣ 1:=by
        have:=Nat.dvd_gcd h3 (Nat.dvd_refl q)
        rwa [h2] at this
      have:=Nat.le_of_dvd (by omega) h4
      omega
    · exact h0
  let l:=(List.range (q-1)).map fun k=>g^k%q-1
  have hn:l.Nodup:=by
    refine List.pairwise_map.2 ?_
    refine List.Pairwise.imp_of_mem ?_ List.pairwise_lt_range
    intro a b ha hb hab e
    have:=hpos a
    have:=hpos b
    exact key a b hab (List.mem_range.1 hb) (by omega)
  have hm:=nodup_all (q-1) l hn (fun y hy=>by
    obtain ⟨k,hk,rfl⟩:=List.mem_map.1 hy
    have:=hpos k
    have:=Nat.mod_lt (g^k) (show 0<q by omega)
    omega) (by simp [l]) (x-1) (by omega)
  obtain ⟨k,hk,e⟩:=List.mem_map.1 hm
  refine ⟨k,List.mem_range.1 hk,?_⟩
  have:=hpos k
  omega
theorem pr_of {q g:Nat} (hq:2≤q) (h1:g^(q-1)%q=1%q) (ho: ∀ n,0<n→n<q-1→g^n%q≠1%q):Pr q:=by
  refine ⟨hq,fun k hk=>?_⟩
  have hk0:0<k:=Nat.pos_of_dvd_of_pos hk (by omega)
  have hkq:=Nat.le_of_dvd (by omega) hk
  by_cases e:k=q
  · exact .inr e
  · obtain ⟨n,_,hn⟩:=all_pow hq h1 ho hk0 (show k<q by omega)
    have hc:=Nat.Coprime.pow_left n (cop_pow hq (show 0<q-1 by omega) h1)
    have h2:k ∣ g^n:=by
      have:=Nat.div_add_mod (g^n) q
      rw [← this,hn]
      exact Nat.dvd_add (Nat.dvd_trans hk ⟨_,rfl⟩) (Nat.dvd_refl k)
    have h3:=Nat.dvd_gcd h2 hk
    rw [hc] at h3
    exact .inl (Nat.dvd_one.1 h3)
theorem pr_cert (q g:Nat) (l:List Nat) (hl: ∀ r∈l,Pr r) (f:Nat) (hc:(decide (2≤q)&&prodL l==q-1&&decide (q<2^f)&&powm q f g (q-1)==1%q&&l.all fun r=>powm q f g ((q-1)/r) != 1%q)=true) :
    g^(q-1)%q=1%q∧(∀ n,0<n→n<q-1→g^n%q≠1%q)∧Pr q:=by
  simp only [Bool.and_eq_true,decide_eq_true_eq,beq_iff_eq,List.all_eq_true,bne_iff_ne] at hc
  obtain ⟨⟨⟨⟨h1,h2⟩,h3⟩,h4⟩,h5⟩:=hc
  rw [powm_eq f g (q-1) (by omega)] at h4
  have h6:=order_of hl h2 h1 h4 fun r hr=>by
    have:=h5 r hr
    rwa [powm_eq f g _ (Nat.lt_of_le_of_lt (Nat.div_le_self ..) (by omega))] at this
  exact ⟨h4,h6,pr_of h1 h4 h6⟩
theorem pr2:Pr 2:=by
  refine ⟨by omega,fun k hk=>?_⟩
  have h1:=Nat.le_of_dvd (by omega) hk
  have h2:k≠0:=by
    rintro rfl
    simp at hk
  omega
theorem cpr3:2^(3-1)%3=1%3∧(∀ n,0<n→n<3-1→2^n%3≠1%3)∧Pr 3:=
  pr_cert 3 2 [2] (by simp only [List.forall_mem_cons,List.not_mem_nil,false_implies,implies_true,and_true];exact pr2) 2 (by decide +kernel)
theorem pr3:Pr 3:=cpr3.2.2
theorem cpr17:3^(17-1)%17=1%17∧(∀ n,0<n→n<17-1→3^n%17≠1%17)∧Pr 17:=
  pr_cert 17 3 [2,2,2,2] (by simp only [List.forall_mem_cons,List.not_mem_nil,false_implies,implies_true,and_true];exact ⟨pr2,pr2,pr2,pr2⟩) 5 (by decide +kernel)
theorem pr17:Pr 17:=cpr17.2.2
theorem cpr7:3^(7-1)%7=1%7∧(∀ n,0<n→n<7-1→3^n%7≠1%7)∧Pr 7:=
  pr_cert 7 3 [2,3] (by simp only [List.forall_mem_cons,List.not_mem_nil,false_implies,implies_true,and_true];exact ⟨pr2,pr3⟩) 3 (by decide +kernel)
theorem pr7:Pr 7:=cpr7.2.2
theorem cpr239:7^(239-1)%239=1%239∧(∀ n,0<n→n<239-1→7^n%239≠1%239)∧Pr 239:=
  pr_cert 239 7 [2,7,17] (by simp only [List.forall_mem_cons,List.not_mem_nil,false_implies,implies_true,and_true];exact ⟨pr2,pr7,pr17⟩) 8 (by decide +kernel)
theorem pr239:Pr 239:=cpr239.2.2
theorem cpr479:13^(479-1)%479=1%479∧(∀ n,0<n→n<479-1→13^n%479≠1%479)∧Pr 479:=
  pr_cert 479 13 [2,239] (by simp only [List.forall_mem_cons,List.not_mem_nil,false_implies,implies_true,and_true];exact ⟨pr2,pr239⟩) 9 (by decide +kernel)
theorem pr479:Pr 479:=cpr479.2.2
theorem cpr32573:2^(32573-1)%32573=1%32573∧(∀ n,0<n→n<32573-1→2^n%32573≠1%32573)∧Pr 32573:=
  pr_cert 32573 2 [2,2,17,479] (by simp only [List.forall_mem_cons,List.not_mem_nil,false_implies,implies_true,and_true];exact ⟨pr2,pr2,pr17,pr479⟩) 15 (by decide +kernel)
theorem pr32573:Pr 32573:=cpr32573.2.2
theorem cpr65147:2^(65147-1)%65147=1%65147∧(∀ n,0<n→n<65147-1→2^n%65147≠1%65147)∧Pr 65147:=
  pr_cert 65147 2 [2,32573] (by simp only [List.forall_mem_cons,List.not_mem_nil,false_implies,implies_true,and_true];exact ⟨pr2,pr32573⟩) 16 (by decide +kernel)
theorem pr65147:Pr 65147:=cpr65147.2.2
theorem cpr5:2^(5-1)%5=1%5∧(∀ n,0<n→n<5-1→2^n%5≠1%5)∧Pr 5:=
  pr_cert 5 2 [2,2] (by simp only [List.forall_mem_cons,List.not_mem_nil,false_implies,implies_true,and_true];exact ⟨pr2,pr2⟩) 3 (by decide +kernel)
theorem pr5:Pr 5:=cpr5.2.2
theorem cpr11:2^(11-1)%11=1%11∧(∀ n,0<n→n<11-1→2^n%11≠1%11)∧Pr 11:=
  pr_cert 11 2 [2,5] (by simp only [List.forall_mem_cons,List.not_mem_nil,false_implies,implies_true,and_true];exact ⟨pr2,pr5⟩) 4 (by decide +kernel)
theorem pr11:Pr 11:=cpr11.2.2
theorem cpr353:3^(353-1)%353=1%353∧(∀ n,0<n→n<353-1→3^n%353≠1%353)∧Pr 353:=
  pr_cert 353 3 [2,2,2,2,2,11] (by simp only [List.forall_mem_cons,List.not_mem_nil,false_implies,implies_true,and_true];exact ⟨pr2,pr2,pr2,pr2,pr2,pr11⟩) 9 (by decide +kernel)
theorem pr353:Pr 353:=cpr353.2.2
theorem cpr29:2^(29-1)%29=1%29∧(∀ n,0<n→n<29-1→2^n%29≠1%29)∧Pr 29:=
  pr_cert 29 2 [2,2,7] (by simp only [List.forall_mem_cons,List.not_mem_nil,false_implies,implies_true,and_true];exact ⟨pr2,pr2,pr7⟩) 5 (by decide +kernel)
theorem pr29:Pr 29:=cpr29.2.2
theorem cpr59:2^(59-1)%59=1%59∧(∀ n,0<n→n<59-1→2^n%59≠1%59)∧Pr 59:=
  pr_cert 59 2 [2,29] (by simp only [List.forall_mem_cons,List.not_mem_nil,false_implies,implies_true,and_true];exact ⟨pr2,pr29⟩) 6 (by decide +kernel)
theorem pr59:Pr 59:=cpr59.2.2
theorem cpr487:3^(487-1)%487=1%487∧(∀ n,0<n→n<487-1→3^n%487≠1%487)∧Pr 487:=
  pr_cert 487 3 [2,3,3,3,3,3] (by simp only [List.forall_mem_cons,List.not_mem_nil,false_implies,implies_true,and_true];exact ⟨pr2,pr3,pr3,pr3,pr3,pr3⟩) 9 (by decide +kernel)
theorem pr487:Pr 487:=cpr487.2.2
theorem cpr57467:2^(57467-1)%57467=1%57467∧(∀ n,0<n→n<57467-1→2^n%57467≠1%57467)∧Pr 57467:=
  pr_cert 57467 2 [2,59,487] (by simp only [List.forall_mem_cons,List.not_mem_nil,false_implies,implies_true,and_true];exact ⟨pr2,pr59,pr487⟩) 16 (by decide +kernel)
theorem pr57467:Pr 57467:=cpr57467.2.2
theorem cpr13:2^(13-1)%13=1%13∧(∀ n,0<n→n<13-1→2^n%13≠1%13)∧Pr 13:=
  pr_cert 13 2 [2,2,3] (by simp only [List.forall_mem_cons,List.not_mem_nil,false_implies,implies_true,and_true];exact ⟨pr2,pr2,pr3⟩) 4 (by decide +kernel)
theorem pr13:Pr 13:=cpr13.2.2
theorem cpr131:2^(131-1)%131=1%131∧(∀ n,0<n→n<131-1→2^n%131≠1%131)∧Pr 131:=
  pr_cert 131 2 [2,5,13] (by simp only [List.forall_mem_cons,List.not_mem_nil,false_implies,implies_true,and_true];exact ⟨pr2,pr5,pr13⟩) 8 (by decide +kernel)
theorem pr131:Pr 131:=cpr131.2.2
theorem cpr132049:26^(132049-1)%132049=1%132049∧(∀ n,0<n→n<132049-1→26^n%132049≠1%132049)∧Pr 132049:=
  pr_cert 132049 26 [2,2,2,2,3,3,7,131] (by simp only [List.forall_mem_cons,List.not_mem_nil,false_implies,implies_true,and_true];exact ⟨pr2,pr2,pr2,pr2,pr3,pr3,pr7,pr131⟩) 18 (by decide +kernel)
theorem pr132049:Pr 132049:=cpr132049.2.2
theorem cpr43:3^(43-1)%43=1%43∧(∀ n,0<n→n<43-1→3^n%43≠1%43)∧Pr 43:=
  pr_cert 43 3 [2,3,7] (by simp only [List.forall_mem_cons,List.not_mem_nil,false_implies,implies_true,and_true];exact ⟨pr2,pr3,pr7⟩) 6 (by decide +kernel)
theorem pr43:Pr 43:=cpr43.2.2
theorem cpr23:5^(23-1)%23=1%23∧(∀ n,0<n→n<23-1→5^n%23≠1%23)∧Pr 23:=
  pr_cert 23 5 [2,11] (by simp only [List.forall_mem_cons,List.not_mem_nil,false_implies,implies_true,and_true];exact ⟨pr2,pr11⟩) 5 (by decide +kernel)
theorem pr23:Pr 23:=cpr23.2.2
theorem cpr3727:3^(3727-1)%3727=1%3727∧(∀ n,0<n→n<3727-1→3^n%3727≠1%3727)∧Pr 3727:=
  pr_cert 3727 3 [2,3,3,3,3,23] (by simp only [List.forall_mem_cons,List.not_mem_nil,false_implies,implies_true,and_true];exact ⟨pr2,pr3,pr3,pr3,pr3,pr23⟩) 12 (by decide +kernel)
theorem pr3727:Pr 3727:=cpr3727.2.2
theorem cpr1923133:2^(1923133-1)%1923133=1%1923133∧(∀ n,0<n→n<1923133-1→2^n%1923133≠1%1923133)∧Pr 1923133:=
  pr_cert 1923133 2 [2,2,3,43,3727] (by simp only [List.forall_mem_cons,List.not_mem_nil,false_implies,implies_true,and_true];exact ⟨pr2,pr2,pr3,pr43,pr3727⟩) 21 (by decide +kernel)
theorem pr1923133:Pr 1923133:=cpr1923133.2.2
theorem cpr31:3^(31-1)%31=1%31∧(∀ n,0<n→n<31-1→3^n%31≠1%31)∧Pr 31:=
  pr_cert 31 3 [2,3,5] (by simp only [List.forall_mem_cons,List.not_mem_nil,false_implies,implies_true,and_true];exact ⟨pr2,pr3,pr5⟩) 5 (by decide +kernel)
theorem pr31:Pr 31:=cpr31.2.2
theorem cpr53:2^(53-1)%53=1%53∧(∀ n,0<n→n<53-1→2^n%53≠1%53)∧Pr 53:=
  pr_cert 53 2 [2,2,13] (by simp only [List.forall_mem_cons,List.not_mem_nil,false_implies,implies_true,and_true];exact ⟨pr2,pr2,pr13⟩) 6 (by decide +kernel)
theorem pr53:Pr 53:=cpr53.2.2
theorem cpr107:2^(107-1)%107=1%107∧(∀ n,0<n→n<107-1→2^n%107≠1%107)∧Pr 107:=
  pr_cert 107 2 [2,53] (by simp only [List.forall_mem_cons,List.not_mem_nil,false_implies,implies_true,and_true];exact ⟨pr2,pr53⟩) 7 (by decide +kernel)
theorem pr107:Pr 107:=cpr107.2.2
theorem cpr37:2^(37-1)%37=1%37∧(∀ n,0<n→n<37-1→2^n%37≠1%37)∧Pr 37:=
  pr_cert 37 2 [2,2,3,3] (by simp only [List.forall_mem_cons,List.not_mem_nil,false_implies,implies_true,and_true];exact ⟨pr2,pr2,pr3,pr3⟩) 6 (by decide +kernel)
theorem pr37:Pr 37:=cpr37.2.2
theorem cpr223:3^(223-1)%223=1%223∧(∀ n,0<n→n<223-1→3^n%223≠1%223)∧Pr 223:=
  pr_cert 223 3 [2,3,37] (by simp only [List.forall_mem_cons,List.not_mem_nil,false_implies,implies_true,and_true];exact ⟨pr2,pr3,pr37⟩) 8 (by decide +kernel)
theorem pr223:Pr 223:=cpr223.2.2
theorem cpr173:2^(173-1)%173=1%173∧(∀ n,0<n→n<173-1→2^n%173≠1%173)∧Pr 173:=
  pr_cert 173 2 [2,2,43] (by simp only [List.forall_mem_cons,List.not_mem_nil,false_implies,implies_true,and_true];exact ⟨pr2,pr2,pr43⟩) 8 (by decide +kernel)
theorem pr173:Pr 173:=cpr173.2.2
theorem cpr4153:5^(4153-1)%4153=1%4153∧(∀ n,0<n→n<4153-1→5^n%4153≠1%4153)∧Pr 4153:=
  pr_cert 4153 5 [2,2,2,3,173] (by simp only [List.forall_mem_cons,List.not_mem_nil,false_implies,implies_true,and_true];exact ⟨pr2,pr2,pr2,pr3,pr173⟩) 13 (by decide +kernel)
theorem pr4153:Pr 4153:=cpr4153.2.2
theorem cpr41:6^(41-1)%41=1%41∧(∀ n,0<n→n<41-1→6^n%41≠1%41)∧Pr 41:=
  pr_cert 41 6 [2,2,2,5] (by simp only [List.forall_mem_cons,List.not_mem_nil,false_implies,implies_true,and_true];exact ⟨pr2,pr2,pr2,pr5⟩) 6 (by decide +kernel)
theorem pr41:Pr 41:=cpr41.2.2
theorem cpr1723:3^(1723-1)%1723=1%1723∧(∀ n,0<n→n<1723-1→3^n%1723≠1%1723)∧Pr 1723:=
  pr_cert 1723 3 [2,3,7,41] (by simp only [List.forall_mem_cons,List.not_mem_nil,false_implies,implies_true,and_true];exact ⟨pr2,pr3,pr7,pr41⟩) 11 (by decide +kernel)
theorem pr1723:Pr 1723:=cpr1723.2.2
theorem cpr430751:17^(430751-1)%430751=1%430751∧(∀ n,0<n→n<430751-1→17^n%430751≠1%430751)∧Pr 430751:=
  pr_cert 430751 17 [2,5,5,5,1723] (by simp only [List.forall_mem_cons,List.not_mem_nil,false_implies,implies_true,and_true];exact ⟨pr2,pr5,pr5,pr5,pr1723⟩) 19 (by decide +kernel)
theorem pr430751:Pr 430751:=cpr430751.2.2
theorem cpr31757755568855353:10^(31757755568855353-1)%31757755568855353=1%31757755568855353∧(∀ n,0<n→n<31757755568855353-1→10^n%31757755568855353≠1%31757755568855353)∧Pr 31757755568855353:=
  pr_cert 31757755568855353 10 [2,2,2,3,31,107,223,4153,430751] (by simp only [List.forall_mem_cons,List.not_mem_nil,false_implies,implies_true,and_true];exact ⟨pr2,pr2,pr2,pr3,pr31,pr107,pr223,pr4153,pr430751⟩) 55 (by decide +kernel)
theorem pr31757755568855353:Pr 31757755568855353:=cpr31757755568855353.2.2
theorem cpr19:2^(19-1)%19=1%19∧(∀ n,0<n→n<19-1→2^n%19≠1%19)∧Pr 19:=
  pr_cert 19 2 [2,3,3] (by simp only [List.forall_mem_cons,List.not_mem_nil,false_implies,implies_true,and_true];exact ⟨pr2,pr3,pr3⟩) 5 (by decide +kernel)
theorem pr19:Pr 19:=cpr19.2.2
theorem cpr83:2^(83-1)%83=1%83∧(∀ n,0<n→n<83-1→2^n%83≠1%83)∧Pr 83:=
  pr_cert 83 2 [2,41] (by simp only [List.forall_mem_cons,List.not_mem_nil,false_implies,implies_true,and_true];exact ⟨pr2,pr41⟩) 7 (by decide +kernel)
theorem pr83:Pr 83:=cpr83.2.2
theorem cpr9463:3^(9463-1)%9463=1%9463∧(∀ n,0<n→n<9463-1→3^n%9463≠1%9463)∧Pr 9463:=
  pr_cert 9463 3 [2,3,19,83] (by simp only [List.forall_mem_cons,List.not_mem_nil,false_implies,implies_true,and_true];exact ⟨pr2,pr3,pr19,pr83⟩) 14 (by decide +kernel)
theorem pr9463:Pr 9463:=cpr9463.2.2
theorem cpr37853:2^(37853-1)%37853=1%37853∧(∀ n,0<n→n<37853-1→2^n%37853≠1%37853)∧Pr 37853:=
  pr_cert 37853 2 [2,2,9463] (by simp only [List.forall_mem_cons,List.not_mem_nil,false_implies,implies_true,and_true];exact ⟨pr2,pr2,pr9463⟩) 16 (by decide +kernel)
theorem pr37853:Pr 37853:=cpr37853.2.2
theorem cpr75707:2^(75707-1)%75707=1%75707∧(∀ n,0<n→n<75707-1→2^n%75707≠1%75707)∧Pr 75707:=
  pr_cert 75707 2 [2,37853] (by simp only [List.forall_mem_cons,List.not_mem_nil,false_implies,implies_true,and_true];exact ⟨pr2,pr37853⟩) 17 (by decide +kernel)
theorem pr75707:Pr 75707:=cpr75707.2.2
theorem cpr2437:2^(2437-1)%2437=1%2437∧(∀ n,0<n→n<2437-1→2^n%2437≠1%2437)∧Pr 2437:=
  pr_cert 2437 2 [2,2,3,7,29] (by simp only [List.forall_mem_cons,List.not_mem_nil,false_implies,implies_true,and_true];exact ⟨pr2,pr2,pr3,pr7,pr29⟩) 12 (by decide +kernel)
theorem pr2437:Pr 2437:=cpr2437.2.2
theorem cpr97:5^(97-1)%97=1%97∧(∀ n,0<n→n<97-1→5^n%97≠1%97)∧Pr 97:=
  pr_cert 97 5 [2,2,2,2,2,3] (by simp only [List.forall_mem_cons,List.not_mem_nil,false_implies,implies_true,and_true];exact ⟨pr2,pr2,pr2,pr2,pr2,pr3⟩) 7 (by decide +kernel)
theorem pr97:Pr 97:=cpr97.2.2
theorem cpr419:2^(419-1)%419=1%419∧(∀ n,0<n→n<419-1→2^n%419≠1%419)∧Pr 419:=
  pr_cert 419 2 [2,11,19] (by simp only [List.forall_mem_cons,List.not_mem_nil,false_implies,implies_true,and_true];exact ⟨pr2,pr11,pr19⟩) 9 (by decide +kernel)
theorem pr419:Pr 419:=cpr419.2.2
theorem cpr569003:2^(569003-1)%569003=1%569003∧(∀ n,0<n→n<569003-1→2^n%569003≠1%569003)∧Pr 569003:=
  pr_cert 569003 2 [2,7,97,419] (by simp only [List.forall_mem_cons,List.not_mem_nil,false_implies,implies_true,and_true];exact ⟨pr2,pr7,pr97,pr419⟩) 20 (by decide +kernel)
theorem pr569003:Pr 569003:=cpr569003.2.2
theorem cpr2773320623:5^(2773320623-1)%2773320623=1%2773320623∧(∀ n,0<n→n<2773320623-1→5^n%2773320623≠1%2773320623)∧Pr 2773320623:=
  pr_cert 2773320623 5 [2,2437,569003] (by simp only [List.forall_mem_cons,List.not_mem_nil,false_implies,implies_true,and_true];exact ⟨pr2,pr2437,pr569003⟩) 32 (by decide +kernel)
theorem pr2773320623:Pr 2773320623:=cpr2773320623.2.2
theorem cpr72106336199:7^(72106336199-1)%72106336199=1%72106336199∧(∀ n,0<n→n<72106336199-1→7^n%72106336199≠1%72106336199)∧Pr 72106336199:=
  pr_cert 72106336199 7 [2,13,2773320623] (by simp only [List.forall_mem_cons,List.not_mem_nil,false_implies,implies_true,and_true];exact ⟨pr2,pr13,pr2773320623⟩) 37 (by decide +kernel)
theorem pr72106336199:Pr 72106336199:=cpr72106336199.2.2
theorem cpr47:5^(47-1)%47=1%47∧(∀ n,0<n→n<47-1→5^n%47≠1%47)∧Pr 47:=
  pr_cert 47 5 [2,23] (by simp only [List.forall_mem_cons,List.not_mem_nil,false_implies,implies_true,and_true];exact ⟨pr2,pr23⟩) 6 (by decide +kernel)
theorem pr47:Pr 47:=cpr47.2.2
theorem cpr127:3^(127-1)%127=1%127∧(∀ n,0<n→n<127-1→3^n%127≠1%127)∧Pr 127:=
  pr_cert 127 3 [2,3,3,7] (by simp only [List.forall_mem_cons,List.not_mem_nil,false_implies,implies_true,and_true];exact ⟨pr2,pr3,pr3,pr7⟩) 7 (by decide +kernel)
theorem pr127:Pr 127:=cpr127.2.2
theorem cpr103:5^(103-1)%103=1%103∧(∀ n,0<n→n<103-1→5^n%103≠1%103)∧Pr 103:=
  pr_cert 103 5 [2,3,17] (by simp only [List.forall_mem_cons,List.not_mem_nil,false_implies,implies_true,and_true];exact ⟨pr2,pr3,pr17⟩) 7 (by decide +kernel)
theorem pr103:Pr 103:=cpr103.2.2
theorem cpr991:6^(991-1)%991=1%991∧(∀ n,0<n→n<991-1→6^n%991≠1%991)∧Pr 991:=
  pr_cert 991 6 [2,3,3,5,11] (by simp only [List.forall_mem_cons,List.not_mem_nil,false_implies,implies_true,and_true];exact ⟨pr2,pr3,pr3,pr5,pr11⟩) 10 (by decide +kernel)
theorem pr991:Pr 991:=cpr991.2.2
theorem cpr8574133:2^(8574133-1)%8574133=1%8574133∧(∀ n,0<n→n<8574133-1→2^n%8574133≠1%8574133)∧Pr 8574133:=
  pr_cert 8574133 2 [2,2,3,7,103,991] (by simp only [List.forall_mem_cons,List.not_mem_nil,false_implies,implies_true,and_true];exact ⟨pr2,pr2,pr3,pr7,pr103,pr991⟩) 24 (by decide +kernel)
theorem pr8574133:Pr 8574133:=cpr8574133.2.2
theorem cpr1919519569386763:2^(1919519569386763-1)%1919519569386763=1%1919519569386763∧(∀ n,0<n→n<1919519569386763-1→2^n%1919519569386763≠1%1919519569386763)∧Pr 1919519569386763:=
  pr_cert 1919519569386763 2 [2,3,7,19,47,47,127,8574133] (by simp only [List.forall_mem_cons,List.not_mem_nil,false_implies,implies_true,and_true];exact ⟨pr2,pr3,pr7,pr19,pr47,pr47,pr127,pr8574133⟩) 51 (by decide +kernel)
theorem pr1919519569386763:Pr 1919519569386763:=cpr1919519569386763.2.2
theorem cpr75445702479781427272750846543864801:7^(75445702479781427272750846543864801-1)%75445702479781427272750846543864801=1%75445702479781427272750846543864801∧(∀ n,0<n→n<75445702479781427272750846543864801-1→7^n%75445702479781427272750846543864801≠1%75445702479781427272750846543864801)∧Pr 75445702479781427272750846543864801:=
  pr_cert 75445702479781427272750846543864801 7 [2,2,2,2,2,3,3,5,5,75707,72106336199,1919519569386763] (by simp only [List.forall_mem_cons,List.not_mem_nil,false_implies,implies_true,and_true];exact ⟨pr2,pr2,pr2,pr2,pr2,pr3,pr3,pr5,pr5,pr75707,pr72106336199,pr1919519569386763⟩) 116 (by decide +kernel)
theorem pr75445702479781427272750846543864801:Pr 75445702479781427272750846543864801:=cpr75445702479781427272750846543864801.2.2
theorem cpr74058212732561358302231226437062788676166966415465897661863160754340907:2^(74058212732561358302231226437062788676166966415465897661863160754340907-1)%74058212732561358302231226437062788676166966415465897661863160754340907=1%74058212732561358302231226437062788676166966415465897661863160754340907∧(∀ n,0<n→n<74058212732561358302231226437062788676166966415465897661863160754340907-1→2^n%74058212732561358302231226437062788676166966415465897661863160754340907≠1%74058212732561358302231226437062788676166966415465897661863160754340907)∧Pr 74058212732561358302231226437062788676166966415465897661863160754340907:=
  pr_cert 74058212732561358302231226437062788676166966415465897661863160754340907 2 [2,3,353,57467,132049,1923133,31757755568855353,75445702479781427272750846543864801] (by simp only [List.forall_mem_cons,List.not_mem_nil,false_implies,implies_true,and_true];exact ⟨pr2,pr3,pr353,pr57467,pr132049,pr1923133,pr31757755568855353,pr75445702479781427272750846543864801⟩) 236 (by decide +kernel)
theorem pr74058212732561358302231226437062788676166966415465897661863160754340907:Pr 74058212732561358302231226437062788676166966415465897661863160754340907:=cpr74058212732561358302231226437062788676166966415465897661863160754340907.2.2
theorem cprP:2^(pP-1)%pP=1%pP∧(∀ n,0<n→n<pP-1→2^n%pP≠1%pP)∧Pr pP:=
  pr_cert pP 2 [2,2,3,65147,74058212732561358302231226437062788676166966415465897661863160754340907] (by simp only [List.forall_mem_cons,List.not_mem_nil,false_implies,implies_true,and_true];exact ⟨pr2,pr2,pr3,pr65147,pr74058212732561358302231226437062788676166966415465897661863160754340907⟩) 255 (by decide +kernel)
theorem prP:Pr pP:=cprP.2.2
end Go.Proofs.YtdakeodebgggfaaGreatDoor
namespace Go.Proofs.YtdakeodebgggfaaGreatDoor
instance:NeZero pP:=⟨by decide⟩
abbrev F:=Fin pP
section
theorem g_rot {a b:F}:a*b=b*a:=by grobner
theorem g_zero {b:F}:0*b=0:=by grobner
theorem g_cancel {a b c u:F} (h:a*u=1) (e:a*b=a*c):b=c:=by grobner
theorem g_inv {a b u:F} (h:a*u=1) (e:a*b=1):u=b:=by grobner
theorem g_quot {d u v w:F} (h:u*w=1) (e:d*(u*u)=v*v):d=(v*w)*(v*w):=by grobner
theorem g_c1 {d x1 y1 x2 y2 e i:F} (h1:y1*y1-x1*x1=1+d*x1*x1*y1*y1) (h2:y2*y2-x2*x2=1+d*x2*x2*y2*y2) (he:e*e=1) (h:d*x1*x2*y1*y2=e) (hi:i*i= -1) :
    d*((x1*y1*(i*x2+y2))*(x1*y1*(i*x2+y2)))=(i*x1+e*y1)*(i*x1+e*y1):=by grobner
theorem g_c2 {d x1 y1 x2 y2 e i:F} (h1:y1*y1-x1*x1=1+d*x1*x1*y1*y1) (h2:y2*y2-x2*x2=1+d*x2*x2*y2*y2) (he:e*e=1) (h:d*x1*x2*y1*y2=e) (hi:i*i= -1) :
    d*((x1*y1*(i*x2-y2))*(x1*y1*(i*x2-y2)))=(i*x1-e*y1)*(i*x1-e*y1):=by grobner
theorem g_c3 {d x1 y1 x2 y2 e:F} (h:d*x1*x2*y1*y2=e) (h0:x1*y1=0):e=0:=by grobner
theorem g_c4 {x2 y2 i:F} (h:i*x2+y2=0) (h0:i*x2-y2=0):2*y2=0:=by grobner
theorem g_c5 {d x1 y1 x2 y2 e:F} (h:d*x1*x2*y1*y2=e) (h0:y2=0):e=0:=by grobner
theorem g_m1:(-1:F)* -1=1:=by grobner
theorem g_11:(1:F)*1=1:=by grobner
theorem g_neg {a:F} (h:1+a=0):a= -1:=by grobner
theorem g_pos {a:F} (h:1-a=0):a=1:=by grobner
theorem g_o {d:F}:(1:F)*1-0*0=1+d*0*0*1*1:=by grobner
theorem g_o1e {d a b z e:F} (h:z=0):e+d*a*z*b*e=e:=by grobner
theorem g_o1 {d a b:F}:1+d*a*0*b*1=1:=g_o1e rfl
theorem g_o2e {d a b z e:F} (h:z=0):e-d*a*z*b*e=e:=by grobner
theorem g_o2 {d a b:F}:1-d*a*0*b*1=1:=g_o2e rfl
theorem g_o3 {a b:F}:(a*1+0*b)*1=a:=by grobner
theorem g_o4 {a b:F}:(a*1+b*0)*1=a:=by grobner
theorem g_comm1 {a b c d:F}:a*b+c*d=c*d+a*b:=by grobner
theorem g_comm2 {a b c d:F}:a*b+c*d=b*a+d*c:=by grobner
theorem g_comm3 {a b c e d:F}:d*a*b*c*e=d*b*a*e*c:=by grobner
theorem g_closure {d x1 y1 x2 y2 u v:F} (h1:y1*y1-x1*x1=1+d*x1*x1*y1*y1) (h2:y2*y2-x2*x2=1+d*x2*x2*y2*y2)
    (hu:(1+d*x1*x2*y1*y2)*u=1) (hv:(1-d*x1*x2*y1*y2)*v=1) :
    (y1*y2+x1*x2)*v*((y1*y2+x1*x2)*v)-(x1*y2+x2*y1)*u*((x1*y2+x2*y1)*u)=1+d*((x1*y2+x2*y1)*u)*((x1*y2+x2*y1)*u)*((y1*y2+x1*x2)*v)*((y1*y2+x1*x2)*v):=by grobner
theorem assocX (d x1 y1 x2 y2 x3 y3:F) (h1:y1^2-x1^2-1-d*x1^2*y1^2=0) (h2:y2^2-x2^2-1-d*x2^2*y2^2=0) (h3:y3^2-x3^2-1-d*x3^2*y3^2=0) :
    ((x1*y2+x2*y1)*(1-d*x1*x2*y1*y2)*y3+x3*(y1*y2+x1*x2)*(1+d*x1*x2*y1*y2))*((1+d*x2*x3*y2*y3)*(1-d*x2*x3*y2*y3)+d*(x2*y3+x3*y2)*(y2*y3+x2*x3)*x1*y1)-(x1*(y2*y3+x2*x3)*(1+d*x2*x3*y2*y3)+(x2*y3+x3*y2)*(1-d*x2*x3*y2*y3)*y1)*((1+d*x1*x2*y1*y2)*(1-d*x1*x2*y1*y2)+d*(x1*y2+x2*y1)*(y1*y2+x1*x2)*x3*y3)=0:=by
  grind
theorem assocY (d x1 y1 x2 y2 x3 y3:F) (h1:y1^2-x1^2-1-d*x1^2*y1^2=0) (h2:y2^2-x2^2-1-d*x2^2*y2^2=0) (h3:y3^2-x3^2-1-d*x3^2*y3^2=0) :
    ((y1*y2+x1*x2)*(1+d*x1*x2*y1*y2)*y3+(x1*y2+x2*y1)*(1-d*x1*x2*y1*y2)*x3)*((1+d*x2*x3*y2*y3)*(1-d*x2*x3*y2*y3)-d*(x2*y3+x3*y2)*(y2*y3+x2*x3)*x1*y1)-(y1*(y2*y3+x2*x3)*(1+d*x2*x3*y2*y3)+x1*(x2*y3+x3*y2)*(1-d*x2*x3*y2*y3))*((1+d*x1*x2*y1*y2)*(1-d*x1*x2*y1*y2)-d*(x1*y2+x2*y1)*(y1*y2+x1*x2)*x3*y3)=0:=by
  grind
theorem g_frac {n1 n2 d1 d2 u1 u2:F} (e:n1*d2=n2*d1) (h1:d1*u1=1) (h2:d2*u2=1):n1*u1=n2*u2:=by grobner
theorem g_mix {n1 n2 d1 d2 m1 m2 f1 f2 s t:F} (e:n1*d2-n2*d1=0) (h1:m1=n1*s) (h2:f1=d1*s) (h3:m2=n2*t) (h4:f2=d2*t):m1*f2=m2*f1:=by grobner
theorem g_par1 {p m a b A B y3 x3:F} (ha:p*a=1) (hb:m*b=1):A*a*y3+x3*(B*b)=(A*m*y3+x3*B*p)*(a*b):=by grobner
theorem g_par2 {p m a b A B y3 x3 d:F} (ha:p*a=1) (hb:m*b=1):1+d*(A*a)*x3*(B*b)*y3=(p*m+d*A*B*x3*y3)*(a*b):=by grobner
theorem g_par3 {p m c e C E x1 y1:F} (ha:p*c=1) (hb:m*e=1):x1*(E*e)+C*c*y1=(x1*E*p+C*m*y1)*(c*e):=by grobner
theorem g_par4 {p m c e C E x1 y1 d:F} (ha:p*c=1) (hb:m*e=1):1+d*x1*(C*c)*y1*(E*e)=(p*m+d*C*E*x1*y1)*(c*e):=by grobner
theorem g_par5 {p m a b A B y3 x3:F} (ha:p*a=1) (hb:m*b=1):B*b*y3+A*a*x3=(B*p*y3+A*m*x3)*(a*b):=by grobner
theorem g_par6 {p m a b A B y3 x3 d:F} (ha:p*a=1) (hb:m*b=1):1-d*(A*a)*x3*(B*b)*y3=(p*m-d*A*B*x3*y3)*(a*b):=by grobner
theorem g_par7 {p m c e C E x1 y1:F} (ha:p*c=1) (hb:m*e=1):y1*(E*e)+x1*(C*c)=(y1*E*p+x1*C*m)*(c*e):=by grobner
theorem g_par8 {p m c e C E x1 y1 d:F} (ha:p*c=1) (hb:m*e=1):1-d*x1*(C*c)*y1*(E*e)=(p*m-d*C*E*x1*y1)*(c*e):=by grobner
theorem g_on {d x y:F} (h:y*y-x*x=1+d*x*x*y*y):y^2-x^2-1-d*x^2*y^2=0:=by grobner
theorem g_assocX {d x1 y1 x2 y2 x3 y3 a b c e u v:F} (h1:y1*y1-x1*x1=1+d*x1*x1*y1*y1) (h2:y2*y2-x2*x2=1+d*x2*x2*y2*y2) (h3:y3*y3-x3*x3=1+d*x3*x3*y3*y3)
    (ha:(1+d*x1*x2*y1*y2)*a=1) (hb:(1-d*x1*x2*y1*y2)*b=1) (hc:(1+d*x2*x3*y2*y3)*c=1) (he:(1-d*x2*x3*y2*y3)*e=1) (hu:(1+d*((x1*y2+x2*y1)*a)*x3*((y1*y2+x1*x2)*b)*y3)*u=1) (hv:(1+d*x1*((x2*y3+x3*y2)*c)*y1*((y2*y3+x2*x3)*e))*v=1) :
    ((x1*y2+x2*y1)*a*y3+x3*((y1*y2+x1*x2)*b))*u=(x1*((y2*y3+x2*x3)*e)+(x2*y3+x3*y2)*c*y1)*v:=
  g_frac (g_mix (assocX d x1 y1 x2 y2 x3 y3 (g_on h1) (g_on h2) (g_on h3)) (g_par1 ha hb) (g_par2 ha hb) (g_par3 hc he) (g_par4 hc he)) hu hv
theorem g_assocY {d x1 y1 x2 y2 x3 y3 a b c e u v:F} (h1:y1*y1-x1*x1=1+d*x1*x1*y1*y1) (h2:y2*y2-x2*x2=1+d*x2*x2*y2*y2) (h3:y3*y3-x3*x3=1+d*x3*x3*y3*y3)
    (ha:(1+d*x1*x2*y1*y2)*a=1) (hb:(1-d*x1*x2*y1*y2)*b=1) (hc:(1+d*x2*x3*y2*y3)*c=1) (he:(1-d*x2*x3*y2*y3)*e=1) (hu:(1-d*((x1*y2+x2*y1)*a)*x3*((y1*y2+x1*x2)*b)*y3)*u=1) (hv:(1-d*x1*((x2*y3+x3*y2)*c)*y1*((y2*y3+x2*x3)*e))*v=1) :
    ((y1*y2+x1*x2)*b*y3+(x1*y2+x2*y1)*a*x3)*u=(y1*((y2*y3+x2*x3)*e)+x1*((x2*y3+x3*y2)*c))*v:=
  g_frac (g_mix (assocY d x1 y1 x2 y2 x3 y3 (g_on h1) (g_on h2) (g_on h3)) (g_par5 ha hb) (g_par6 ha hb) (g_par7 hc he) (g_par8 hc he)) hu hv
theorem g_sub {a b c:F} (h:a+c=b):a=b-c:=by grobner
theorem g_mul51 {B n a0 a1 a2 a3 a4 b0 b1 b2 b3 b4:F} (h:B*B*B*B*B=n) :
    (a0*b0+a1*(n*b4)+a2*(n*b3)+a3*(n*b2)+a4*(n*b1))+B*((a0*b1+a1*b0+a2*(n*b4)+a3*(n*b3)+a4*(n*b2))+B*((a0*b2+a1*b1+a2*b0+a3*(n*b4)+a4*(n*b3))+B*((a0*b3+a1*b2+a2*b1+a3*b0+a4*(n*b4))+B*(a0*b4+a1*b3+a2*b2+a3*b1+a4*b0)))) =
    (a0+B*(a1+B*(a2+B*(a3+B*a4))))*(b0+B*(b1+B*(b2+B*(b3+B*b4)))):=by grobner
section
variable {x1 y1 x2 y2 z1 z2 d u v X1 Y1 T1 X2 Y2 T2:F} (hX1:X1=x1*z1) (hY1:Y1=y1*z1) (hT1:T1=x1*y1*z1) (hX2:X2=x2*z2) (hY2:Y2=y2*z2) (hT2:T2=x2*y2*z2)
include hX1 hY1 hX2 hY2
theorem g_extE:(Y1+X1)*(Y2+X2)-(Y1-X1)*(Y2-X2)=2*(z1*z2)*(x1*y2+x2*y1):=by grobner
theorem g_extH:(Y1+X1)*(Y2+X2)+(Y1-X1)*(Y2-X2)=2*(z1*z2)*(y1*y2+x1*x2):=by grobner
omit hX1 hY1 hX2 hY2
include hT1 hT2
theorem g_extF:(z1+z1)*z2-T1*(d+d)*T2=2*(z1*z2)*(1-d*x1*x2*y1*y2):=by grobner
theorem g_extG:(z1+z1)*z2+T1*(d+d)*T2=2*(z1*z2)*(1+d*x1*x2*y1*y2):=by grobner
end
theorem g_extX {k a p m u:F} (hu:p*u=1):k*a*(k*m)=a*u*(k*m*(k*p)):=by grobner
theorem g_extY {k b p m v:F} (hv:m*v=1):k*p*(k*b)=b*v*(k*m*(k*p)):=by grobner
theorem g_extT {k a b p m u v:F} (hu:p*u=1) (hv:m*v=1):k*a*(k*b)=a*u*(b*v)*(k*m*(k*p)):=by grobner
theorem g_x0:(0:F)=0*1:=by grobner
theorem g_x1:(1:F)=1*1:=by grobner
theorem g_x2:(0:F)=0*1*1:=by grobner
theorem g_x3 {a:F}:a=a*1:=by grobner
theorem g_sm1 {a b z w:F} (h:a*z*w=b*w*z):z*w*a=z*w*b:=by grobner
theorem g_sm2 {a z w:F}:a*z*w=a*w*z:=by grobner
theorem g_sm3 {a z u:F} (h:z*u=1):a*z*u=a:=by grobner
end
end Go.Proofs.YtdakeodebgggfaaGreatDoor
namespace Go.Proofs.YtdakeodebgggfaaGreatDoor
theorem prPP:Pr pP:=prP
theorem F.ext {a b:F} (h:a.val=b.val):a=b:=Fin.ext h
theorem F.mul_val (a b:F):(a*b).val=a.val*b.val%pP:=Fin.val_mul a b
theorem F.add_val (a b:F):(a+b).val=(a.val+b.val)%pP:=Fin.val_add a b
def toF (n:Nat):F:=Fin.ofNat pP n
theorem toF_val (n:Nat):(toF n).val=n%pP:=rfl
theorem toF_self (a:F):toF a.val=a:=F.ext (Nat.mod_eq_of_lt a.isLt)
theorem toF_add (a b:Nat):toF (a+b)=toF a+toF b:=F.ext (by rw [F.add_val,toF_val,toF_val,toF_val,← Nat.add_mod])
theorem toF_mul (a b:Nat):toF (a*b)=toF a*toF b:=F.ext (by rw [F.mul_val,toF_val,toF_val,toF_val,← Nat.mul_mod])
theorem toF_eq {a b:Nat} (h:a%pP=b%pP):toF a=toF b:=F.ext h
theorem F.zero_val:(0:F).val=0:=rfl
theorem F.one_val:(1:F).val=1:=by decide +kernel
theorem F.mul_eq_zero {a b:F} (h:a*b=0):a=0∨b=0:=by
  have h1:a.val*b.val%pP=0:=by rw [← F.mul_val,h];rfl
  rcases prPP.euclid (Nat.dvd_of_mod_eq_zero h1) with h2|h2
  · exact .inl (F.ext (Nat.eq_zero_of_dvd_of_lt h2 a.isLt))
  · exact .inr (F.ext (Nat.eq_zero_of_dvd_of_lt h2 b.isLt))
theorem F.mul_ne {a b:F} (ha:a≠0) (hb:b≠0):a*b≠0:=fun h=>by
  rcases F.mul_eq_zero h with h|h
  · exact ha h
  · exact hb h
def fpow (a:F) (n:Nat):F:=toF (a.val^n)
theorem fpow_val (a:F) (n:Nat):(fpow a n).val=a.val^n%pP:=rfl
theorem fpow_add (a:F) (m n:Nat):fpow a (m+n)=fpow a m*fpow a n:=by rw [fpow,Nat.pow_add,toF_mul];rfl
theorem fpow_one (a:F):fpow a 1=a:=by rw [fpow,Nat.pow_one,toF_self]
theorem fpow_zero (a:F):fpow a 0=1:=F.ext (by rw [fpow_val,Nat.pow_zero];rfl)
theorem fpow_succ (a:F) (n:Nat):fpow a (n+1)=fpow a n*a:=by rw [fpow_add,fpow_one]
theorem mul_fpow (a b:F) (n:Nat):fpow (a*b) n=fpow a n*fpow b n:=F.ext (by rw [F.mul_val,fpow_val,fpow_val,fpow_val,F.mul_val,← Nat.pow_mod,Nat.mul_pow,Nat.mul_mod])
theorem fermat {a:F} (h:a≠0):fpow a (pP-1)=1:=by
  obtain ⟨h1,h2,_⟩:=cprP
  have h0:0<a.val:=Nat.pos_of_ne_zero fun e=>h (F.ext e)
  obtain ⟨k,_,hk⟩:=all_pow (by decide +kernel) h1 h2 h0 a.isLt
  refine F.ext ?_
  have h3:=pow_one_mul h1 k
  clear h1 h2
  rw [fpow_val,← hk,← Nat.pow_mod,← Nat.pow_mul,Nat.mul_comm,F.one_val]
  exact h3.trans (by decide +kernel)
def finv (a:F):F:=fpow a (pP-2)
theorem mul_inv {a:F} (h:a≠0):a*finv a=1:=by
  have e:pP-1=(pP-2)+1:=by decide +kernel
  have:=fermat h
  rw [e,fpow_succ] at this
  rw [finv,← this,g_rot]
theorem two_ne:(2:F)≠0:=by decide +kernel
theorem one_ne:(1:F)≠0:=by decide +kernel
theorem inv_eq {a b:F} (h:a*b=1):finv a=b:=by
  have ha:a≠0:=by
    rintro rfl
    rw [g_zero] at h
    exact one_ne h.symm
  exact g_inv (mul_inv ha) h
theorem mul_left_cancel {a b c:F} (ha:a≠0) (h:a*b=a*c):b=c:=by
  exact g_cancel (mul_inv ha) h
def dF:F:=toF 37095705934669439343138083508754565189542113879843219016388785533085940283555
def iF:F:=toF 19681161376707505956807079304988542015446066515923890162744021073123829784752
theorem iF_sq:iF*iF= -1:=by decide +kernel
theorem dF_half:fpow dF ((pP-1)/2)≠1:=by
  intro h
  have h2:=congrArg Fin.val h
  rw [fpow_val,← powm_eq 256 _ _ (by decide +kernel),F.one_val] at h2
  exact absurd h2 (by decide +kernel)
theorem no_sq {u v:F} (h:dF*(u*u)=v*v):u=0:=by
  apply Classical.byContradiction
  intro hu
  have hi:=mul_inv hu
  have e:dF=(v*finv u)*(v*finv u):=g_quot hi h
  have hd:dF≠0:=by decide +kernel
  have hw:v*finv u≠0:=fun h0=>by
    rw [h0,g_zero] at e
    exact hd e
  apply dF_half
  rw [e,mul_fpow,← fpow_add,show (pP-1)/2+(pP-1)/2=pP-1 by decide +kernel]
  exact fermat hw
def On (x y:F):Prop:=y*y-x*x=1+dF*x*x*y*y
theorem complete {x1 y1 x2 y2:F} (h1:On x1 y1) (h2:On x2 y2) {e:F} (he:e*e=1):dF*x1*x2*y1*y2≠e:=by
  intro h
  have n1:e≠0:=by
    rintro rfl
    rw [g_zero] at he
    exact one_ne he.symm
  have b1:=no_sq (g_c1 h1 h2 he h iF_sq)
  have b2:=no_sq (g_c2 h1 h2 he h iF_sq)
  have hx:x1*y1≠0:=fun h0=>n1 (g_c3 h h0)
  rcases F.mul_eq_zero b1 with c1|c1
  · exact hx c1
  rcases F.mul_eq_zero b2 with c2|c2
  · exact hx c2
  rcases F.mul_eq_zero (g_c4 c1 c2) with h3|h3
  · exact two_ne h3
  · exact n1 (g_c5 h h3)
theorem plus_ne {x1 y1 x2 y2:F} (h1:On x1 y1) (h2:On x2 y2):1+dF*x1*x2*y1*y2≠0:=fun h=>complete h1 h2 (e:= -1) g_m1 (g_neg h)
theorem minus_ne {x1 y1 x2 y2:F} (h1:On x1 y1) (h2:On x2 y2):1-dF*x1*x2*y1*y2≠0:=fun h=>complete h1 h2 (e:=1) g_11 (g_pos h)
def pX (p q:F × F):F:=(p.1*q.2+q.1*p.2)*finv (1+dF*p.1*q.1*p.2*q.2)
def pY (p q:F × F):F:=(p.2*q.2+p.1*q.1)*finv (1-dF*p.1*q.1*p.2*q.2)
def pAdd (p q:F × F):F × F:=(pX p q,pY p q)
def OnP (p:F × F):Prop:=On p.1 p.2
def pO:F × F:=(0,1)
theorem pO_on:OnP pO:=by
  show On 0 1
  unfold On
  exact g_o
theorem pAdd_on {p q:F × F} (hp:OnP p) (hq:OnP q):OnP (pAdd p q):=
  g_closure hp hq (mul_inv (plus_ne hp hq)) (mul_inv (minus_ne hp hq))
theorem pAdd_comm (p q:F × F):pAdd p q=pAdd q p:=by
  unfold pAdd pX pY
  rw [g_comm1 (a:=p.1),g_comm2 (a:=p.2) (c:=p.1),g_comm3 (d:=dF) (a:=p.1)]
theorem pAdd_O (p:F × F):pAdd p pO=p:=by
  have h1:(1:F)+dF*p.1*0*p.2*1=1:=g_o1
  have h2:(1:F)-dF*p.1*0*p.2*1=1:=g_o2
  have hi:finv (1:F)=1:=inv_eq g_11
  unfold pAdd pX pY pO
  dsimp only
  rw [h1,h2,hi,g_o3,g_o4]
theorem pO_add (p:F × F):pAdd pO p=p:=by rw [pAdd_comm,pAdd_O]
theorem pAdd_assoc {p q r:F × F} (hp:OnP p) (hq:OnP q) (hr:OnP r):pAdd (pAdd p q) r=pAdd p (pAdd q r):=by
  have ha:=mul_inv (plus_ne hp hq)
  have hb:=mul_inv (minus_ne hp hq)
  have hc:=mul_inv (plus_ne hq hr)
  have he:=mul_inv (minus_ne hq hr)
  have hpq:=pAdd_on hp hq
  have hqr:=pAdd_on hq hr
  have u1:=mul_inv (plus_ne hpq hr)
  have v1:=mul_inv (minus_ne hpq hr)
  have u2:=mul_inv (plus_ne hp hqr)
  have v2:=mul_inv (minus_ne hp hqr)
  have e1:pX (pAdd p q) r=pX p (pAdd q r):=g_assocX hp hq hr ha hb hc he u1 u2
  have e2:pY (pAdd p q) r=pY p (pAdd q r):=g_assocY hp hq hr ha hb hc he v1 v2
  show (pX (pAdd p q) r,pY (pAdd p q) r)=(pX p (pAdd q r),pY p (pAdd q r))
  rw [e1,e2]
end Go.Proofs.YtdakeodebgggfaaGreatDoor
namespace Go.Proofs.YtdakeodebgggfaaGreatDoor
open Go.RowKit
@[go_sem] def nD (n:Nat):D:= .v (.int .u64 (n:Int))
theorem numsC_get {l:List Nat} {k:Nat} (h:k<l.length):((l.map nD).map C.d)[k]?=some (C.d (D.v (.int .u64 (l.getD k 0:Nat)))):=by
  rw [List.getElem?_map,List.getElem?_map,List.getElem?_eq_getElem h]
  simp [h,nD]
@[go_sem] theorem numsC_set {l:List Nat} {k v:Nat}:((l.map nD).map C.d).set k (C.d (D.v (.int .u64 (v:Int))))=((l.set k v).map nD).map C.d:=by
  rw [List.map_set,List.map_set]
  rfl
theorem numsC_new {l:List Nat} {k v:Nat} (h:k<l.length):(((l.set k v).map nD).map C.d)[k]?=some (C.d (D.v (.int .u64 (v:Nat)))):=by
  rw [numsC_get (by simpa using h)]
  simp [h]
theorem numsC_take {l:List Nat} {n:Nat} (h:l.length=n):((l.map nD).map C.d).take n=(l.map nD).map C.d:=List.take_of_length_le (by rw [List.length_map,List.length_map];omega)
theorem numsC_drop {l:List Nat} {n:Nat} (h:l.length=n):((l.map nD).map C.d).drop n=[]:=List.drop_eq_nil_of_le (by rw [List.length_map,List.length_map];omega)
theorem nums_take {l:List Nat} {n:Nat} (h:l.length=n):(l.map nD).take n=l.map nD:=List.take_of_length_le (by rw [List.length_map];omega)
theorem wrap_nat {n:Nat}:IntKind.u64.wrap (n:Int)=((n%18446744073709551616:Nat):Int):=by
  simp only [IntKind.wrap,IntKind.signed,IntKind.bits]
  simp
theorem and_nat {a b:Nat}:arithV .and .u64 (a:Int) (b:Int)=some (.int .u64 (((a%18446744073709551616) &&& (b%18446744073709551616):Nat):Int)):=by
  have h1: ∀ x:Nat,BitVec.ofInt IntKind.u64.bits (x:Int)=BitVec.ofNat 64 x:=fun x=>by simp [IntKind.bits]
  simp only [arithV]
  rw [h1,h1,wrap_nat]
  have h3:(BitVec.ofNat 64 a &&& BitVec.ofNat 64 b).toNat=(a%18446744073709551616) &&& (b%18446744073709551616):=by
    rw [BitVec.toNat_and,BitVec.toNat_ofNat,BitVec.toNat_ofNat]
  have h4:(a%18446744073709551616) &&& (b%18446744073709551616)<18446744073709551616:=Nat.lt_of_le_of_lt Nat.and_le_left (Nat.mod_lt _ (by decide))
  refine congrArg (fun z=>some (Value.int .u64 ((z:Nat):Int))) ?_
  exact (congrArg (· %18446744073709551616) h3).trans (Nat.mod_eq_of_lt h4)
def andI (k:IntKind) (x y:Int):Int:=k.wrap (BitVec.ofInt k.bits x &&& BitVec.ofInt k.bits y).toNat
def orI (k:IntKind) (x y:Int):Int:=k.wrap (BitVec.ofInt k.bits x ||| BitVec.ofInt k.bits y).toNat
@[go_sem ↓ high] theorem arith_and {k:IntKind} {x y:Int}:arithV .and k x y=some (.int k (andI k x y)):=rfl
@[go_sem ↓ high] theorem arith_or {k:IntKind} {x y:Int}:arithV .or k x y=some (.int k (orI k x y)):=rfl
theorem and_nat' {a b:Nat}:andI .u64 (a:Int) (b:Int)=(((a%18446744073709551616) &&& (b%18446744073709551616):Nat):Int):=by
  have h:=and_nat (a:=a) (b:=b)
  rw [arith_and] at h
  injection h with h
  injection h
@[go_sem] theorem and_51 {a:Nat}:andI .u64 (a:Int) 2251799813685247=((a%18446744073709551616%2251799813685248:Nat):Int):=by
  have h:=and_nat' (a:=a) (b:=2251799813685247)
  have h3:2251799813685247%18446744073709551616=2^51-1:=by decide
  rw [h3,Nat.and_two_pow_sub_one_eq_mod] at h
  exact h
@[go_sem] theorem and_1 {a:Nat}:andI .u64 (a:Int) 1=((a%18446744073709551616%2:Nat):Int):=by
  have h:=and_nat' (a:=a) (b:=1)
  have h3:1%18446744073709551616=2^1-1:=by decide
  rw [h3,Nat.and_two_pow_sub_one_eq_mod] at h
  exact h
theorem wrap8_nat {n:Nat}:IntKind.u8.wrap (n:Int)=((n%256:Nat):Int):=by
  simp only [IntKind.wrap,IntKind.signed,IntKind.bits]
  simp
theorem bvInt8 (x:Nat):BitVec.ofInt IntKind.u8.bits (x:Int)=BitVec.ofNat 8 x:=by simp [IntKind.bits]
theorem bvInt64 (x:Nat):BitVec.ofInt IntKind.u64.bits (x:Int)=BitVec.ofNat 64 x:=by simp [IntKind.bits]
@[go_sem] theorem or_8 {a b:Nat}:orI .u8 (a:Int) (b:Int)=(((a%256) ||| (b%256):Nat):Int):=by
  unfold orI
  rw [bvInt8,bvInt8,wrap8_nat]
  have h3:(BitVec.ofNat 8 a ||| BitVec.ofNat 8 b).toNat=(a%256) ||| (b%256):=by
    rw [BitVec.toNat_or,BitVec.toNat_ofNat,BitVec.toNat_ofNat]
  have h4:(a%256) ||| (b%256)<256:=Nat.or_lt_two_pow (n:=8) (Nat.mod_lt _ (by decide)) (Nat.mod_lt _ (by decide))
  refine congrArg (fun z=>((z:Nat):Int)) ?_
  exact (congrArg (· %256) h3).trans (Nat.mod_eq_of_lt h4)
theorem and_8 {a b:Nat}:andI .u8 (a:Int) (b:Int)=(((a%256) &&& (b%256):Nat):Int):=by
  unfold andI
  rw [bvInt8,bvInt8,wrap8_nat]
  have h3:(BitVec.ofNat 8 a &&& BitVec.ofNat 8 b).toNat=(a%256) &&& (b%256):=by
    rw [BitVec.toNat_and,BitVec.toNat_ofNat,BitVec.toNat_ofNat]
  have h4:(a%256) &&& (b%256)<256:=Nat.lt_of_le_of_lt Nat.and_le_left (Nat.mod_lt _ (by decide))
  refine congrArg (fun z=>((z:Nat):Int)) ?_
  exact (congrArg (· %256) h3).trans (Nat.mod_eq_of_lt h4)
@[go_sem] theorem and_8_1 {a:Nat}:andI .u8 (a:Int) 1=((a%256%2:Nat):Int):=by
  have h:=and_8 (a:=a) (b:=1)
  have h3:1%256=2^1-1:=by decide
  rw [h3,Nat.and_two_pow_sub_one_eq_mod] at h
  exact h
@[go_sem] theorem or_64 {a b:Nat}:orI .u64 (a:Int) (b:Int)=(((a%18446744073709551616) ||| (b%18446744073709551616):Nat):Int):=by
  unfold orI
  rw [bvInt64,bvInt64,wrap_nat]
  have h3:(BitVec.ofNat 64 a ||| BitVec.ofNat 64 b).toNat=(a%18446744073709551616) ||| (b%18446744073709551616):=by
    rw [BitVec.toNat_or,BitVec.toNat_ofNat,BitVec.toNat_ofNat]
  have h4:(a%18446744073709551616) ||| (b%18446744073709551616)<18446744073709551616:=Nat.or_lt_two_pow (n:=64) (Nat.mod_lt _ (by decide)) (Nat.mod_lt _ (by decide))
  refine congrArg (fun z=>((z:Nat):Int)) ?_
  exact (congrArg (· %18446744073709551616) h3).trans (Nat.mod_eq_of_lt h4)
@[go_sem] theorem shr_51 {a:Nat}:(a:Int).fdiv (2^min 51 64)=((a/2251799813685248:Nat):Int):=by
  show (a:Int).fdiv 2251799813685248=_
  rw [Int.fdiv_eq_ediv_of_nonneg _ (by decide)]
  rfl
@[go_sem] theorem w_add {a b:Nat}:IntKind.u64.wrap ((a:Int)+(b:Int))=(((a+b)%18446744073709551616:Nat):Int):=by
  rw [← wrap_nat]
  simp
@[go_sem] theorem w_addR {a b:Nat}:IntKind.u64.wrap ((a:Int)+(no_index (OfNat.ofNat b)))=(((a+b)%18446744073709551616:Nat):Int):=w_add
@[go_sem] theorem w_addL {a b:Nat}:IntKind.u64.wrap ((no_index (OfNat.ofNat a))+(b:Int))=(((a+b)%18446744073709551616:Nat):Int):=w_add
theorem w_sub {a b:Nat}:IntKind.u64.wrap ((a:Int)-(b:Int))=(((a+(18446744073709551616-b%18446744073709551616))%18446744073709551616:Nat):Int):=by
  have h:IntKind.u64.wrap ((a:Int)-(b:Int))=((a:Int)-(b:Int))%18446744073709551616:=by
    simp only [IntKind.wrap,IntKind.signed,IntKind.bits]
    simp
  rw [h]
  omega
@[go_sem] theorem w_sub' {a b:Nat}:IntKind.u64.wrap ((a:Int)-(b:Int))=(((a+(18446744073709551616-b%18446744073709551616))%18446744073709551616:Nat):Int):=w_sub
@[go_sem] theorem w_subL {a b:Nat}:IntKind.u64.wrap ((no_index (OfNat.ofNat a))-(b:Int))=(((a+(18446744073709551616-b%18446744073709551616))%18446744073709551616:Nat):Int):=w_sub
@[go_sem] theorem w_mul {a b:Nat}:IntKind.u64.wrap ((a:Int)*(b:Int))=((a*b%18446744073709551616:Nat):Int):=by
  rw [← wrap_nat]
  simp
@[go_sem] theorem w_mulL {a b:Nat}:IntKind.u64.wrap ((no_index (OfNat.ofNat a))*(b:Int))=((a*b%18446744073709551616:Nat):Int):=w_mul
def carS (l:List Nat):Nat→List Nat × Nat
  | 0=>(l,0)
  | k+1=>((carS l k).1.set k (((carS l k).1.getD k 0+(carS l k).2)%18446744073709551616%2251799813685248),((carS l k).1.getD k 0+(carS l k).2)%18446744073709551616/2251799813685248)
theorem carS_len (l:List Nat): ∀ k,(carS l k).1.length=l.length
  | 0=>rfl
  | k+1=>by rw [carS,List.length_set,carS_len]
def carryL (l:List Nat):List Nat:=(carS l 5).1.set 0 (((carS l 5).1.getD 0 0+19*(carS l 5).2%18446744073709551616)%18446744073709551616)
theorem carry_m {G:Nat→Option (List D)} (l:List Nat) (hl:l.length=5):Spec Tryz.prog G 116 [.g (l.map nD)] (.one (.g ((carryL l).map nD))):=by
  refine spec_of Tryz.func116 rfl rfl rfl (by kernel_rfl) rfl fun K=>?_
  (repeat' (first|with_reducible (first|refine zA fun Kn hK=>?_|refine zB (by kernel_rfl) ?_|refine Nx.go ?_|go_step)|fail|with_reducible (first|refine zI ?_|refine zJ ?_|refine zK ?_ ?_|refine zL ?_ ?_|refine zR (by kernel_rfl) ?_)|simp (maxSteps:=9999999) (disch:=omega) only [wq]|(with_reducible refine zM (fun hb=>?_) (fun hb=>?_) <;> (try simp only [hb]))|(with_reducible refine And.intro (by first|omega|(simp;done)|(simp;omega)) ?_)|simp (maxSteps:=9999999) (implicitDefEqProofs:=false) only [go_sem,List.length_map,hl]|fail))
  refine sound_loopR (fun x:{k:Nat // k≤5}=>⟨[(1,vP 1 0),(2,vP 2 0),(3,.a (.c (.d (nD (carS l x.1).2)))),(5,vI x.1)],[(1,some ⟨81,((carS l x.1).1.map nD).map C.d,true,false⟩),(2,some ⟨81,zeroOf Tryz.prog 81,true,false⟩)]⟩) (fun x=>5-x.1) ⟨0,by omega⟩ [] (by (iterate 2 ((try simp (maxSteps:=9999999) (implicitDefEqProofs:=false) only [go_sem,true_and]);(try simp (maxSteps:=9999999) (disch:=omega) only [wq])));simp [carS]) (fun ⟨k,hk⟩=>?_)
  have hlk:=carS_len l k
  by_cases hlt:k<5
  · have hb:decide ((k:Int)<5)=true:=decide_eq_true (by omega)
    have hg1:=numsC_get (l:=(carS l k).1) (k:=k) (by omega)
    have hg2:=numsC_new (l:=(carS l k).1) (k:=k) (v:=((carS l k).1.getD k 0+(carS l k).2)%18446744073709551616) (by omega)
    (repeat' (first|with_reducible (first|refine zA fun Kn hK=>?_|refine zB (by kernel_rfl) ?_|refine Nx.go ?_|go_step)|fail|with_reducible (first|refine zI ?_|refine zJ ?_|refine zK ?_ ?_|refine zL ?_ ?_|refine zR (by kernel_rfl) ?_)|simp (maxSteps:=9999999) (disch:=omega) only [wq]|(with_reducible refine zM (fun hb=>?_) (fun hb=>?_) <;> (try simp only [hb]))|(with_reducible refine And.intro (by first|omega|(simp;done)|(simp;omega)) ?_)|simp (maxSteps:=9999999) (implicitDefEqProofs:=false) only [go_sem,hb,List.length_map,List.length_set,List.set_set,hl,hlk,hg1,hg2]|fail))
    refine ⟨[],⟨k+1,hlt⟩,?_⟩
    (iterate 2 ((try simp (maxSteps:=9999999) (implicitDefEqProofs:=false) only [go_sem,carS,List.set_set]);(try simp (maxSteps:=9999999) (disch:=omega) only [wq])))
    try (simp only [ijq,true_and,and_true];first|done|omega|(split <;> omega)|(simp;done)|(simp;omega))
  · have hb:decide ((k:Int)<5)=false:=decide_eq_false (by omega)
    obtain rfl:k=5:=by omega
    have hg1:=numsC_get (l:=(carS l 5).1) (k:=0) (by omega)
    have hg2:=numsC_take (n:=5) (l:=carryL l) (by rw [carryL,List.length_set];omega)
    rw [carryL] at hg2
    (repeat' (first|with_reducible (first|refine zA fun Kn hK=>?_|refine zB (by kernel_rfl) ?_|refine Nx.go ?_|go_step)|fail|with_reducible (first|refine zI ?_|refine zJ ?_|refine zK ?_ ?_|refine zL ?_ ?_|refine zR (by kernel_rfl) ?_)|simp (maxSteps:=9999999) (disch:=omega) only [wq]|(with_reducible refine zM (fun hb=>?_) (fun hb=>?_) <;> (try simp only [hb]))|(with_reducible refine And.intro (by first|omega|(simp;done)|(simp;omega)) ?_)|simp (maxSteps:=9999999) (implicitDefEqProofs:=false) only [go_sem,hb,List.length_map,List.length_set,hl,hlk,hg1,hg2]|fail))
    all_goals rfl
end Go.Proofs.YtdakeodebgggfaaGreatDoor
