/- The law FnDiffs answers true for every input of the bounded form; proved by an abstract machine that is sound for the model. -/
import Derived.Test.YtbbkmeicdhnihaaGreatDoorT08
import Derived.Test.YtbbkmeicdhnihaaGreatDoorT10
set_option autoImplicit false
set_option maxRecDepth 100000
set_option linter.unusedVariables false
set_option linter.unusedSimpArgs false
set_option maxHeartbeats 16000000
namespace Go.Proofs.YtbbkmeicdhnihaaGreatDoor
open Go.Vm Go.RowKit Go.ChangeShapes
theorem qwZ(os:Os):laidMet Tryz.prog Rows.fnDiffsUptoRow.laid ((qiP os).forCall (fun _ _=>0) ⟨#[],#[.slice none 0 0],[]⟩).memory:=
 laidMet_of_run' 8 (by kernel_rfl) (by kernel_rfl)
theorem qAm(os:Os) {H:Type} (enc:TypeId × Value→H): ∃ places,DataW.whole enc Tryz.prog ((qiP os).forCall (fun _ _=>0) ⟨#[],#[.slice none 0 0],[]⟩).memory Tryz.f6.params.toList Rows.fnDiffsSpec.vars false (#[.slice none 0 0]:Array Value).toList 8=some ([.nil],[],places):=
 ⟨[],by kernel_rfl⟩
theorem qw7(os:Os) (started:os.Started) (H:Type) (enc:TypeId × Value→H) (F:Stop.Interp):
 ReturnsInHanded {} Tryz.checked os 6 .any ((Rows.OpenSpec.upto Rows.fnDiffsSpec).preRow enc Tryz.prog Tryz.f6 Rows.fnDiffsUptoRow.domain false Rows.fnDiffsUptoRow.laid) (((Rows.OpenSpec.upto Rows.fnDiffsSpec).at F).post enc Tryz.prog Tryz.f6 false true false false):=by
 obtain ⟨places,hx⟩:=qAm os enc
 refine returnsInHanded_of_row (C:=Tryz.checked) (s:=Rows.OpenSpec.upto Rows.fnDiffsSpec) Tryz.own started (by kernel_rfl) Tryz.func6
  (witness_row_at (enc:=enc) (C:=Tryz.checked) false (qiP os) #[.slice none 0 0] rfl (by kernel_rfl) (by kernel_rfl) (by kernel_rfl)
   (OpenSpec.preRow_of_cond 8 hx (by kernel_rfl) (fun k hk=>by cases hk;kernel_rfl) (by kernel_rfl) (qwZ os))) ?_
 intro W base args ds gs before hval hW _ hcond _ hL hsh _
 have hk:=hcond _ rfl
 have hW':=hW
 obtain ⟨p,q,hA,hV,hpq,hfz,hnd⟩:=hW
 obtain ⟨rfl,rfl⟩:gs=[]∧q=[]:=by
  cases gs with
  |nil=>exact ⟨rfl,hV⟩
  |cons=>exact hV.elim
 rw [List.append_nil]at hk
 have hb:=qBA hk
 rw [Tryz.params6]at hA hval
 obtain ⟨v0,vs0,d0,ds0,p0,q0,hargs,rfl,rfl,a0,r⟩:=trodAll_cons hA
 obtain ⟨rfl,rfl,rfl⟩:=trodAll_nil r
 refine qw3 (P:=Tryz.prog) qwf qq7 Tryz.func6 rfl rfl (tb:=4) rfl Tryz.underlying4 (by kernel_rfl) rfl hW' (fun _=>rfl) (qw5 hsh hL) ?_
 simp only [jp,Nat.add_zero]at hb
 obtain ⟨n0,xs0,hr0,hsh0,hbk0⟩:=qrl qq5 (t:=38) (by simp [St]) (hval 0 38 v0 rfl (by rw [← Array.getElem?_toList,hargs];rfl)) a0
 obtain ⟨-,x0,hx0,hw0⟩:=(qAi Tryz.underlying38 (qAj Tryz.underlying5) (qCH Tryz.underlying5)) n0 xs0 hsh0 (by unfold Lm;omega)
 obtain ⟨ws0,rfl,hx0⟩:=hx0
 have hr0:Rel (kQ W) (.i false ws0) v0 c0:=hr0
 obtain ⟨outs,hc⟩:=qw0 x0 hw0 false ws0 hx0
 refine ⟨_,outs, ?_,hc⟩
 rw [hargs]
 simp only [qk]
 exact ⟨v0,_,c0,c0,rfl,hr0,⟨rfl,rfl⟩,rfl⟩
theorem qrK:joinedFacts Tryz.pinned.checked.prog 6 Tryz.f6 (Rows.OpenSpec.upto Rows.fnDiffsSpec).bare Rows.fnDiffsUptoRow=true:=by
 unfold joinedFacts
 repeat' (with_reducible apply qrg)
 all_goals (as_aux_lemma=>kernel_rfl)
theorem qrh:Tryz.prog.funcs.any Func.goes=false:=by kernel_rfl
theorem qsu:false=Rows.fnDiffsUptoRow.goesBy Tryz.pinned.checked.prog:=qsv (P:=Tryz.prog) qrh rfl
theorem qBi:Rows.FnDiffsUptoSaid:=
 OpenClaim.holds_of_cond 6 Tryz.f6 rfl rfl rfl rfl rfl rfl rfl ⟨rfl,rfl,rfl,rfl,rfl⟩ rfl rfl rfl rfl rfl (by as_aux_lemma=>kernel_rfl) Tryz.func6 qrK
  (by as_aux_lemma=>exact (of_decide_eq_true (by kernel_rfl))) (by as_aux_lemma=>unfold Func.isWrapper;first|(rw [if_pos (by decide+kernel)];kernel_rfl)|(rw [if_neg (by decide+kernel)];exact ⟨rfl,rfl⟩))
  (fun os started H enc _ F=>by rw [OpenClaim.pre_eq_preRow];exact qw7 os started H enc F)
theorem qzY(f:FuncId) (fn:Func) (hf:Tryz.pinned.checked.prog.funcNamed "loop.example/g00469/laws.FnDiffs" =some f) (hfn:Tryz.pinned.checked.prog.funcs[f]? =some fn):
 false=Tryz.pinned.checked.prog.looks []∧ ∀ (j:Nat) t,fn.params[j]? =some t→Tryz.pinned.checked.prog.wantsStandIn t=false:=by
 obtain rfl:f=6:=Option.some.inj ((show Tryz.prog.funcNamed "loop.example/g00469/laws.FnDiffs" =some 6 by kernel_rfl).symm.trans hf)|>.symm
 obtain rfl:fn=Tryz.f6:=(Option.some.inj (Tryz.func6.symm.trans hfn)).symm
 refine ⟨by kernel_rfl,fun j t ht=> ?_⟩
 rw [Tryz.params6]at ht
 have hm:t ∈ [38]:=by simpa using Array.mem_of_getElem? ht
 have hall:([38].all fun u=> !Tryz.prog.wantsStandIn u)=true:=by kernel_rfl
 exact (show Tryz.prog.wantsStandIn t=false by simpa using List.all_eq_true.1 hall t hm)
theorem FnDiffs_holds:Rows.FnDiffsUptoCardSaid:=
 Claim7.holds_tied_plain_at .later [] _ _ _ _ qBi (fun _ h=>by cases h) (by as_aux_lemma=>kernel_rfl) (fun _ h=>by cases h) fnDiffsUpto_row_tie rfl ⟨rfl,rfl⟩ (by as_aux_lemma=>kernel_rfl) rfl qzY qsu
end Go.Proofs.YtbbkmeicdhnihaaGreatDoor
