/- The law FnExactFirstGoal answers true for every input of the bounded form; proved by an abstract machine that is sound for the model. -/
import Derived.Test.YtbbkmeicdhnihaaDoorT08
set_option autoImplicit false
set_option maxRecDepth 100000
set_option linter.unusedVariables false
set_option linter.unusedSimpArgs false
namespace Go.Proofs.YtbbkmeicdhnihaaDoor
open Go.Vm Go.RowKit Go.ChangeShapes
theorem qiB(os:Os):laidMet Tryd.prog Rows.fnExactFirstGoalUptoRow.laid ((qaB os).forCall (fun _ _=>0) ⟨#[],#[.agg #[.int .i64 0,.string ⟨#[]⟩,.int .i64 0,.slice none 0 0,.int .i64 0,.string ⟨#[]⟩,.int .i64 0,.slice none 0 0,.string ⟨#[]⟩]],[]⟩).memory:=
 laidMet_of_run' 8 (by kernel_rfl) (by kernel_rfl)
theorem qko(os:Os) {H:Type} (enc:TypeId × Value→H): ∃ places,DataW.whole enc Tryd.prog ((qaB os).forCall (fun _ _=>0) ⟨#[],#[.agg #[.int .i64 0,.string ⟨#[]⟩,.int .i64 0,.slice none 0 0,.int .i64 0,.string ⟨#[]⟩,.int .i64 0,.slice none 0 0,.string ⟨#[]⟩]],[]⟩).memory Tryd.f3.params.toList Rows.fnExactFirstGoalSpec.vars false (#[.agg #[.int .i64 0,.string ⟨#[]⟩,.int .i64 0,.slice none 0 0,.int .i64 0,.string ⟨#[]⟩,.int .i64 0,.slice none 0 0,.string ⟨#[]⟩]]:Array Value).toList 8=some ([.agg [.agg [.lit (.int .i64 0),.lit (.string []),.lit (.int .i64 0),.nil],.agg [.lit (.int .i64 0),.lit (.string []),.lit (.int .i64 0),.nil],.lit (.string [])]],[],places):=
 ⟨[],by kernel_rfl⟩
theorem qiQ(os:Os) (started:os.Started) (H:Type) (enc:TypeId × Value→H) (F:Stop.Interp):
 ReturnsInHanded {} Tryd.checked os 3 .any ((Rows.OpenSpec.upto Rows.fnExactFirstGoalSpec).preRow enc Tryd.prog Tryd.f3 Rows.fnExactFirstGoalUptoRow.domain false Rows.fnExactFirstGoalUptoRow.laid) (((Rows.OpenSpec.upto Rows.fnExactFirstGoalSpec).at F).post enc Tryd.prog Tryd.f3 false true false false):=by
 obtain ⟨places,hx⟩:=qko os enc
 refine returnsInHanded_of_row (C:=Tryd.checked) (s:=Rows.OpenSpec.upto Rows.fnExactFirstGoalSpec) Tryd.own started (by kernel_rfl) Tryd.func3
  (witness_row_at (enc:=enc) (C:=Tryd.checked) false (qaB os) #[.agg #[.int .i64 0,.string ⟨#[]⟩,.int .i64 0,.slice none 0 0,.int .i64 0,.string ⟨#[]⟩,.int .i64 0,.slice none 0 0,.string ⟨#[]⟩]] rfl (by kernel_rfl) (by kernel_rfl) (by kernel_rfl)
   (OpenSpec.preRow_of_cond 8 hx (by kernel_rfl) (fun k hk=>by cases hk;kernel_rfl) (by kernel_rfl) (qiB os))) ?_
 intro W base args ds gs before hval hW _ hcond _ hL _ _
 have hk:=hcond _ rfl
 have hW':=hW
 obtain ⟨p,q,hA,hV,hpq,hfz,hnd⟩:=hW
 obtain ⟨rfl,rfl⟩:gs=[]∧q=[]:=by
  cases gs with
  |nil=>exact ⟨rfl,hV⟩
  |cons=>exact hV.elim
 rw [List.append_nil]at hk
 have hb:=qlq hk
 rw [Tryd.params3]at hA hval
 obtain ⟨v0,vs0,d0,ds0,p0,q0,hargs,rfl,rfl,a0,r⟩:=trodAll_cons hA
 obtain ⟨rfl,rfl,rfl⟩:=trodAll_nil r
 refine qiE (P:=Tryd.prog) qil qf5 Tryd.func3 rfl rfl (tb:=4) rfl Tryd.underlying4 (by kernel_rfl) rfl hW' (fun _=>rfl) (qiP hL) ?_
 simp only [xC,Nat.add_zero]at hb
 obtain ⟨n0,xs0,hr0,hsh0,hbk0⟩:=qga qf4 (t:=26) (by simp [St]) (hval 0 26 v0 rfl (by rw [← Array.getElem?_toList,hargs];rfl)) a0
 obtain ⟨-,x0,hx0,hw0⟩:=(qkm ⟨_,Tryd.underlying26,rfl⟩ (qeN ⟨⟨_,Tryd.underlying24,rfl⟩,Tryd.underlying22,Tryd.underlying3,Tryd.underlying9⟩) (qeN ⟨⟨_,Tryd.underlying24,rfl⟩,Tryd.underlying22,Tryd.underlying3,Tryd.underlying9⟩) (qkn Tryd.underlying9)) n0 xs0 hsh0 (by unfold Lm;omega)
 rw [qfU Tryd.underlying26]at hr0
 obtain ⟨outs,hc⟩:=qiC x0 hw0 _ hx0
 refine ⟨_,outs, ?_,hc⟩
 rw [hargs]
 simp only [qk]
 exact ⟨v0,_,c0,c0,rfl,hr0,⟨rfl,rfl⟩,rfl⟩
theorem qlh:Rows.FnExactFirstGoalUptoSaid:=
 OpenClaim.holds_of_cond 3 Tryd.f3 rfl rfl rfl rfl rfl rfl rfl ⟨rfl,rfl,rfl,rfl,rfl⟩ rfl rfl rfl rfl rfl (by kernel_rfl) Tryd.func3 (by kernel_rfl)
  (of_decide_eq_true (by kernel_rfl)) (by unfold Func.isWrapper;first|(rw [if_pos (by decide+kernel)];kernel_rfl)|(rw [if_neg (by decide+kernel)];exact ⟨rfl,rfl⟩))
  (fun os started H enc _ F=>by rw [OpenClaim.pre_eq_preRow];exact qiQ os started H enc F)
theorem qj5(f:FuncId) (fn:Func) (hf:Tryd.pinned.checked.prog.funcNamed "loop.example/g00469/laws.FnExactFirstGoal" =some f) (hfn:Tryd.pinned.checked.prog.funcs[f]? =some fn):
 false=Tryd.pinned.checked.prog.looks []∧ ∀ (j:Nat) t,fn.params[j]? =some t→Tryd.pinned.checked.prog.wantsStandIn t=false:=by
 obtain rfl:f=3:=Option.some.inj ((show Tryd.prog.funcNamed "loop.example/g00469/laws.FnExactFirstGoal" =some 3 by kernel_rfl).symm.trans hf)|>.symm
 obtain rfl:fn=Tryd.f3:=(Option.some.inj (Tryd.func3.symm.trans hfn)).symm
 refine ⟨by kernel_rfl,fun j t ht=> ?_⟩
 rw [Tryd.params3]at ht
 have hm:t ∈ [26]:=by simpa using Array.mem_of_getElem? ht
 have hall:([26].all fun u=> !Tryd.prog.wantsStandIn u)=true:=by kernel_rfl
 exact (show Tryd.prog.wantsStandIn t=false by simpa using List.all_eq_true.1 hall t hm)
theorem FnExactFirstGoal_holds:Rows.FnExactFirstGoalUptoCardSaid:=
 Claim7.holds_tied_plain_at .later [] _ _ _ _ qlh (fun _ h=>by cases h) (by kernel_rfl) (fun _ h=>by cases h) fnExactFirstGoalUpto_row_tie rfl ⟨rfl,rfl⟩ (by kernel_rfl) rfl qj5 (by kernel_rfl)
end Go.Proofs.YtbbkmeicdhnihaaDoor
