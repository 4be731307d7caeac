/- The law FnExactReadScript answers true for every input of the bounded form; proved by an abstract machine that is sound for the model. -/
import Derived.Test.YtcaejgdpplbcbaaDoorT05
import Derived.Test.YtcaejgdpplbcbaaDoorT07
set_option autoImplicit false
set_option maxRecDepth 100000
set_option linter.unusedVariables false
set_option linter.unusedSimpArgs false
namespace Go.Proofs.YtcaejgdpplbcbaaDoor
open Go.Vm Go.RowKit Go.ChangeShapes
theorem qgt(os:Os):laidMet Tryd.prog Rows.fnExactReadScriptUptoRow.laid ((K0 os).forCall (fun _ _=>0) ⟨#[],#[.string ⟨#[]⟩],[]⟩).memory:=
 laidMet_of_run' 8 (by kernel_rfl) (by kernel_rfl)
theorem qhL(os:Os) {H:Type} (enc:TypeId × Value→H): ∃ places,DataW.whole enc Tryd.prog ((K0 os).forCall (fun _ _=>0) ⟨#[],#[.string ⟨#[]⟩],[]⟩).memory Tryd.f4.params.toList Rows.fnExactReadScriptSpec.vars false (#[.string ⟨#[]⟩]:Array Value).toList 8=some ([.lit (.string [])],[],places):=
 ⟨[],by kernel_rfl⟩
theorem qgy(os:Os) (started:os.Started) (H:Type) (enc:TypeId × Value→H) (F:Stop.Interp):
 ReturnsInHanded {} Tryd.checked os 4 .any ((Rows.OpenSpec.upto Rows.fnExactReadScriptSpec).preRow enc Tryd.prog Tryd.f4 Rows.fnExactReadScriptUptoRow.domain false Rows.fnExactReadScriptUptoRow.laid) (((Rows.OpenSpec.upto Rows.fnExactReadScriptSpec).at F).post enc Tryd.prog Tryd.f4 false true false false):=by
 obtain ⟨places,hx⟩:=qhL os enc
 refine returnsInHanded_of_row (C:=Tryd.checked) (s:=Rows.OpenSpec.upto Rows.fnExactReadScriptSpec) Tryd.own started (by kernel_rfl) Tryd.func4
  (witness_row_at (enc:=enc) (C:=Tryd.checked) false (K0 os) #[.string ⟨#[]⟩] rfl (by kernel_rfl) (by kernel_rfl) (by kernel_rfl)
   (OpenSpec.preRow_of_cond 8 hx (by kernel_rfl) (fun k hk=>by cases hk;kernel_rfl) (by kernel_rfl) (qgt os))) ?_
 intro W base args ds gs before hval hW _ hcond _ hL hsh _
 have hk:=hcond _ rfl
 have hW':=hW
 obtain ⟨p,q,hA,hV,hpq,hfz,hnd⟩:=hW
 obtain ⟨rfl,rfl⟩:gs=[]∧q=[]:=by
  cases gs with
  |nil=>exact ⟨rfl,hV⟩
  |cons=>exact hV.elim
 rw [List.append_nil]at hk
 have hb:=qiD hk
 rw [Tryd.params4]at hA hval
 obtain ⟨v0,vs0,d0,ds0,p0,q0,hargs,rfl,rfl,a0,r⟩:=trodAll_cons hA
 obtain ⟨rfl,rfl,rfl⟩:=trodAll_nil r
 refine qgw (P:=Tryd.prog) qgi qeg Tryd.func4 rfl rfl (tb:=4) rfl Tryd.underlying4 (by kernel_rfl) rfl hW' (fun _=>rfl) (qgx hsh) ?_
 simp only [yZ,Nat.add_zero]at hb
 obtain ⟨n0,xs0,hr0,hsh0,hbk0⟩:=qek qef (t:=9) (by simp [St]) (hval 0 9 v0 rfl (by rw [← Array.getElem?_toList,hargs];rfl)) a0
 obtain ⟨-,x0,hx0,hw0⟩:=(qhI Tryd.underlying9) n0 xs0 hsh0 (by unfold Lm;omega)
 obtain rfl:=hx0
 rw [qja Tryd.underlying9]at hr0
 obtain ⟨outs,hc⟩:=qgu x0 hw0
 refine ⟨_,outs, ?_,hc⟩
 rw [hargs]
 simp only [qi]
 exact ⟨v0,_,c0,c0,rfl,hr0,⟨rfl,rfl⟩,rfl⟩
theorem qiy:Rows.FnExactReadScriptUptoSaid:=
 OpenClaim.holds_of_cond 4 Tryd.f4 rfl rfl rfl rfl rfl rfl rfl ⟨rfl,rfl,rfl,rfl,rfl⟩ rfl rfl rfl rfl rfl (by kernel_rfl) Tryd.func4 (by kernel_rfl)
  (of_decide_eq_true (by kernel_rfl)) (by unfold Func.isWrapper;first|(rw [if_pos (by decide+kernel)];kernel_rfl)|(rw [if_neg (by decide+kernel)];exact ⟨rfl,rfl⟩))
  (fun os started H enc _ F=>by rw [OpenClaim.pre_eq_preRow];exact qgy os started H enc F)
theorem qhr(f:FuncId) (fn:Func) (hf:Tryd.pinned.checked.prog.funcNamed "loop.example/g00469/laws.FnExactReadScript" =some f) (hfn:Tryd.pinned.checked.prog.funcs[f]? =some fn):
 false=Tryd.pinned.checked.prog.looks []∧ ∀ (j:Nat) t,fn.params[j]? =some t→Tryd.pinned.checked.prog.wantsStandIn t=false:=by
 obtain rfl:f=4:=Option.some.inj ((show Tryd.prog.funcNamed "loop.example/g00469/laws.FnExactReadScript" =some 4 by kernel_rfl).symm.trans hf)|>.symm
 obtain rfl:fn=Tryd.f4:=(Option.some.inj (Tryd.func4.symm.trans hfn)).symm
 refine ⟨by kernel_rfl,fun j t ht=> ?_⟩
 rw [Tryd.params4]at ht
 have hm:t ∈ [9]:=by simpa using Array.mem_of_getElem? ht
 have hall:([9].all fun u=> !Tryd.prog.wantsStandIn u)=true:=by kernel_rfl
 exact (show Tryd.prog.wantsStandIn t=false by simpa using List.all_eq_true.1 hall t hm)
theorem FnExactReadScript_holds:Rows.FnExactReadScriptUptoCardSaid:=
 Claim7.holds_tied_plain_at .later [] _ _ _ _ qiy (fun _ h=>by cases h) (by kernel_rfl) (fun _ h=>by cases h) fnExactReadScriptUpto_row_tie rfl ⟨rfl,rfl⟩ (by kernel_rfl) rfl qhr (by kernel_rfl)
end Go.Proofs.YtcaejgdpplbcbaaDoor
