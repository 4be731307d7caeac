/- The law FnPlainsTold answers true for every input of the bounded form; proved by an abstract machine that is sound for the model. -/
import Derived.Test.YtcaejgdpplbcbaaGreatDoorT08
import Derived.Test.YtcaejgdpplbcbaaGreatDoorT10
set_option autoImplicit false
set_option maxRecDepth 100000
set_option linter.unusedVariables false
set_option linter.unusedSimpArgs false
set_option maxHeartbeats 16000000
namespace Go.Proofs.YtcaejgdpplbcbaaGreatDoor
open Go.Vm Go.RowKit Go.ChangeShapes
theorem qvp(os:Os):laidMet Tryz.prog Rows.fnPlainsToldUptoRow.laid ((qhG os).forCall (fun _ _=>0) ⟨#[],#[.slice none 0 0],[]⟩).memory:=
 laidMet_of_run' 8 (by kernel_rfl) (by kernel_rfl)
theorem qyi(os:Os) {H:Type} (enc:TypeId × Value→H): ∃ places,DataW.whole enc Tryz.prog ((qhG os).forCall (fun _ _=>0) ⟨#[],#[.slice none 0 0],[]⟩).memory Tryz.f5.params.toList Rows.fnPlainsToldSpec.vars false (#[.slice none 0 0]:Array Value).toList 8=some ([.nil],[],places):=
 ⟨[],by kernel_rfl⟩
theorem qvw(os:Os) (started:os.Started) (H:Type) (enc:TypeId × Value→H) (F:Stop.Interp):
 ReturnsInHanded {} Tryz.checked os 5 .any ((Rows.OpenSpec.upto Rows.fnPlainsToldSpec).preRow enc Tryz.prog Tryz.f5 Rows.fnPlainsToldUptoRow.domain false Rows.fnPlainsToldUptoRow.laid) (((Rows.OpenSpec.upto Rows.fnPlainsToldSpec).at F).post enc Tryz.prog Tryz.f5 false true false false):=by
 obtain ⟨places,hx⟩:=qyi os enc
 refine returnsInHanded_of_row (C:=Tryz.checked) (s:=Rows.OpenSpec.upto Rows.fnPlainsToldSpec) Tryz.own started (by kernel_rfl) Tryz.func5
  (witness_row_at (enc:=enc) (C:=Tryz.checked) false (qhG os) #[.slice none 0 0] rfl (by kernel_rfl) (by kernel_rfl) (by kernel_rfl)
   (OpenSpec.preRow_of_cond 8 hx (by kernel_rfl) (fun k hk=>by cases hk;kernel_rfl) (by kernel_rfl) (qvp os))) ?_
 intro W base args ds gs before hval hW _ hcond _ hL hsh _
 have hk:=hcond _ rfl
 have hW':=hW
 obtain ⟨p,q,hA,hV,hpq,hfz,hnd⟩:=hW
 obtain ⟨rfl,rfl⟩:gs=[]∧q=[]:=by
  cases gs with
  |nil=>exact ⟨rfl,hV⟩
  |cons=>exact hV.elim
 rw [List.append_nil]at hk
 have hb:=qzw hk
 rw [Tryz.params5]at hA hval
 obtain ⟨v0,vs0,d0,ds0,p0,q0,hargs,rfl,rfl,a0,r⟩:=trodAll_cons hA
 obtain ⟨rfl,rfl,rfl⟩:=trodAll_nil r
 refine qvt (P:=Tryz.prog) qux qpV Tryz.func5 rfl rfl (tb:=4) rfl Tryz.underlying4 (by kernel_rfl) rfl hW' (fun _=>rfl) (qvv hsh hL) ?_
 simp only [kS,Nat.add_zero]at hb
 obtain ⟨n0,xs0,hr0,hsh0,hbk0⟩:=qp4 qpT (t:=38) (by simp [St]) (hval 0 38 v0 rfl (by rw [← Array.getElem?_toList,hargs];rfl)) a0
 obtain ⟨-,x0,hx0,hw0⟩:=(qye Tryz.underlying38 (qyf Tryz.underlying5) (qAt Tryz.underlying5)) n0 xs0 hsh0 (by unfold Lm;omega)
 obtain ⟨ws0,rfl,hx0⟩:=hx0
 have hr0:Rel (kC W) (.i false ws0) v0 c0:=hr0
 obtain ⟨outs,hc⟩:=qvq x0 hw0 false ws0 hx0
 refine ⟨_,outs, ?_,hc⟩
 rw [hargs]
 simp only [qk]
 exact ⟨v0,_,c0,c0,rfl,hr0,⟨rfl,rfl⟩,rfl⟩
theorem qqs:joinedFacts Tryz.pinned.checked.prog 5 Tryz.f5 (Rows.OpenSpec.upto Rows.fnPlainsToldSpec).bare Rows.fnPlainsToldUptoRow=true:=by
 unfold joinedFacts
 repeat' (with_reducible apply qp2)
 all_goals (as_aux_lemma=>kernel_rfl)
theorem qp3:Tryz.prog.funcs.any Func.goes=false:=by kernel_rfl
theorem qq1:false=Rows.fnPlainsToldUptoRow.goesBy Tryz.pinned.checked.prog:=qq2 (P:=Tryz.prog) qp3 rfl
theorem qzf:Rows.FnPlainsToldUptoSaid:=
 OpenClaim.holds_of_cond 5 Tryz.f5 rfl rfl rfl rfl rfl rfl rfl ⟨rfl,rfl,rfl,rfl,rfl⟩ rfl rfl rfl rfl rfl (by as_aux_lemma=>kernel_rfl) Tryz.func5 qqs
  (by as_aux_lemma=>exact (of_decide_eq_true (by kernel_rfl))) (by as_aux_lemma=>unfold Func.isWrapper;first|(rw [if_pos (by decide+kernel)];kernel_rfl)|(rw [if_neg (by decide+kernel)];exact ⟨rfl,rfl⟩))
  (fun os started H enc _ F=>by rw [OpenClaim.pre_eq_preRow];exact qvw os started H enc F)
theorem qxV(f:FuncId) (fn:Func) (hf:Tryz.pinned.checked.prog.funcNamed "loop.example/g00469/laws.FnPlainsTold" =some f) (hfn:Tryz.pinned.checked.prog.funcs[f]? =some fn):
 false=Tryz.pinned.checked.prog.looks []∧ ∀ (j:Nat) t,fn.params[j]? =some t→Tryz.pinned.checked.prog.wantsStandIn t=false:=by
 obtain rfl:f=5:=Option.some.inj ((show Tryz.prog.funcNamed "loop.example/g00469/laws.FnPlainsTold" =some 5 by kernel_rfl).symm.trans hf)|>.symm
 obtain rfl:fn=Tryz.f5:=(Option.some.inj (Tryz.func5.symm.trans hfn)).symm
 refine ⟨by kernel_rfl,fun j t ht=> ?_⟩
 rw [Tryz.params5]at ht
 have hm:t ∈ [38]:=by simpa using Array.mem_of_getElem? ht
 have hall:([38].all fun u=> !Tryz.prog.wantsStandIn u)=true:=by kernel_rfl
 exact (show Tryz.prog.wantsStandIn t=false by simpa using List.all_eq_true.1 hall t hm)
theorem FnPlainsTold_holds:Rows.FnPlainsToldUptoCardSaid:=
 Claim7.holds_tied_plain_at .later [] _ _ _ _ qzf (fun _ h=>by cases h) (by as_aux_lemma=>kernel_rfl) (fun _ h=>by cases h) fnPlainsToldUpto_row_tie rfl ⟨rfl,rfl⟩ (by as_aux_lemma=>kernel_rfl) rfl qxV qq1
end Go.Proofs.YtcaejgdpplbcbaaGreatDoor
