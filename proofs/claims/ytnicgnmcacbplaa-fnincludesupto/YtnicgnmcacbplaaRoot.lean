/- The law FnIncludes answers true for every input of the bounded form; proved by an abstract machine that is sound for the model. -/
import Derived.Test.YtnicgnmcacbplaaT08
set_option autoImplicit false
set_option maxRecDepth 100000
set_option linter.unusedVariables false
set_option linter.unusedSimpArgs false
namespace Go.Proofs.Ytnicgnmcacbplaa
open Go.Vm Go.RowKit Go.ChangeShapes
theorem qmD(os:Os) (started:os.Started) (H:Type) (enc:TypeId × Value→H) (F:Stop.Interp):
 ReturnsInHanded {} Try.checked os 3 .any ((Rows.OpenSpec.upto Rows.fnIncludesSpec).pre6 enc Try.prog Try.f3 Rows.fnIncludesUptoRow.domain false) (((Rows.OpenSpec.upto Rows.fnIncludesSpec).at F).post enc Try.prog Try.f3 false true false false):=by
 refine returnsInHanded_of_cond (C:=Try.checked) (s:=Rows.OpenSpec.upto Rows.fnIncludesSpec) (k:=Rows.uptoSmall) rfl Try.own started (by kernel_rfl) Try.func3
  (OpenSpec.witness (enc:=enc) (C:=Try.checked) (s:=Rows.OpenSpec.upto Rows.fnIncludesSpec) (k:=Rows.uptoSmall) rfl false ⟨#[],#[.slice none 0 0],[]⟩ 8 (by kernel_rfl) (by kernel_rfl) (by kernel_rfl)
   (x:=([.nil],[],[])) (by kernel_rfl) rfl (by kernel_rfl)) ?_
 intro W base args ds gs before hval hW _ hk _
 have hW':=hW
 obtain ⟨p,q,hA,hV,hpq,hfz,hnd⟩:=hW
 obtain ⟨rfl,rfl⟩:gs=[]∧q=[]:=by
  cases gs with
  |nil=>exact ⟨rfl,hV⟩
  |cons=>exact hV.elim
 rw [List.append_nil]at hk
 have hb:=qp4 hk
 rw [Try.params3]at hA hval
 obtain ⟨v0,vs0,d0,ds0,p0,q0,hargs,rfl,rfl,a0,r⟩:=trodAll_cons hA
 obtain ⟨rfl,rfl,rfl⟩:=trodAll_nil r
 refine qmf (P:=Try.prog) qlQ qjh Try.func3 rfl rfl (tb:=4) rfl Try.underlying4 (by kernel_rfl) rfl hW' (fun _=>rfl) ⟨fun _ h=>h.elim,trivial⟩ ?_
 simp only [xZ,Nat.add_zero]at hb
 obtain ⟨n0,xs0,hr0,hsh0,hbk0⟩:=qjp qjf (t:=22) (by simp [St]) (hval 0 22 v0 rfl (by rw [← Array.getElem?_toList,hargs];rfl)) a0
 obtain ⟨-,x0,hx0,hw0⟩:=(qo1 Try.underlying22 (qo2 Try.underlying5) (qqA Try.underlying5)) n0 xs0 hsh0 (by unfold Lm;omega)
 obtain ⟨ws0,rfl,hx0⟩:=hx0
 have hr0:Rel (xF W) (.i false ws0) v0 c0:=hr0
 obtain ⟨outs,hc⟩:=qmc x0 hw0 false ws0 hx0
 refine ⟨_,outs, ?_,hc⟩
 rw [hargs]
 simp only [qj]
 exact ⟨v0,_,c0,c0,rfl,hr0,⟨rfl,rfl⟩,rfl⟩
theorem FnIncludes_holds:Rows.FnIncludesUptoSaid:=
 OpenClaim.holds_of_cond 3 Try.f3 rfl rfl rfl rfl rfl rfl rfl ⟨rfl,rfl,rfl,rfl,rfl⟩ rfl rfl rfl rfl rfl (by kernel_rfl) Try.func3 (by kernel_rfl)
  (of_decide_eq_true (by kernel_rfl)) (by unfold Func.isWrapper;first|(rw [if_pos (by decide+kernel)];kernel_rfl)|(rw [if_neg (by decide+kernel)];exact ⟨rfl,rfl⟩))
  (fun os started H enc _ F=>qmD os started H enc F)
end Go.Proofs.Ytnicgnmcacbplaa
