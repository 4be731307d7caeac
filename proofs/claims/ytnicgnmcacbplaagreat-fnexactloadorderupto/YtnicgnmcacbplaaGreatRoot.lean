/- The law FnExactLoadOrder answers true for every input of the bounded form; proved by an abstract machine that is sound for the model. -/
import Derived.Test.YtnicgnmcacbplaaGreatT09
set_option autoImplicit false
set_option maxRecDepth 100000
set_option linter.unusedVariables false
set_option linter.unusedSimpArgs false
namespace Go.Proofs.YtnicgnmcacbplaaGreat
open Go.Vm Go.RowKit Go.ChangeShapes
theorem qp7(os:Os) (started:os.Started) (H:Type) (enc:TypeId × Value→H) (F:Stop.Interp):
 ReturnsInHanded {} Tryz.checked os 3 .any ((Rows.OpenSpec.upto Rows.fnExactLoadOrderSpec).pre6 enc Tryz.prog Tryz.f3 Rows.fnExactLoadOrderUptoRow.domain false) (((Rows.OpenSpec.upto Rows.fnExactLoadOrderSpec).at F).post enc Tryz.prog Tryz.f3 false true false false):=by
 refine returnsInHanded_of_cond (C:=Tryz.checked) (s:=Rows.OpenSpec.upto Rows.fnExactLoadOrderSpec) (k:=Rows.uptoSmall) rfl Tryz.own started (by kernel_rfl) Tryz.func3
  (OpenSpec.witness (enc:=enc) (C:=Tryz.checked) (s:=Rows.OpenSpec.upto Rows.fnExactLoadOrderSpec) (k:=Rows.uptoSmall) rfl false ⟨#[],#[.slice none 0 0,.string ⟨#[]⟩],[]⟩ 8 (by kernel_rfl) (by kernel_rfl) (by kernel_rfl)
   (x:=([.nil,.lit (.string [])],[],[])) (by kernel_rfl) rfl (by kernel_rfl)) ?_
 intro W base args ds gs before hval hW _ hk _
 have hW':=hW
 obtain ⟨p,q,hA,hV,hpq,hfz,hnd⟩:=hW
 obtain ⟨rfl,rfl⟩:gs=[]∧q=[]:=by
  cases gs with
  |nil=>exact ⟨rfl,hV⟩
  |cons=>exact hV.elim
 rw [List.append_nil]at hk
 have hb:=qt1 hk
 rw [Tryz.params3]at hA hval
 obtain ⟨v0,vs0,d0,ds0,p0,q0,hargs,rfl,rfl,a0,hA⟩:=trodAll_cons hA
 obtain ⟨v1,vs1,d1,ds1,p1,q1,rfl,rfl,rfl,a1,r⟩:=trodAll_cons hA
 obtain ⟨rfl,rfl,rfl⟩:=trodAll_nil r
 refine qpK (P:=Tryz.prog) qpo qme Tryz.func3 rfl rfl (tb:=4) rfl Tryz.underlying4 (by kernel_rfl) rfl hW' (fun _=>rfl) ⟨fun _ h=>h.elim,trivial⟩ ?_
 simp only [kD,Nat.add_zero]at hb
 obtain ⟨n0,xs0,hr0,hsh0,hbk0⟩:=qgR qgC (t:=22) (by simp [St]) (hval 0 22 v0 rfl (by rw [← Array.getElem?_toList,hargs];rfl)) a0
 obtain ⟨-,x0,hx0,hw0⟩:=(qsO Tryz.underlying22 (qsN ⟨_,Tryz.underlying36,rfl⟩ (qfB Tryz.underlying9) (qfB Tryz.underlying9)) (quX ⟨_,Tryz.underlying36⟩)) n0 xs0 hsh0 (by unfold Lm;omega)
 obtain ⟨ws0,rfl,hx0⟩:=hx0
 have hr0:Rel (ka W) (.i false ws0) v0 c0:=hr0
 obtain ⟨n1,xs1,hr1,hsh1,hbk1⟩:=qgR qgC (t:=9) (by simp [St]) (hval 1 9 v1 rfl (by rw [← Array.getElem?_toList,hargs];rfl)) a1
 obtain ⟨-,x1,hx1,hw1⟩:=(qfB Tryz.underlying9) n1 xs1 hsh1 (by unfold Lm;omega)
 obtain rfl:=hx1
 rw [quY Tryz.underlying9]at hr1
 obtain ⟨outs,hc⟩:=qpH x0 hw0 false ws0 hx0 x1 hw1
 refine ⟨_,outs, ?_,hc⟩
 rw [hargs]
 simp only [qk]
 exact ⟨v0,_,c0,c0,rfl,hr0,⟨v1,_,c0,c0,rfl,hr1,⟨rfl,rfl⟩,rfl⟩,rfl⟩
theorem FnExactLoadOrder_holds:Rows.FnExactLoadOrderUptoSaid:=
 OpenClaim.holds_of_cond 3 Tryz.f3 rfl rfl rfl rfl rfl rfl rfl ⟨rfl,rfl,rfl,rfl,rfl⟩ rfl rfl rfl rfl rfl (by kernel_rfl) Tryz.func3 (by kernel_rfl)
  (of_decide_eq_true (by kernel_rfl)) (by unfold Func.isWrapper;first|(rw [if_pos (by decide+kernel)];kernel_rfl)|(rw [if_neg (by decide+kernel)];exact ⟨rfl,rfl⟩))
  (fun os started H enc _ F=>qp7 os started H enc F)
end Go.Proofs.YtnicgnmcacbplaaGreat
