import Derived.Test.YtehgffojgiefaaaVmR
set_option autoImplicit false
set_option linter.unusedVariables false
set_option linter.unusedSimpArgs false
namespace Go.Vm

def okDst (N : Nat) (o : Oper) (d : Option Nat) : Bool := decide (o.dst = d) && (match d with | some d => decide (d < N) | none => true)
def trCall (o : Oper) (d : Option Nat) (h : AO) (hs : List AO) (m : Md) : Option AI :=
  match o.op with
  | .call c => match c.callee with
    | .value f => opt2 (trO f h) (trOs c.args.toList hs) fun f' xs' => .call d f' xs' m
    | _ => none
  | _ => none
/-- one operation, no guard looked at; n: the slots of the parameters, of which only 'mv' may be the destination -/
def trI1 (P : Program) (N : Nat) (o : Oper) : AI → Option AI
  | .mv d h => if okD N o d then trMv o d h else none
  | .pick d h1 h2 h3 => if okD N o d then trPick o d h1 h2 h3 else none
  | .new d h => if okD N o d then trNew P o d h else none
  | .build d z hp => if okD N o d then trBuild P o d z (hp.map fun x => x.2.2) else none
  | .mks d _ hp => if okD N o d then trMks P o d hp else none
  | .mk d _ z _ h1 h2 => if okD N o d then trMk P o d z h1 h2 else none
  | .ld d _ _ h => if okD N o d then trLd P o d h else none
  | .ldq d _ _ h => if okD N o d then trLdq P o d h else none
  | .nilc d h => if okD N o d then trNilc o d h else none
  | .bin d _ h1 h2 => if okD N o d then trBin o d h1 h2 else none
  | .eqs d _ neg h1 h2 => if okD N o d then trEqs P o d neg h1 h2 else none
  | .un d _ h => if okD N o d then trUn o d h else none
  | .sl d _ h lo hi => if okD N o d then trSl P o d h lo hi else none
  | .ssl d h lo hi => if okD N o d then trSsl P o d h lo hi else none
  | .slen d h => if okD N o d then trSlen P o d h else none
  | .fa d h _ => if okD N o d then trFa P o d h else none
  | .fld d _ _ h _ => if okD N o d then trFld P o d h else none
  | .ia d _ h1 h2 => if okD N o d then trIa P o d h1 h2 else none
  | .ix d h1 h2 => if okD N o d then trIx P o d h1 h2 else none
  | .ext d h _ => if okD N o d then trExt o d h else none
  | .fun d _ hf hc => if okD N o d then trFun o d hf hc else none
  | .app d _ _ h1 h2 => if okD N o d then trApp P o d h1 h2 else none
  | .len d h => if okD N o d then trLen P o d h else none
  | .mx d m hs => if okD N o d then trMx o d m hs else none
  | .int d _ h => if okD N o d then trInt P o d h else none
  | .str d h => if okD N o d then trStr P o d h else none
  | .st _ h1 h2 => if decide (o.dst = none) then trSt P o h1 h2 else none
  | .call d f xs m => if okDst N o d then trCall o d f xs m else none
  | .cpy .. | .byt .. | .gd .. => none
section
variable {P : Program} {N : Nat} {o : Oper} {E : Env} {c : Cnt} {st st' : St} {a : Act} {call : Call} {ai : AI}
theorem r_call (hC : CallsOk P call) {d : Option Nat} {h : AO} {hs' : List AO} {m : Md} (hd : okDst N o d = true) (ht : trCall o d h hs' m = some ai) (hs : astep call st ai = some st') (hf : FRel N E st a.tmps c) :
    Com P N E c st' a o.dst ((execOp a.eval o).run P E.w) := by
  simp only [okDst, Bool.and_eq_true, decide_eq_true_eq] at hd
  obtain ⟨hd, hn⟩ := hd
  unfold trCall at ht
  split at ht
  case h_2 => cases ht
  rename_i cl ho
  split at ht
  case h_2 => cases ht
  rename_i f hfn
  obtain ⟨f', xs', h1, h2, rfl⟩ := opt2_some ht
  simp only [astep] at hs
  split at hs
  case h_2 => cases hs
  rename_i fv hfv
  split at hs
  case h_2 => cases hs
  rename_i g first caps xs hcal hxs
  have hrf := ev_rel hf.σ h1 hfv
  have hrx := evL_rel hf.σ h2 hxs
  unfold callee at hcal
  split at hcal
  case h_2 => cases hcal
  rename_i g0 fi0 ca0
  simp only [Option.some.injEq, Prod.mk.injEq] at hcal
  obtain ⟨rfl, rfl, rfl⟩ := hcal
  simp only [Rel] at hrf
  obtain ⟨fs, cs, c1, c2, hv, hr1, hr2, hcc⟩ := hrf
  obtain ⟨rfl, rfl⟩ := cz hcc.symm.symm rfl
  have hL : RelL E (_ ++ xs ++ _) (fs.toList ++ cl.args.toList.map a.eval ++ cs.toList) c0 := relL_append (relL_append hr1 hrx) hr2
  have hA := doCall_rel hC hs hL hf (fun t ht => by subst ht; simpa using hn)
  have hrun : (execOp a.eval o).run P E.w = (callFunc g0 (fs.toList ++ cl.args.toList.map a.eval ++ cs.toList).toArray).run P E.w := by
    rw [execOp]; simp only [ho, resolve, hfn, hv, Deferred.ofValue, invoke, Sem.run_bind, Sem.run_pure, Result.andThen_ok]
    congr 2
    apply Array.ext'
    simp
  rw [hrun, hd]
  unfold After at hA
  unfold Com
  split at hA
  · rename_i g' args w' he
    rw [he]
    exact ⟨hA.1, hA.2.mono fun e w'' ⟨y, h1, E', c', h2, h3, h4, h5⟩ => ⟨y, E', c', h1, h2, h3, h4, h5⟩⟩
  · rename_i y w' he
    rw [he]
    exact hA
  · exact hA.elim
theorem trI1_sound (hC : CallsOk P call) {h : AI} (ht : trI1 P N o h = some ai) (hs : astep call st ai = some st') (hf : FRel N E st a.tmps c) :
    Com P N E c st' a o.dst ((execOp a.eval o).run P E.w) := by
  cases h <;> simp only [trI1] at ht <;> (first | (cases ht; done) | skip) <;> (split at ht) <;> (first | (cases ht; done) | skip) <;> rename_i hd
  case mv.isTrue => exact ((r_mv hd ht hs hf).to1 hf).com
  case pick.isTrue => exact ((r_pick hd ht hs hf).to1 hf).com
  case new.isTrue => exact (r_new hd ht hs hf).com
  case build.isTrue => exact ((r_build hd ht hs hf).to1 hf).com
  case mks.isTrue => exact (r_mks hd ht hs hf).com
  case mk.isTrue => exact (r_mk hd ht hs hf).com
  case ld.isTrue => exact (r_ld hd ht hs hf).com
  case ldq.isTrue => exact ((r_ldq hd ht hs hf).to1 hf).com
  case nilc.isTrue => exact ((r_nilc hd ht hs hf).to1 hf).com
  case bin.isTrue => exact ((r_bin hd ht hs hf).to1 hf).com
  case eqs.isTrue => exact ((r_eqs hd ht hs hf).to1 hf).com
  case un.isTrue => exact ((r_un hd ht hs hf).to1 hf).com
  case sl.isTrue => exact ((r_sl hd ht hs hf).to1 hf).com
  case ssl.isTrue => exact ((r_ssl hd ht hs hf).to1 hf).com
  case slen.isTrue => exact ((r_slen hd ht hs hf).to1 hf).com
  case fa.isTrue => exact ((r_fa hd ht hs hf).to1 hf).com
  case fld.isTrue => exact ((r_fld hd ht hs hf).to1 hf).com
  case ia.isTrue => exact ((r_ia hd ht hs hf).to1 hf).com
  case ix.isTrue => exact ((r_ix hd ht hs hf).to1 hf).com
  case ext.isTrue => exact ((r_ext hd ht hs hf).to1 hf).com
  case fun.isTrue => exact ((r_fun hd ht hs hf).to1 hf).com
  case app.isTrue => exact (r_app hd ht hs hf).com
  case len.isTrue => exact ((r_len hd ht hs hf).to1 hf).com
  case mx.isTrue => exact ((r_mx hd ht hs hf).to1 hf).com
  case int.isTrue => exact ((r_int hd ht hs hf).to1 hf).com
  case str.isTrue => exact ((r_str hd ht hs hf).to1 hf).com
  case st.isTrue => exact (r_st (by simpa using hd) ht hs hf).com
  case call.isTrue => exact r_call hC hd ht hs hf
end
end Go.Vm
