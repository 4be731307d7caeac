import Derived.Test.YtehgffojgiefaaaVmZD
set_option autoImplicit false
set_option linter.unusedVariables false
set_option linter.unusedSimpArgs false
namespace Go.Vm

section
variable {P : Program} {N n : Nat} {ops : Array Oper} {o : Oper} {E : Env} {c : Cnt} {st st' : St} {a : Act} {call : Call} {ai h : AI}
theorem ro_wp (hC : CallsOk P call) (hq : roI h = true) (ht : trI1 P N o h = some ai) (hs : astep call st ai = some st') (hf : FRel N E st a.tmps c) {Q : Exit → Act → World → Prop} {K : Act → World → Prop}
    (hK : ∀ y E3 c5 r, E3.μ = E.μ → Rel E3.cl r y c5 → Good E3 c5 → Adv E c0 E3 c5 → st' = bringO o.dst r st → K (a.put o.dst y) E3.w) : o.wp P a E.w K Q := by
  unfold roI at hq
  split at hq
  case h_2 => cases hq
  rename_i d hh hs' fz
  simp only [trI1] at ht
  split at ht
  case isFalse => cases ht
  rename_i hd
  simp only [okDst, Bool.and_eq_true, decide_eq_true_eq] at hd
  obtain ⟨hd, hn⟩ := hd
  unfold trCall at ht
  split at ht
  case h_2 => cases ht
  rename_i cl ho
  split at ht
  case h_2 => cases ht
  rename_i f hfn
  obtain ⟨f', xs', h1, h2, rfl⟩ := opt2_some ht
  simp only [astep] at hs
  split at hs
  case h_2 => cases hs
  rename_i fv hfv
  split at hs
  case h_2 => cases hs
  rename_i g first caps xs hcal hxs
  have hrf := ev_rel hf.σ h1 hfv
  have hrx := evL_rel hf.σ h2 hxs
  unfold callee at hcal
  split at hcal
  case h_2 => cases hcal
  rename_i g0 fi0 ca0
  simp only [Option.some.injEq, Prod.mk.injEq] at hcal
  obtain ⟨rfl, rfl, rfl⟩ := hcal
  simp only [Rel] at hrf
  obtain ⟨fs, cs, c1, c2, hv, hr1, hr2, hcc⟩ := hrf
  obtain ⟨rfl, rfl⟩ := cz hcc.symm.symm rfl
  have hL : RelL E (_ ++ xs ++ _) (fs.toList ++ cl.args.toList.map a.eval ++ cs.toList) c0 := relL_append (relL_append hr1 hrx) hr2
  simp only [doCall] at hs
  split at hs
  case h_2 => cases hs
  rename_i r outs hcall
  split at hs
  case isFalse => cases hs
  rename_i hnt
  simp only [Option.some.injEq] at hs
  have hA := ro_rel hC (fz := fz) hcall hnt hL hf.T hf.g
  have hrun : (execOp a.eval o).run P E.w = (callFunc g0 (fs.toList ++ cl.args.toList.map a.eval ++ cs.toList).toArray).run P E.w := by
    rw [execOp]; simp only [ho, resolve, hfn, hv, Deferred.ofValue, invoke, Sem.run_bind, Sem.run_pure, Result.andThen_ok]
    congr 2
    apply Array.ext'
    simp
  unfold Oper.wp
  rw [hrun]
  have hK' : ∀ y w', (∃ E3 c5, E3.w = w' ∧ E3.μ = E.μ ∧ Rel E3.cl (fzV fz r) y c5 ∧ Good E3 c5 ∧ (∀ b, b < E.w.heap.size → w'.heap[b]? = E.w.heap[b]?) ∧ Adv E c0 E3 c5) → K (a.put o.dst y) w' := by
    rintro y w' ⟨E3, c5, rfl, k1, k2, k3, -, k4⟩
    exact hK y E3 c5 _ k1 k2 k3 k4 (by rw [hd]; exact hs.symm)
  unfold After at hA
  split at hA
  · rename_i g' args w' he
    rw [he]
    obtain ⟨rfl, hc⟩ := hA
    refine hc.mono ?_
    rintro e w'' ⟨y, rfl, h3⟩
    exact hK' y w'' h3
  · rename_i y w' he
    rw [he]
    exact hK' y w' hA
  · exact hA.elim
theorem trOps_at {ops' : Array Oper} : ∀ {os : List Oper} {hs is : List AI}, trOps P N n ops' os hs = some is → os.length = is.length ∧ ∀ (i : Nat) (o : Oper), os[i]? = some o →
    ∃ h ai, hs[i]? = some h ∧ is[i]? = some ai ∧ trI P N n ops' o h = some ai
  | [], [], is, h => by simp only [trOps, Option.some.injEq] at h; subst h; exact ⟨rfl, fun i o h => by simp at h⟩
  | [], _ :: _, is, h => by simp [trOps] at h
  | _ :: _, [], is, h => by simp [trOps] at h
  | o :: os, x :: hs, is, h => by
    simp only [trOps] at h
    split at h
    case h_2 => cases h
    rename_i i is' h1 h2
    simp only [Option.some.injEq] at h; subst h
    obtain ⟨h3, h4⟩ := trOps_at h2
    refine ⟨by simp [h3], fun j o' hj => ?_⟩
    cases j with
    | zero => simp at hj; subst hj; exact ⟨x, i, rfl, rfl, h1⟩
    | succ j => simpa using h4 j o' (by simpa using hj)
end
end Go.Vm
