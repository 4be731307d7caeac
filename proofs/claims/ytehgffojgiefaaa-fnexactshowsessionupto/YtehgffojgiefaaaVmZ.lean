import Derived.Test.YtehgffojgiefaaaVmT
import Derived.Test.YtehgffojgiefaaaVmY
set_option autoImplicit false
set_option linter.unusedVariables false
set_option linter.unusedSimpArgs false
namespace Go.Vm

def quietI : AI → Bool
  | .mv .. | .pick .. | .build .. | .ldq .. | .nilc .. | .bin .. | .eqs .. | .un .. | .sl .. | .ssl .. | .slen .. | .fa .. | .fld .. | .ia .. | .ix .. | .ext .. | .fun .. | .len .. | .mx .. | .int .. | .str .. => true
  | _ => false
def roI : AI → Bool
  | .call _ _ _ (.ro _) => true
  | _ => false
def baseI : AI → AI
  | .gd _ _ _ i => i
  | i => i

section
variable {P : Program} {N n : Nat} {ops : Array Oper} {o : Oper} {E : Env} {c : Cnt} {st st' : St} {a : Act} {call : Call} {ai h : AI}
theorem trI1_quiet (hq : quietI h = true) (ht : trI1 P N o h = some ai) (hs : astep call st ai = some st') (hf : FRel N E st a.tmps c) :
    ComesQ N E st st' o.dst ((execOp a.eval o).run P E.w) := by
  cases h <;> simp only [quietI] at hq <;> (first | (cases hq; done) | skip) <;> simp only [trI1] at ht <;> (split at ht) <;> (first | (cases ht; done) | skip) <;> rename_i hd
  case mv.isTrue => exact r_mv hd ht hs hf
  case pick.isTrue => exact r_pick hd ht hs hf
  case build.isTrue => exact r_build hd ht hs hf
  case ldq.isTrue => exact r_ldq hd ht hs hf
  case nilc.isTrue => exact r_nilc hd ht hs hf
  case bin.isTrue => exact r_bin hd ht hs hf
  case eqs.isTrue => exact r_eqs hd ht hs hf
  case un.isTrue => exact r_un hd ht hs hf
  case sl.isTrue => exact r_sl hd ht hs hf
  case ssl.isTrue => exact r_ssl hd ht hs hf
  case slen.isTrue => exact r_slen hd ht hs hf
  case fa.isTrue => exact r_fa hd ht hs hf
  case fld.isTrue => exact r_fld hd ht hs hf
  case ia.isTrue => exact r_ia hd ht hs hf
  case ix.isTrue => exact r_ix hd ht hs hf
  case ext.isTrue => exact r_ext hd ht hs hf
  case fun.isTrue => exact r_fun hd ht hs hf
  case len.isTrue => exact r_len hd ht hs hf
  case mx.isTrue => exact r_mx hd ht hs hf
  case int.isTrue => exact r_int hd ht hs hf
  case str.isTrue => exact r_str hd ht hs hf
theorem comesQ_wp {Q : Exit → Act → World → Prop} {K : Act → World → Prop} (h : ComesQ N E st st' o.dst ((execOp a.eval o).run P E.w))
    (hK : ∀ d x y, o.dst = some d → d < N → st' = st.put d x → Rel E x y c0 → K (a.put o.dst y) E.w) : o.wp P a E.w K Q := by
  obtain ⟨d, x, y, hd, hn, hr, hs, hx⟩ := h
  unfold Oper.wp
  rw [hr]
  exact hK d x y hd hn hs hx
theorem trI1_dst (ht : trI1 P N o h = some ai) : dstI ai = o.dst := by
  cases h <;> simp only [trI1] at ht <;> (first | (cases ht; done) | skip) <;> (split at ht) <;> (first | (cases ht; done) | skip) <;> rename_i hd
  case st.isTrue =>
    have hd' : o.dst = none := by simpa using hd
    unfold trSt at ht
    (repeat' (split at ht)) <;> simp_all [dstI]
    subst ht; simp [dstI]
  case call.isTrue =>
    simp only [okDst, Bool.and_eq_true, decide_eq_true_eq] at hd
    unfold trCall at ht
    split at ht
    case h_2 => cases ht
    split at ht
    case h_2 => cases ht
    obtain ⟨x, y, -, -, rfl⟩ := opt2_some ht
    simp only [dstI]; exact hd.1.symm
  all_goals
    rw [(okD_some hd).1]
    simp only [trMv, trPick, trNew, trBuild, trMks, trMk, trLd, trLdq, trNilc, trBin, trEqs, trUn, trSl, trSsl, trSlen, trFa, trFld, trIa, trIx, trExt, trFun, trApp, trLen, trMx, trInt, trStr, opt2] at ht
    (repeat' (split at ht)) <;> (first | (cases ht; done) | skip) <;> simp only [Option.map_eq_some_iff, Option.some.injEq] at ht <;>
      (first | (subst ht; rfl) | (obtain ⟨x, -, rfl⟩ := ht; rfl))
/-- behind a guard, or not -/
theorem trI_cases (ht : trI P N n ops o h = some ai) (hs : gstep call st ai = some st') (hf : FRel N E st a.tmps c) :
    dstI ai = o.dst ∧ ((Region.wanted o (yielded ops a.tmps) = false ∧ (o.dst = none → st' = st) ∧ (∀ d, o.dst = some d → d < N ∧ st' = st.put d undefV)) ∨
    (Region.wanted o (yielded ops a.tmps) = true ∧ ∃ ai1, trI1 P N o (baseI h) = some ai1 ∧ astep call st ai1 = some st')) := by
  have hwant : o.guard.isNone = true → Region.wanted o (yielded ops a.tmps) = true := by
    intro hg
    unfold Region.wanted
    split
    · rfl
    · rename_i he; rw [he] at hg; cases hg
  have hplain : ∀ i, o.guard.isNone = true → trI1 P N o i = some ai → Region.wanted o (yielded ops a.tmps) = true ∧ ∃ ai1, trI1 P N o i = some ai1 ∧ astep call st ai1 = some st' := by
    intro i hg hi
    refine ⟨hwant hg, ai, hi, ?_⟩
    have hng : ∀ j w d i', ai ≠ .gd j w d i' := by
      rintro j w d i' rfl
      cases i <;> simp only [trI1] at hi <;> (first | (cases hi; done) | skip) <;> (split at hi) <;> (first | (cases hi; done) | skip) <;>
        simp only [trMv, trPick, trNew, trBuild, trMks, trMk, trLd, trLdq, trNilc, trBin, trEqs, trUn, trSl, trSsl, trSlen, trFa, trFld, trIa, trIx, trExt, trFun, trApp, trLen, trMx, trInt, trStr, trSt, trCall, opt2] at hi <;>
        (repeat' (split at hi)) <;> simp_all
    rw [gd_not call ai hng] at hs
    exact hs
  unfold trI at ht
  split at ht
  · rename_i j want d i
    split at ht
    case h_2 => cases ht
    rename_i k w hg
    split at ht
    case isFalse => cases ht
    rename_i hc
    simp only [Bool.and_eq_true, decide_eq_true_eq] at hc
    obtain ⟨⟨⟨rfl, hdn⟩, hdst⟩, hj⟩ := hc
    rw [Option.map_eq_some_iff] at ht
    obtain ⟨i', hi', rfl⟩ := ht
    simp only [okDst, Bool.and_eq_true, decide_eq_true_eq] at hdst
    obtain ⟨hod, hdN⟩ := hdst
    refine ⟨by simp only [dstI]; exact hod.symm, ?_⟩
    simp only [gstep] at hs
    have hno : (d = none → st' = st) → (∀ t, d = some t → st' = st.put t undefV) → (o.dst = none → st' = st) ∧ (∀ d, o.dst = some d → d < N ∧ st' = st.put d undefV) := by
      intro h1 h2
      rw [hod]
      refine ⟨h1, fun t e => ⟨?_, h2 t e⟩⟩
      subst e; simpa using hdN
    split at hs
    · rename_i b hb
      obtain ⟨v, hv, hr⟩ := hf.σ _ _ hb
      simp only [Rel] at hr
      have hy : yielded ops a.tmps k = some b := by simp only [yielded, hj, Option.bind_some, hv, hr.1]
      by_cases hbw : b = w
      · subst hbw
        rw [if_pos rfl] at hs
        exact .inr ⟨by simp only [Region.wanted, hg, hy, beq_self_eq_true], i', hi', hs⟩
      · rw [if_neg hbw] at hs
        refine .inl ⟨by simp only [Region.wanted, hg, hy]; simp [hbw], ?_⟩
        exact hno (fun e => by subst e; simpa using hs.symm) (fun t e => by subst e; simpa using hs.symm)
    · rename_i x hnb hx
      obtain ⟨v, hv, hr⟩ := hf.σ _ _ hx
      simp only [Rel] at hr
      have hy : yielded ops a.tmps k = none := by
        simp only [yielded, hj, Option.bind_some, hv, hr.1]
        cases x <;> first | rfl | exact absurd rfl (hnb _)
      refine .inl ⟨by simp only [Region.wanted, hg, hy]; rfl, ?_⟩
      exact hno (fun e => by subst e; simpa using hs.symm) (fun t e => by subst e; simpa using hs.symm)
    · cases hs
  · rename_i d h'
    split at ht
    case isFalse => cases ht
    rename_i hc
    simp only [Bool.and_eq_true] at hc
    have hi : trI1 P N o (.mv d h') = some ai := by simp only [trI1, hc.2, if_true]; exact ht
    exact ⟨trI1_dst hi, .inr (hplain _ hc.1 hi)⟩
  · rename_i i hn1 hn2
    split at ht
    case isFalse => cases ht
    rename_i hc
    simp only [Bool.and_eq_true] at hc
    have hb : baseI h = h := by cases h <;> first | rfl | exact absurd rfl (hn1 _ _ _ _)
    rw [hb]
    exact ⟨trI1_dst ht, .inr (hplain _ hc.1 ht)⟩
end
end Go.Vm
