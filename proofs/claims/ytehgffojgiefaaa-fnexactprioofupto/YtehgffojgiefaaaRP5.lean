import Derived.Test.YtehgffojgiefaaaRP4
set_option autoImplicit false
set_option maxRecDepth 100000
set_option linter.unusedSimpArgs false
set_option linter.unusedVariables false
namespace Go.Vm
/-! ### the law -/
theorem law_PrioOf (t : Tm) (hw : WT t) (v : V) (h : BT t v) : ∃ outs, cw progA F.laws_FnExactPrioOf [v] = some (B true, outs) := by
  suffices hs : cr progA F.laws_FnExactPrioOf [v] = some (B true) by
    unfold cr at hs
    cases hc : cw progA F.laws_FnExactPrioOf [v] with
    | none => rw [hc] at hs; cases hs
    | some r => rw [hc] at hs; obtain ⟨a, b⟩ := r; simp only [Option.map_some, Option.some.injEq] at hs; subst hs; exact ⟨b, rfl⟩
  obtain ⟨m, hm⟩ := szTerm_ok t hw v 1048576 h
  have ht := toTerm_ok t hw v h
  have hp1 := spec_PrioOf_ok t _ (BT_iT false t)
  have hp2 := impl_PrioOf_ok t _ (BT_iT true t)
  have he := eqTerm_ok t hw t _ _ (BT_iT true t) (BT_iT false t)
  rw [iT_mk] at hp2 
  rw [iT_mk true] at he
  obtain ⟨τ, vs, rfl, hv⟩ := BT_shape h
  rw [cr_fn pA_laws_FnExactPrioOf rfl]
  have hoT := oT_mk t
  by_cases hneg : m < 0
  · simp only [go_sem, Nat.reduceAdd, Nat.reduceSub, Nat.reduceMul, Nat.reduceEqDiff, Nat.reduceLeDiff, Nat.reduceBEq, reduceCtorEq, A.laws_FnExactPrioOf, hm, hneg]
  · rw [hoT] at ht
    have e1 : iT false t = V.a [I t.kind, S t.name, I t.num, .i false (t.kids.map (iT false))] := iT_mk false t
    rw [e1] at hp1 he
    simp only [go_sem, Nat.reduceAdd, Nat.reduceSub, Nat.reduceMul, Nat.reduceEqDiff, Nat.reduceLeDiff, Nat.reduceBEq, reduceCtorEq, A.laws_FnExactPrioOf, hm, hneg, ht, hp1, hp2, he]
end Go.Vm
