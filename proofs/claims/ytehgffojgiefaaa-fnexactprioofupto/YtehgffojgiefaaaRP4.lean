import Derived.Test.YtehgffojgiefaaaRP1
import Derived.Test.YtehgffojgiefaaaRP3
set_option autoImplicit false
set_option maxRecDepth 100000
set_option linter.unusedSimpArgs false
set_option linter.unusedVariables false
namespace Go.Vm
structure Op3 where
  prio : Int
  left : Int
  right : Int
def infixOf (s : Str) : Op3 :=
  if s = [58, 45] ∨ s = [45, 45, 62] then ⟨1200, 1199, 1199⟩
  else if s = [59] then ⟨1100, 1099, 1100⟩
  else if s = [45, 62] then ⟨1050, 1049, 1050⟩
  else if s = [44] then ⟨1000, 999, 1000⟩
  else if s = [61] ∨ s = [92, 61] ∨ s = [61, 61] ∨ s = [105, 115] ∨ s = [60] ∨ s = [61, 58, 61] then ⟨700, 699, 699⟩
  else if s = [43] ∨ s = [45] then ⟨500, 500, 499⟩
  else if s = [42] ∨ s = [47, 47] then ⟨400, 400, 399⟩
  else ⟨0, 0, 0⟩
def opV (s : Str) : V := .t [.a [S (if (infixOf s).prio = 0 then [] else s), I (infixOf s).prio, I (infixOf s).left, I (infixOf s).right], B (decide ((infixOf s).prio ≠ 0))]
set_option maxHeartbeats 2000000 in
theorem impl_InfixOf_ok (s : Str) : cr progA F.impl_InfixOf [S s] = some (opV s) := by
  rw [cr_fn pA_impl_InfixOf rfl]
  by_cases h1 : s = [58, 45]
  · subst h1; simp (decide := true) only [go_sem, Nat.reduceAdd, Nat.reduceSub, Nat.reduceMul, Nat.reduceEqDiff, Nat.reduceLeDiff, Nat.reduceBEq, reduceCtorEq, A.impl_InfixOf]; rfl
  by_cases h2 : s = [45, 45, 62]
  · subst h2; simp (decide := true) only [go_sem, Nat.reduceAdd, Nat.reduceSub, Nat.reduceMul, Nat.reduceEqDiff, Nat.reduceLeDiff, Nat.reduceBEq, reduceCtorEq, A.impl_InfixOf]; rfl
  by_cases h3 : s = [59]
  · subst h3; simp (decide := true) only [go_sem, Nat.reduceAdd, Nat.reduceSub, Nat.reduceMul, Nat.reduceEqDiff, Nat.reduceLeDiff, Nat.reduceBEq, reduceCtorEq, A.impl_InfixOf]; rfl
  by_cases h4 : s = [45, 62]
  · subst h4; simp (decide := true) only [go_sem, Nat.reduceAdd, Nat.reduceSub, Nat.reduceMul, Nat.reduceEqDiff, Nat.reduceLeDiff, Nat.reduceBEq, reduceCtorEq, A.impl_InfixOf]; rfl
  by_cases h5 : s = [44]
  · subst h5; simp (decide := true) only [go_sem, Nat.reduceAdd, Nat.reduceSub, Nat.reduceMul, Nat.reduceEqDiff, Nat.reduceLeDiff, Nat.reduceBEq, reduceCtorEq, A.impl_InfixOf]; rfl
  by_cases h6 : s = [61]
  · subst h6; simp (decide := true) only [go_sem, Nat.reduceAdd, Nat.reduceSub, Nat.reduceMul, Nat.reduceEqDiff, Nat.reduceLeDiff, Nat.reduceBEq, reduceCtorEq, A.impl_InfixOf]; rfl
  by_cases h7 : s = [92, 61]
  · subst h7; simp (decide := true) only [go_sem, Nat.reduceAdd, Nat.reduceSub, Nat.reduceMul, Nat.reduceEqDiff, Nat.reduceLeDiff, Nat.reduceBEq, reduceCtorEq, A.impl_InfixOf]; rfl
  by_cases h8 : s = [61, 61]
  · subst h8; simp (decide := true) only [go_sem, Nat.reduceAdd, Nat.reduceSub, Nat.reduceMul, Nat.reduceEqDiff, Nat.reduceLeDiff, Nat.reduceBEq, reduceCtorEq, A.impl_InfixOf]; rfl
  by_cases h9 : s = [105, 115]
  · subst h9; simp (decide := true) only [go_sem, Nat.reduceAdd, Nat.reduceSub, Nat.reduceMul, Nat.reduceEqDiff, Nat.reduceLeDiff, Nat.reduceBEq, reduceCtorEq, A.impl_InfixOf]; rfl
  by_cases h10 : s = [60]
  · subst h10; simp (decide := true) only [go_sem, Nat.reduceAdd, Nat.reduceSub, Nat.reduceMul, Nat.reduceEqDiff, Nat.reduceLeDiff, Nat.reduceBEq, reduceCtorEq, A.impl_InfixOf]; rfl
  by_cases h11 : s = [61, 58, 61]
  · subst h11; simp (decide := true) only [go_sem, Nat.reduceAdd, Nat.reduceSub, Nat.reduceMul, Nat.reduceEqDiff, Nat.reduceLeDiff, Nat.reduceBEq, reduceCtorEq, A.impl_InfixOf]; rfl
  by_cases h12 : s = [43]
  · subst h12; simp (decide := true) only [go_sem, Nat.reduceAdd, Nat.reduceSub, Nat.reduceMul, Nat.reduceEqDiff, Nat.reduceLeDiff, Nat.reduceBEq, reduceCtorEq, A.impl_InfixOf]; rfl
  by_cases h13 : s = [45]
  · subst h13; simp (decide := true) only [go_sem, Nat.reduceAdd, Nat.reduceSub, Nat.reduceMul, Nat.reduceEqDiff, Nat.reduceLeDiff, Nat.reduceBEq, reduceCtorEq, A.impl_InfixOf]; rfl
  by_cases h14 : s = [42]
  · subst h14; simp (decide := true) only [go_sem, Nat.reduceAdd, Nat.reduceSub, Nat.reduceMul, Nat.reduceEqDiff, Nat.reduceLeDiff, Nat.reduceBEq, reduceCtorEq, A.impl_InfixOf]; rfl
  by_cases h15 : s = [47, 47]
  · subst h15; simp (decide := true) only [go_sem, Nat.reduceAdd, Nat.reduceSub, Nat.reduceMul, Nat.reduceEqDiff, Nat.reduceLeDiff, Nat.reduceBEq, reduceCtorEq, A.impl_InfixOf]; rfl
  simp only [go_sem, Nat.reduceAdd, Nat.reduceSub, Nat.reduceMul, Nat.reduceEqDiff, Nat.reduceLeDiff, Nat.reduceBEq, reduceCtorEq, A.impl_InfixOf, h1, h2, h3, h4, h5, h6, h7, h8, h9, h10, h11, h12, h13, h14, h15]
  simp [opV, infixOf, h1, h2, h3, h4, h5, h6, h7, h8, h9, h10, h11, h12, h13, h14, h15]
theorem spec_InfixOf_ok (s : Str) : cr progA F.spec_InfixOf [S s] = some (opV s) := by
  rw [← impl_InfixOf_ok, cr_fn pA_spec_InfixOf rfl, cr_fn pA_impl_InfixOf rfl]; rfl
def prioOf (t : Tm) : Int := if t.kind = 4 ∧ t.kids.length = 2 then (infixOf t.name).prio else 0
theorem spec_PrioOf_ok (t : Tm) (v : V) (h : BT t v) : cr progA F.spec_PrioOf [v] = some (I (prioOf t)) := by
  obtain ⟨τ, vs, rfl, hv⟩ := BT_shape h
  rw [cr_fn pA_spec_PrioOf rfl]
  unfold prioOf
  by_cases h1 : t.kind = 4
  · by_cases h2 : (t.kids.length : Int) = 2
    · have h2' : t.kids.length = 2 := by omega
      rw [if_pos ⟨h1, h2'⟩]
      by_cases h3 : (infixOf t.name).prio = 0
      · simp only [go_sem, Nat.reduceAdd, Nat.reduceSub, Nat.reduceMul, Nat.reduceEqDiff, Nat.reduceLeDiff, Nat.reduceBEq, reduceCtorEq, A.spec_PrioOf, RL_length hv, h1, h2, spec_InfixOf_ok, opV, h3]
      · simp only [go_sem, Nat.reduceAdd, Nat.reduceSub, Nat.reduceMul, Nat.reduceEqDiff, Nat.reduceLeDiff, Nat.reduceBEq, reduceCtorEq, A.spec_PrioOf, RL_length hv, h1, h2, spec_InfixOf_ok, opV, h3]
    · have h2' : ¬ t.kids.length = 2 := by omega
      rw [if_neg (fun h => h2' h.2)]
      simp only [go_sem, Nat.reduceAdd, Nat.reduceSub, Nat.reduceMul, Nat.reduceEqDiff, Nat.reduceLeDiff, Nat.reduceBEq, reduceCtorEq, A.spec_PrioOf, RL_length hv, h1, h2]
  · rw [if_neg (fun h => h1 h.1)]
    simp only [go_sem, Nat.reduceAdd, Nat.reduceSub, Nat.reduceMul, Nat.reduceEqDiff, Nat.reduceLeDiff, Nat.reduceBEq, reduceCtorEq, A.spec_PrioOf, h1]
theorem impl_isInfix_ok (t : Tm) (v : V) (h : BT t v) : cr progA F.impl_isInfix [v] = some (B (decide (prioOf t ≠ 0))) := by
  obtain ⟨τ, vs, rfl, hv⟩ := BT_shape h
  rw [cr_fn pA_impl_isInfix rfl]
  unfold prioOf
  by_cases h1 : t.kind = 4
  · by_cases h2 : (t.kids.length : Int) = 2
    · have h2' : t.kids.length = 2 := by omega
      rw [if_pos ⟨h1, h2'⟩]
      by_cases h3 : (infixOf t.name).prio = 0
      · simp only [go_sem, Nat.reduceAdd, Nat.reduceSub, Nat.reduceMul, Nat.reduceEqDiff, Nat.reduceLeDiff, Nat.reduceBEq, reduceCtorEq, A.impl_isInfix, RL_length hv, h1, h2, impl_InfixOf_ok, opV, h3]
      · simp only [go_sem, Nat.reduceAdd, Nat.reduceSub, Nat.reduceMul, Nat.reduceEqDiff, Nat.reduceLeDiff, Nat.reduceBEq, reduceCtorEq, A.impl_isInfix, RL_length hv, h1, h2, impl_InfixOf_ok, opV, h3]
    · have h2' : ¬ t.kids.length = 2 := by omega
      rw [if_neg (fun h => h2' h.2)]
      by_cases h3 : (infixOf t.name).prio = 0 <;> simp only [go_sem, Nat.reduceAdd, Nat.reduceSub, Nat.reduceMul, Nat.reduceEqDiff, Nat.reduceLeDiff, Nat.reduceBEq, reduceCtorEq, A.impl_isInfix, RL_length hv, h1, h2, impl_InfixOf_ok, opV, h3]
  · rw [if_neg (fun h => h1 h.1)]
    by_cases h3 : (infixOf t.name).prio = 0 <;> simp only [go_sem, Nat.reduceAdd, Nat.reduceSub, Nat.reduceMul, Nat.reduceEqDiff, Nat.reduceLeDiff, Nat.reduceBEq, reduceCtorEq, A.impl_isInfix, h1, impl_InfixOf_ok, opV, h3]
theorem impl_PrioOf_ok (t : Tm) (v : V) (h : BT t v) : cr progA F.impl_PrioOf [v] = some (I (prioOf t)) := by
  have hi := impl_isInfix_ok t v h
  obtain ⟨τ, vs, rfl, hv⟩ := BT_shape h
  rw [cr_fn pA_impl_PrioOf rfl]
  by_cases h0 : prioOf t = 0
  · simp only [go_sem, Nat.reduceAdd, Nat.reduceSub, Nat.reduceMul, Nat.reduceEqDiff, Nat.reduceLeDiff, Nat.reduceBEq, reduceCtorEq, A.impl_PrioOf, hi, h0]
  · have h1 : prioOf t = (infixOf t.name).prio := by unfold prioOf at h0 ⊢; split at h0 <;> simp_all
    simp only [go_sem, Nat.reduceAdd, Nat.reduceSub, Nat.reduceMul, Nat.reduceEqDiff, Nat.reduceLeDiff, Nat.reduceBEq, reduceCtorEq, A.impl_PrioOf, hi, h0, impl_InfixOf_ok, opV, h1]
    rw [h1] at h0
    simp only [go_sem, Nat.reduceAdd, Nat.reduceSub, Nat.reduceMul, Nat.reduceEqDiff, Nat.reduceLeDiff, Nat.reduceBEq, reduceCtorEq, h0]
end Go.Vm
