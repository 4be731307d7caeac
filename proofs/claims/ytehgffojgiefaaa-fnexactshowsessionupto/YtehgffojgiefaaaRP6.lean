import Derived.Test.YtehgffojgiefaaaRLw
set_option autoImplicit false
set_option maxRecDepth 100000
set_option linter.unusedSimpArgs false
set_option linter.unusedVariables false
namespace Go.Vm
def linesOf : List Str → Str
  | [] => []
  | s :: ss => s ++ [10] ++ linesOf ss
theorem linesOf_app : ∀ (a b : List Str), linesOf (a ++ b) = linesOf a ++ linesOf b
  | [], b => rfl
  | s :: a, b => by simp only [List.cons_append, linesOf, linesOf_app a b, List.append_assoc]
theorem linesOf_next {ss : List Str} {i : Nat} {s : Str} (h : ss[i]? = some s) : linesOf (ss.take (i + 1)) = linesOf (ss.take i) ++ (s ++ [10]) := by
  rw [List.take_succ_eq_append_getElem (List.getElem?_eq_some_iff.1 h).1, linesOf_app, (List.getElem?_eq_some_iff.1 h).2]
  simp [linesOf]
theorem linesOf_len : ∀ (ss : List Str), (∀ s ∈ ss, s.length ≤ Lm) → (linesOf ss).length ≤ ss.length * (Lm + 1)
  | [], _ => by simp [linesOf]
  | s :: ss, h => by
    have := linesOf_len ss fun t ht => h t (by simp [ht])
    have := h s (by simp)
    simp only [linesOf, List.length_append, List.length_cons, List.length_nil, Nat.add_mul]
    omega
theorem l31Lines_loop (τ : Bool) (ss : List Str) (n : Nat) (hn : ss.length = n) (hlim : n ≤ Lm) (hw : ∀ s ∈ ss, s.length ≤ Lm) (m : Nat) : ∀ i, i + m = n →
    ∃ a b c e', lw progA L.spec_l31Lines_0 ⟨[(0, .i τ (ss.map S)), (3, S (linesOf (ss.take i))), (4, I i)], []⟩ = some (.exit 0, ⟨[(8, a), (7, b), (6, c), (5, e'), (0, .i τ (ss.map S)), (3, S (linesOf ss)), (4, I n)], []⟩) := by
  induction m with
  | zero =>
    intro i hi
    obtain rfl : i = n := by omega
    rw [lw_eq]
    have h1 : ¬ (i : Int) < (i : Int) := by omega
    rw [List.take_of_length_le (Nat.le_of_eq hn)]
    simp only [go_sem, Nat.reduceAdd, Nat.reduceSub, Nat.reduceMul, Nat.reduceEqDiff, Nat.reduceLeDiff, Nat.reduceBEq, reduceCtorEq, LB.spec_l31Lines_0, hn, h1]
    exact ⟨_, _, _, _, rfl⟩
  | succ m ih =>
    intro i hi
    rw [lw_eq]
    have hlt : (i : Int) < (n : Int) := by omega
    obtain ⟨t, ht⟩ := get_some' (l := ss) (i := i) (by omega)
    have hb := linesOf_len (ss.take i) fun s hs => hw s (List.mem_of_mem_take hs)
    have hl := hw t (List.mem_of_getElem? ht)
    rw [List.length_take] at hb
    have hb2 : (linesOf (ss.take i)).length ≤ Lm * (Lm + 1) := Nat.le_trans hb (Nat.mul_le_mul_right _ (by omega))
    unfold Lm at hlim hb2 hl
    have g := getmap (f := S) ht
    have a1 := addr_i (τ := τ) (T := []) (e := 1) g rfl
    have e1 : w64 ((i : Int) + 1) = ((i + 1 : Nat) : Int) := by rw [w64_id] <;> omega
    have s1 : binV .add (S (linesOf (ss.take i))) (S t) = _ := binS_add (by omega)
    have s2 : binV .add (S (linesOf (ss.take i) ++ t)) (S [10]) = _ := binS_add (by simp only [List.length_append, List.length_cons, List.length_nil]; omega)
    have i1 := ih (i + 1) (by omega)
    rw [linesOf_next ht, ← List.append_assoc] at i1
    simp only [go_sem, Nat.reduceAdd, Nat.reduceSub, Nat.reduceMul, Nat.reduceEqDiff, Nat.reduceLeDiff, Nat.reduceBEq, reduceCtorEq, LB.spec_l31Lines_0, hn, hlt, a1, g, e1, s1, s2]
    exact i1
theorem spec_l31Lines_ok (τ : Bool) (ss : List Str) (hlim : ss.length ≤ Lm) (hw : ∀ s ∈ ss, s.length ≤ Lm) : cr progA F.spec_l31Lines [.i τ (ss.map S)] = some (S (linesOf ss)) := by
  obtain ⟨a, b, c, e', h⟩ := l31Lines_loop τ ss ss.length rfl hlim hw ss.length 0 (by omega)
  simp only [Int.natCast_zero, List.take_zero, linesOf] at h
  rw [cr_fn pA_spec_l31Lines rfl]
  simp only [go_sem, Nat.reduceAdd, Nat.reduceSub, Nat.reduceMul, Nat.reduceEqDiff, Nat.reduceLeDiff, Nat.reduceBEq, reduceCtorEq, A.spec_l31Lines, h]
theorem inLines_loop (τ : Bool) (ss : List Str) (n : Nat) (hn : ss.length = n) (hlim : n ≤ Lm) (hw : ∀ s ∈ ss, s.length ≤ Lm) (m : Nat) : ∀ i, i + m = n →
    ∃ a, lw progA L.impl_inLines_0 ⟨[(3, S (linesOf (ss.take i))), (6, .i τ (ss.map S)), (7, I n), (8, I i)], []⟩ = some (.exit 0, ⟨[(9, a), (3, S (linesOf ss)), (6, .i τ (ss.map S)), (7, I n), (8, I n)], []⟩) := by
  induction m with
  | zero =>
    intro i hi
    obtain rfl : i = n := by omega
    rw [lw_eq]
    have h1 : ¬ (i : Int) < (i : Int) := by omega
    rw [List.take_of_length_le (Nat.le_of_eq hn)]
    simp only [go_sem, Nat.reduceAdd, Nat.reduceSub, Nat.reduceMul, Nat.reduceEqDiff, Nat.reduceLeDiff, Nat.reduceBEq, reduceCtorEq, LB.impl_inLines_0, hn, h1]
    exact ⟨_, rfl⟩
  | succ m ih =>
    intro i hi
    rw [lw_eq]
    have hlt : (i : Int) < (n : Int) := by omega
    obtain ⟨t, ht⟩ := get_some' (l := ss) (i := i) (by omega)
    have hb := linesOf_len (ss.take i) fun s hs => hw s (List.mem_of_mem_take hs)
    have hl := hw t (List.mem_of_getElem? ht)
    rw [List.length_take] at hb
    have hb2 : (linesOf (ss.take i)).length ≤ Lm * (Lm + 1) := Nat.le_trans hb (Nat.mul_le_mul_right _ (by omega))
    unfold Lm at hlim hb2 hl
    have g := getmap (f := S) ht
    have a1 := addr_i (τ := τ) (T := []) (e := 1) g rfl
    have e1 : w64 ((i : Int) + 1) = ((i + 1 : Nat) : Int) := by rw [w64_id] <;> omega
    have s1 : binV .add (S t) (S [10]) = _ := binS_add (by simp only [List.length_cons, List.length_nil]; omega)
    have s2 : binV .add (S (linesOf (ss.take i))) (S (t ++ [10])) = _ := binS_add (by simp only [List.length_append, List.length_cons, List.length_nil]; omega)
    have i1 := ih (i + 1) (by omega)
    rw [linesOf_next ht] at i1
    simp only [go_sem, Nat.reduceAdd, Nat.reduceSub, Nat.reduceMul, Nat.reduceEqDiff, Nat.reduceLeDiff, Nat.reduceBEq, reduceCtorEq, LB.impl_inLines_0, hn, hlt, a1, g, e1, s1, s2]
    exact i1
theorem impl_inLines_ok (τ : Bool) (ss : List Str) (hlim : ss.length ≤ Lm) (hw : ∀ s ∈ ss, s.length ≤ Lm) : cr progA F.impl_inLines [.i τ (ss.map S)] = some (S (linesOf ss)) := by
  obtain ⟨a, h⟩ := inLines_loop τ ss ss.length rfl hlim hw ss.length 0 (by omega)
  simp only [Int.natCast_zero, List.take_zero, linesOf] at h
  rw [cr_fn pA_impl_inLines rfl]
  simp only [go_sem, Nat.reduceAdd, Nat.reduceSub, Nat.reduceMul, Nat.reduceEqDiff, Nat.reduceLeDiff, Nat.reduceBEq, reduceCtorEq, A.impl_inLines, h]
theorem spec_ShowSession_ok (x : Se) (hw : wSe x) (v : V) (h : bSe x v) : cr progA F.spec_ShowSession [v] = some (S (linesOf x.lines)) := by
  obtain ⟨τ0, vs0, τ1, vs1, τ2, τ3, rfl, h0, h1⟩ := h
  have e := spec_l31Lines_ok τ3 x.lines hw.2.2.1.1 hw.2.2.1.2
  rw [cr_fn pA_spec_ShowSession rfl]
  simp only [go_sem, Nat.reduceAdd, Nat.reduceSub, Nat.reduceMul, Nat.reduceEqDiff, Nat.reduceLeDiff, Nat.reduceBEq, reduceCtorEq, A.spec_ShowSession, e]
theorem impl_ShowSession_ok (x : Se) (hw : wSe x) (v : V) (h : bSe x v) : cr progA F.impl_ShowSession [v] = some (S (linesOf x.lines)) := by
  obtain ⟨τ0, vs0, τ1, vs1, τ2, τ3, rfl, h0, h1⟩ := h
  have e := impl_inLines_ok τ3 x.lines hw.2.2.1.1 hw.2.2.1.2
  rw [cr_fn pA_impl_ShowSession rfl]
  simp only [go_sem, Nat.reduceAdd, Nat.reduceSub, Nat.reduceMul, Nat.reduceEqDiff, Nat.reduceLeDiff, Nat.reduceBEq, reduceCtorEq, A.impl_ShowSession, e]
theorem cr_true {f : Nat} {xs : List V} (hs : cr progA f xs = some (B true)) : ∃ outs, cw progA f xs = some (B true, outs) := by
  unfold cr at hs
  cases hc : cw progA f xs with
  | none => rw [hc] at hs; cases hs
  | some r => rw [hc] at hs; obtain ⟨a, b⟩ := r; simp only [Option.map_some, Option.some.injEq] at hs; subst hs; exact ⟨b, rfl⟩
theorem law_ShowSession (x : Se) (hw : wSe x) (v : V) (h : bSe x v) : ∃ outs, cw progA F.laws_FnExactShowSession [v] = some (B true, outs) := by
  apply cr_true
  obtain ⟨m, hm⟩ := szSession_ok x hw v 1048576 h
  have ht := toSession_ok x hw v h
  have hp1 := spec_ShowSession_ok x hw _ (b_iSe false x)
  have hp2 := impl_ShowSession_ok x hw _ (b_iSe true x)
  have he := eqSession_ok x hw x _ _ (b_iSe true x) (b_iSe false x)
  have d1 : decide (x = x) = true := decide_eq_true rfl
  rw [d1] at he
  simp only [iSe] at hp1 hp2 he
  simp only [oSe] at ht
  obtain ⟨τ0, vs0, τ1, vs1, τ2, τ3, rfl, h0, h1⟩ := h
  rw [cr_fn pA_laws_FnExactShowSession rfl]
  by_cases hneg : m < 0
  · simp only [go_sem, Nat.reduceAdd, Nat.reduceSub, Nat.reduceMul, Nat.reduceEqDiff, Nat.reduceLeDiff, Nat.reduceBEq, reduceCtorEq, A.laws_FnExactShowSession, hm, hneg]
  · simp only [go_sem, Nat.reduceAdd, Nat.reduceSub, Nat.reduceMul, Nat.reduceEqDiff, Nat.reduceLeDiff, Nat.reduceBEq, reduceCtorEq, A.laws_FnExactShowSession, hm, hneg, ht, hp1, hp2, he]
end Go.Vm
