import Derived.Test.YtehgffojgiefaaaRGS
import Derived.Test.YtehgffojgiefaaaRAf
set_option autoImplicit false
set_option maxRecDepth 100000
set_option linter.unusedSimpArgs false
set_option linter.unusedVariables false
namespace Go.Vm
theorem BT_flat (t : Tm) (v : V) (h : BT t v) : FlatA 4 v := by
  obtain ⟨τ, vs, rfl, -⟩ := BT_shape h; exact ⟨_, rfl, rfl, rfl⟩
theorem eqTermS_of (τ τ' : Bool) (vs vs' : List V) (ts ts' : List Tm) (hv : RL BT ts vs) (hv' : RL BT ts' vs') (hw : ts.length ≤ Lm)
    (hc : ∀ t ∈ ts, ∀ t' v v', BT t v → BT t' v' → cr progA F.laws_eqTerm [v, v'] = some (B (decide (t = t')))) :
    cr progA F.laws_eqTermS [.i τ vs, .i τ' vs'] = some (B (decide (ts = ts'))) := by
  have := eqS_ok (prog := progA) F.laws_eqTermS F.laws_eqTerm 4 rfl BT_flat τ τ' vs vs' ts ts' hv hv' hw (fun t ht t' v v' h h' => by rw [hc t ht t' v v' h h'])
  rw [this]
theorem eqTerm_ok : ∀ (t : Tm), WT t → ∀ t' v v', BT t v → BT t' v' → cr progA F.laws_eqTerm [v, v'] = some (B (decide (t = t'))) := by
  refine Tm.ind ?_
  intro k s n ks ih hw t' v v' hb hb'
  obtain ⟨k', s', n', ks'⟩ := t'
  obtain ⟨τ, vs, rfl, hv⟩ := BT_shape hb
  obtain ⟨τ', vs', rfl, hv'⟩ := BT_shape hb'
  have h := eqTermS_of τ τ' vs vs' ks ks' hv hv' (WT_len hw) (fun t ht => ih t ht (WT_kids hw t ht))
  rw [cr_fn pA_laws_eqTerm rfl]
  simp only [go_sem, Nat.reduceAdd, Nat.reduceSub, Nat.reduceMul, Nat.reduceEqDiff, Nat.reduceLeDiff, Nat.reduceBEq, reduceCtorEq, A.laws_eqTerm, h, Tm.mk.injEq]
  by_cases e1 : k = k' <;> by_cases e2 : s = s' <;> by_cases e3 : n = n' <;> by_cases e4 : ks = ks' <;> simp [e1, e2, e3, e4]
theorem eqTermS_ok (τ τ' : Bool) (vs vs' : List V) (ts ts' : List Tm) (hv : RL BT ts vs) (hv' : RL BT ts' vs') (hw : ts.length ≤ Lm) (hw' : ∀ t ∈ ts, WT t) :
    cr progA F.laws_eqTermS [.i τ vs, .i τ' vs'] = some (B (decide (ts = ts'))) :=
  eqTermS_of τ τ' vs vs' ts ts' hv hv' hw fun t ht => eqTerm_ok t (hw' t ht)
theorem szTerm_ok : ∀ (t : Tm), WT t → ∀ v left, BT t v → ∃ m, cr progA F.laws_szTerm [v, I left] = some (I m) := by
  refine Tm.ind ?_
  intro k s n ks ih hw v left hb
  obtain ⟨τ, vs, rfl, hv⟩ := BT_shape hb
  rw [cr_fn pA_laws_szTerm rfl]
  by_cases h1 : w64 (left - s.length) < 0
  · simp only [go_sem, Nat.reduceAdd, Nat.reduceSub, Nat.reduceMul, Nat.reduceEqDiff, Nat.reduceLeDiff, Nat.reduceBEq, reduceCtorEq, A.laws_szTerm, h1]; exact ⟨_, rfl⟩
  · obtain ⟨m, hm⟩ := szS_ok (prog := progA) F.laws_szTermS F.laws_szTerm 4 rfl BT_flat τ vs ks hv (WT_len hw) (fun t ht v left h => ih t ht (WT_kids hw t ht) v left h) (w64 (left - s.length))
    by_cases h2 : m < 0
    · simp only [go_sem, Nat.reduceAdd, Nat.reduceSub, Nat.reduceMul, Nat.reduceEqDiff, Nat.reduceLeDiff, Nat.reduceBEq, reduceCtorEq, A.laws_szTerm, h1, hm, h2]; exact ⟨_, rfl⟩
    · simp only [go_sem, Nat.reduceAdd, Nat.reduceSub, Nat.reduceMul, Nat.reduceEqDiff, Nat.reduceLeDiff, Nat.reduceBEq, reduceCtorEq, A.laws_szTerm, h1, hm, h2]; exact ⟨_, rfl⟩
theorem szTermS_ok (τ : Bool) (vs : List V) (ts : List Tm) (hv : RL BT ts vs) (hw : ts.length ≤ Lm) (hw' : ∀ t ∈ ts, WT t) (left : Int) : ∃ m, cr progA F.laws_szTermS [.i τ vs, I left] = some (I m) :=
  szS_ok (prog := progA) F.laws_szTermS F.laws_szTerm 4 rfl BT_flat τ vs ts hv hw (fun t ht v left h => szTerm_ok t (hw' t ht) v left h) left
end Go.Vm
