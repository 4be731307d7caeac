import Derived.Test.YtehgffojgiefaaaT03
import Derived.Test.YtehgffojgiefaaaT04

set_option autoImplicit false
set_option maxRecDepth 100000
set_option linter.unusedSimpArgs false
set_option linter.unusedVariables false
namespace Go.Vm
theorem BT_flat (t : Tm) (v : V) (h : BT t v) : FlatA 4 v := by
  obtain ⟨τ, vs, rfl, -⟩ := BT_shape h; exact ⟨_, rfl, rfl, rfl⟩
theorem eqTermS_of (τ τ' : Bool) (vs vs' : List V) (ts ts' : List Tm) (hv : RL BT ts vs) (hv' : RL BT ts' vs') (hw : ts.length ≤ Lm)
    (hc : ∀ t ∈ ts, ∀ t' v v', BT t v → BT t' v' → cr progA F.laws_eqTerm [v, v'] = some (B (decide (t = t')))) :
    cr progA F.laws_eqTermS [.i τ vs, .i τ' vs'] = some (B (decide (ts = ts'))) := by
  have := eqS_ok (prog := progA) F.laws_eqTermS F.laws_eqTerm 4 rfl BT_flat τ τ' vs vs' ts ts' hv hv' hw (fun t ht t' v v' h h' => by rw [hc t ht t' v v' h h'])
  rw [this]
theorem eqTerm_ok : ∀ (t : Tm), WT t → ∀ t' v v', BT t v → BT t' v' → cr progA F.laws_eqTerm [v, v'] = some (B (decide (t = t'))) := by
  refine Tm.ind ?_
  intro k s n ks ih hw t' v v' hb hb'
  obtain ⟨k', s', n', ks'⟩ := t'
  obtain ⟨τ, vs, rfl, hv⟩ := BT_shape hb
  obtain ⟨τ', vs', rfl, hv'⟩ := BT_shape hb'
  have h := eqTermS_of τ τ' vs vs' ks ks' hv hv' (WT_len hw) (fun t ht => ih t ht (WT_kids hw t ht))
  rw [cr_fn pA_laws_eqTerm rfl]
  simp only [go_sem, Nat.reduceAdd, Nat.reduceSub, Nat.reduceMul, Nat.reduceEqDiff, Nat.reduceLeDiff, Nat.reduceBEq, reduceCtorEq, A.laws_eqTerm, h, Tm.mk.injEq]
  by_cases e1 : k = k' <;> by_cases e2 : s = s' <;> by_cases e3 : n = n' <;> by_cases e4 : ks = ks' <;> simp [e1, e2, e3, e4]
theorem eqTermS_ok (τ τ' : Bool) (vs vs' : List V) (ts ts' : List Tm) (hv : RL BT ts vs) (hv' : RL BT ts' vs') (hw : ts.length ≤ Lm) (hw' : ∀ t ∈ ts, WT t) :
    cr progA F.laws_eqTermS [.i τ vs, .i τ' vs'] = some (B (decide (ts = ts'))) :=
  eqTermS_of τ τ' vs vs' ts ts' hv hv' hw fun t ht => eqTerm_ok t (hw' t ht)
theorem szTerm_ok : ∀ (t : Tm), WT t → ∀ v left, BT t v → ∃ m, cr progA F.laws_szTerm [v, I left] = some (I m) := by
  refine Tm.ind ?_
  intro k s n ks ih hw v left hb
  obtain ⟨τ, vs, rfl, hv⟩ := BT_shape hb
  rw [cr_fn pA_laws_szTerm rfl]
  by_cases h1 : w64 (left - s.length) < 0
  · simp only [go_sem, Nat.reduceAdd, Nat.reduceSub, Nat.reduceMul, Nat.reduceEqDiff, Nat.reduceLeDiff, Nat.reduceBEq, reduceCtorEq, A.laws_szTerm, h1]; exact ⟨_, rfl⟩
  · obtain ⟨m, hm⟩ := szS_ok (prog := progA) F.laws_szTermS F.laws_szTerm 4 rfl BT_flat τ vs ks hv (WT_len hw) (fun t ht v left h => ih t ht (WT_kids hw t ht) v left h) (w64 (left - s.length))
    by_cases h2 : m < 0
    · simp only [go_sem, Nat.reduceAdd, Nat.reduceSub, Nat.reduceMul, Nat.reduceEqDiff, Nat.reduceLeDiff, Nat.reduceBEq, reduceCtorEq, A.laws_szTerm, h1, hm, h2]; exact ⟨_, rfl⟩
    · simp only [go_sem, Nat.reduceAdd, Nat.reduceSub, Nat.reduceMul, Nat.reduceEqDiff, Nat.reduceLeDiff, Nat.reduceBEq, reduceCtorEq, A.laws_szTerm, h1, hm, h2]; exact ⟨_, rfl⟩
theorem szTermS_ok (τ : Bool) (vs : List V) (ts : List Tm) (hv : RL BT ts vs) (hw : ts.length ≤ Lm) (hw' : ∀ t ∈ ts, WT t) (left : Int) : ∃ m, cr progA F.laws_szTermS [.i τ vs, I left] = some (I m) :=
  szS_ok (prog := progA) F.laws_szTermS F.laws_szTerm 4 rfl BT_flat τ vs ts hv hw (fun t ht v left h => szTerm_ok t (hw' t ht) v left h) left
end Go.Vm

set_option autoImplicit false
set_option maxRecDepth 100000
set_option linter.unusedSimpArgs false
set_option linter.unusedVariables false
namespace Go.Vm
theorem toTermS_loop (τ : Bool) (vs : List V) (ts : List Tm) (n : Nat) (hl : ts.length = n) (hv : RL BT ts vs) (hlim : n ≤ Lm)
    (hc : ∀ t ∈ ts, ∀ v, BT t v → cr progA F.laws_toTerm [v] = some (oT t)) (m : Nat) : ∀ i, i + m = n →
    lw progA L.laws_toTermS_0 ⟨[(0, .i τ vs), (3, .s (100000, 0) 0 n), (4, I i)], [((100000, 0), 4, (ts.take i).map oT ++ List.replicate m (.a [I 0, S [], I 0, .n 4]))]⟩ =
      some (.exit 0, ⟨[(3, .s (100000, 0) 0 n)], [((100000, 0), 4, ts.map oT)]⟩) := by
  unfold Lm at hlim
  have hn := RL_length hv
  rw [hl] at hn
  induction m with
  | zero =>
    intro i hi
    obtain rfl : i = n := by omega
    rw [lw_eq]
    have h1 : ¬ (i : Int) < (i : Int) := by omega
    have h2 : (ts.take i).map oT ++ List.replicate 0 (V.a [I 0, S [], I 0, .n 4]) = ts.map oT := by simp [List.take_of_length_le (Nat.le_of_eq hl)]
    rw [h2]
    simp only [go_sem, Nat.reduceAdd, Nat.reduceSub, Nat.reduceMul, Nat.reduceEqDiff, Nat.reduceLeDiff, Nat.reduceBEq, reduceCtorEq, LB.laws_toTermS_0, hn, h1]
  | succ m ih =>
    intro i hi
    rw [lw_eq]
    have hlt : (i : Int) < (n : Int) := by omega
    obtain ⟨t, ht⟩ := get_some' (l := ts) (i := i) (by omega)
    obtain ⟨v, g, hb⟩ := RL_get hv ht
    have hcc := hc t (List.mem_of_getElem? ht) v hb
    have a1 := addr_i (τ := τ) (T := [((100000, 0), 4, (ts.take i).map oT ++ List.replicate (m + 1) (V.a [I 0, S [], I 0, .n 4]))]) g (BT_cells hb)
    have e1 : w64 ((i : Int) + 1) = ((i + 1 : Nat) : Int) := by rw [w64_id] <;> omega
    have r1 := row_len (f := oT) (z := V.a [I 0, S [], I 0, .n 4]) ts i (m + 1) n hi hl
    have r2 := row_get (f := oT) (z := V.a [I 0, S [], I 0, .n 4]) ts i m (by omega)
    have r3 := fun x => row_set (f := oT) (z := V.a [I 0, S [], I 0, .n 4]) (x := x) ts i m (by omega)
    have r4 := row_next (f := oT) ht (List.replicate m (V.a [I 0, S [], I 0, .n 4]))
    have i1 := ih (i + 1) (by omega)
    obtain ⟨σ1, ks, rfl, -⟩ := BT_shape hb
    rw [oT_mk] at hcc r4
    have kl : ∀ d, killL d ((ts.take i).map oT ++ List.replicate (m + 1) (V.a [I 0, S [], I 0, .n 4])) = (ts.take i).map oT ++ List.replicate (m + 1) (V.a [I 0, S [], I 0, .n 4]) := fun d => by
      rw [killL_app, killL_mT, killL_rep]; rfl
    have ix := ixO_some (k := (100000, 0)) (e := 4) (xs := (ts.take i).map oT ++ List.replicate (m + 1) (V.a [I 0, S [], I 0, .n 4])) (i := i) (len := n) (by omega) (by omega)
    have rp := fun k ob (y : V) (ys : List V) => repEs_app k ob ((ts.take i).map oT) (y :: ys) (clEs_mT _)
    simp only [go_sem, Nat.reduceAdd, Nat.reduceSub, Nat.reduceMul, Nat.reduceEqDiff, Nat.reduceLeDiff, Nat.reduceBEq, reduceCtorEq, LB.laws_toTermS_0, hn, hlt, a1, g, hcc, e1, kl, ix, r1, r2, r3, rp, Option.map_some, r4]
    exact i1
theorem toTermS_of (τ : Bool) (vs : List V) (ts : List Tm) (hv : RL BT ts vs) (hlim : ts.length ≤ Lm)
    (hc : ∀ t ∈ ts, ∀ v, BT t v → cr progA F.laws_toTerm [v] = some (oT t)) : cr progA F.laws_toTermS [.i τ vs] = some (.o 4 (ts.map oT)) := by
  rw [cr_fn pA_laws_toTermS rfl]
  have h := toTermS_loop τ vs ts ts.length rfl hv hlim hc ts.length 0 (by omega)
  simp only [Int.natCast_zero, List.take_zero, List.map_nil, List.nil_append] at h
  unfold Lm at hlim
  have mk := fun σ T => mkK_nat (σ := σ) (T := T) (e := 4) (bytes := 56) (z := V.a [I 0, S [], I 0, .n 4]) (n := ts.length) (d := 7) (by rw [lim_val]; omega) (by rw [lim_val]; omega) rfl rfl rfl
  simp only [go_sem, Nat.reduceAdd, Nat.reduceSub, Nat.reduceMul, Nat.reduceEqDiff, Nat.reduceLeDiff, Nat.reduceBEq, reduceCtorEq, A.laws_toTermS, RL_length hv, mk, h]
theorem toTerm_ok : ∀ (t : Tm), WT t → ∀ v, BT t v → cr progA F.laws_toTerm [v] = some (oT t) := by
  refine Tm.ind ?_
  intro k s n ks ih hw v hb
  obtain ⟨τ, vs, rfl, hv⟩ := BT_shape hb
  have h := toTermS_of τ vs ks hv (WT_len hw) (fun t ht => ih t ht (WT_kids hw t ht))
  rw [cr_fn pA_laws_toTerm rfl, oT_mk]
  simp only [go_sem, Nat.reduceAdd, Nat.reduceSub, Nat.reduceMul, Nat.reduceEqDiff, Nat.reduceLeDiff, Nat.reduceBEq, reduceCtorEq, A.laws_toTerm, h]
theorem toTermS_ok (τ : Bool) (vs : List V) (ts : List Tm) (hv : RL BT ts vs) (hlim : ts.length ≤ Lm) (hw' : ∀ t ∈ ts, WT t) : cr progA F.laws_toTermS [.i τ vs] = some (.o 4 (ts.map oT)) :=
  toTermS_of τ vs ts hv hlim fun t ht v h => toTerm_ok t (hw' t ht) v h
end Go.Vm

set_option autoImplicit false
set_option maxRecDepth 100000
set_option linter.unusedSimpArgs false
set_option linter.unusedVariables false
namespace Go.Vm
theorem getmap {α : Type} {f : α → V} {l : List α} {i : Nat} {x : α} (h : l[i]? = some x) : (l.map f)[i]? = some (f x) := by simp [h]
theorem szStringS_loop (τ : Bool) (ss : List Str) (hlim : ss.length ≤ Lm) : ∀ left,
    (∃ r, lw progA L.laws_szStringS_0 ⟨[(0, .i τ (ss.map S)), (1, I left), (5, I 0)], []⟩ = some (.exit 0, ⟨[(1, I r)], []⟩)) ∨
    lw progA L.laws_szStringS_0 ⟨[(0, .i τ (ss.map S)), (1, I left), (5, I 0)], []⟩ = some (.ret, ⟨[(4, I (-1))], []⟩) := by
  refine for_ind ss (fun i r => ∀ left, (∃ r, lw progA L.laws_szStringS_0 ⟨[(0, .i τ (ss.map S)), (1, I left), (5, I i)], []⟩ = some (.exit 0, ⟨[(1, I r)], []⟩)) ∨
    lw progA L.laws_szStringS_0 ⟨[(0, .i τ (ss.map S)), (1, I left), (5, I i)], []⟩ = some (.ret, ⟨[(4, I (-1))], []⟩)) (by unfold Lm at hlim; omega) ?_ ?_
  · intro left
    refine .inl ⟨left, ?_⟩
    rw [lw_eq]
    simp only [go_sem, Nat.reduceAdd, Nat.reduceSub, Nat.reduceMul, Nat.reduceEqDiff, Nat.reduceLeDiff, Nat.reduceBEq, reduceCtorEq, LB.laws_szStringS_0]
  · intro i t r ht hi hlt e1 hir hm hr ih left
    have g := getmap (f := S) ht
    have a1 := addr_i (τ := τ) (T := []) (e := 1) g rfl
    rw [lw_eq]
    by_cases hneg : w64 (left - t.length) < 0
    · right; simp only [go_sem, Nat.reduceAdd, Nat.reduceSub, Nat.reduceMul, Nat.reduceEqDiff, Nat.reduceLeDiff, Nat.reduceBEq, reduceCtorEq, LB.laws_szStringS_0, hlt, a1, g, e1, hneg]
    · have := ih (w64 (left - t.length))
      simp only [go_sem, Nat.reduceAdd, Nat.reduceSub, Nat.reduceMul, Nat.reduceEqDiff, Nat.reduceLeDiff, Nat.reduceBEq, reduceCtorEq, LB.laws_szStringS_0, hlt, a1, g, e1, hneg]
      exact this
theorem szStringS_ok (τ : Bool) (ss : List Str) (hw : ss.length ≤ Lm) (left : Int) : ∃ m, cr progA F.laws_szStringS [.i τ (ss.map S), I left] = some (I m) := by
  rw [cr_fn pA_laws_szStringS rfl]
  by_cases hneg : w64 (left - ss.length) < 0
  · simp only [go_sem, Nat.reduceAdd, Nat.reduceSub, Nat.reduceMul, Nat.reduceEqDiff, Nat.reduceLeDiff, Nat.reduceBEq, reduceCtorEq, A.laws_szStringS, hneg]
    exact ⟨_, rfl⟩
  · rcases szStringS_loop τ ss hw (w64 (left - ss.length)) with ⟨r, h⟩ | h
    · simp only [go_sem, Nat.reduceAdd, Nat.reduceSub, Nat.reduceMul, Nat.reduceEqDiff, Nat.reduceLeDiff, Nat.reduceBEq, reduceCtorEq, A.laws_szStringS, hneg, h]
      exact ⟨_, rfl⟩
    · simp only [go_sem, Nat.reduceAdd, Nat.reduceSub, Nat.reduceMul, Nat.reduceEqDiff, Nat.reduceLeDiff, Nat.reduceBEq, reduceCtorEq, A.laws_szStringS, hneg, h]
      exact ⟨_, rfl⟩
theorem toStringS_loop (τ : Bool) (ts : List Str) (n : Nat) (hl : ts.length = n) (hlim : n ≤ Lm) (m : Nat) : ∀ i, i + m = n →
    lw progA L.laws_toStringS_0 ⟨[(0, .i τ (ts.map S)), (3, .s (100000, 0) 0 n), (4, I i)], [((100000, 0), 1, (ts.take i).map S ++ List.replicate m (S []))]⟩ =
      some (.exit 0, ⟨[(3, .s (100000, 0) 0 n)], [((100000, 0), 1, ts.map S)]⟩) := by
  unfold Lm at hlim
  induction m with
  | zero =>
    intro i hi
    obtain rfl : i = n := by omega
    rw [lw_eq]
    have h1 : ¬ (i : Int) < (i : Int) := by omega
    have h2 : (ts.take i).map S ++ List.replicate 0 (S []) = ts.map S := by simp [List.take_of_length_le (Nat.le_of_eq hl)]
    rw [h2]
    simp only [go_sem, Nat.reduceAdd, Nat.reduceSub, Nat.reduceMul, Nat.reduceEqDiff, Nat.reduceLeDiff, Nat.reduceBEq, reduceCtorEq, LB.laws_toStringS_0, hl, h1]
  | succ m ih =>
    intro i hi
    rw [lw_eq]
    have hlt : (i : Int) < (n : Int) := by omega
    obtain ⟨t, ht⟩ := get_some' (l := ts) (i := i) (by omega)
    have g := getmap (f := S) ht
    have a1 := addr_i (τ := τ) (e := 1) (T := [((100000, 0), 1, (ts.take i).map S ++ List.replicate (m + 1) (S []))]) g rfl
    have e1 : w64 ((i : Int) + 1) = ((i + 1 : Nat) : Int) := by rw [w64_id] <;> omega
    have r1 := row_len (f := S) (z := S []) ts i (m + 1) n hi hl
    have r2 := row_get (f := S) (z := S []) ts i m (by omega)
    have r3 := fun x => row_set (f := S) (z := S []) (x := x) ts i m (by omega)
    have r4 := row_next (f := S) ht (List.replicate m (S []))
    have i1 := ih (i + 1) (by omega)
    have kl : ∀ d, killL d ((ts.take i).map S ++ List.replicate (m + 1) (S [])) = (ts.take i).map S ++ List.replicate (m + 1) (S []) := fun d => by
      rw [killL_app, killL_S, killL_rep]; rfl
    have ix := ixO_some (k := (100000, 0)) (e := 1) (xs := (ts.take i).map S ++ List.replicate (m + 1) (S [])) (i := i) (len := n) (by omega) (by omega)
    simp only [go_sem, Nat.reduceAdd, Nat.reduceSub, Nat.reduceMul, Nat.reduceEqDiff, Nat.reduceLeDiff, Nat.reduceBEq, reduceCtorEq, LB.laws_toStringS_0, hl, hlt, a1, g, e1, kl, ix, r1, r2, r3, Option.map_some, r4]
    exact i1
theorem toStringS_ok (τ : Bool) (ts : List Str) (hlim : ts.length ≤ Lm) : cr progA F.laws_toStringS [.i τ (ts.map S)] = some (.o 1 (ts.map S)) := by
  rw [cr_fn pA_laws_toStringS rfl]
  have h := toStringS_loop τ ts ts.length rfl hlim ts.length 0 (by omega)
  simp only [Int.natCast_zero, List.take_zero, List.map_nil, List.nil_append] at h
  unfold Lm at hlim
  have mk := fun σ T => mkK_nat (σ := σ) (T := T) (e := 1) (bytes := 16) (z := S []) (n := ts.length) (d := 7) (by rw [lim_val]; omega) (by rw [lim_val]; omega) rfl rfl rfl
  simp only [go_sem, Nat.reduceAdd, Nat.reduceSub, Nat.reduceMul, Nat.reduceEqDiff, Nat.reduceLeDiff, Nat.reduceBEq, reduceCtorEq, A.laws_toStringS, mk, h]
theorem eqStringS_loop (τ τ' : Bool) (ts ts' : List Str) (hl : ts'.length = ts.length) (hlim : ts.length ≤ Lm) :
    lw progA L.laws_eqStringS_0 ⟨[(0, .i τ (ts.map S)), (1, .i τ' (ts'.map S)), (5, I 0)], []⟩ = if ts = ts' then some (.exit 0, ⟨[], []⟩) else some (.ret, ⟨[(4, B false)], []⟩) := by
  refine for_ind ts (fun i r => lw progA L.laws_eqStringS_0 ⟨[(0, .i τ (ts.map S)), (1, .i τ' (ts'.map S)), (5, I i)], []⟩ = if r = ts'.drop i then some (.exit 0, ⟨[], []⟩) else some (.ret, ⟨[(4, B false)], []⟩)) (by unfold Lm at hlim; omega) ?_ ?_
  · rw [List.drop_eq_nil_of_le (by omega), if_pos rfl, lw_eq]
    simp only [go_sem, Nat.reduceAdd, Nat.reduceSub, Nat.reduceMul, Nat.reduceEqDiff, Nat.reduceLeDiff, Nat.reduceBEq, reduceCtorEq, LB.laws_eqStringS_0]
  · intro i t r ht hi hlt e1 hir hm hr ih
    obtain ⟨t', ht'⟩ := get_some' (l := ts') (i := i) (by omega)
    have g := getmap (f := S) ht
    have g' := getmap (f := S) ht'
    have a1 := addr_i (τ := τ) (T := []) (e := 1) g rfl
    have a2 := addr_i (τ := τ') (T := []) (e := 1) g' rfl
    rw [drop_cons' ht', lw_eq]
    by_cases he : t = t'
    · subst he
      have : (t :: r = t :: ts'.drop (i + 1)) = (r = ts'.drop (i + 1)) := by simp
      simp only [this]
      rw [← ih]
      simp only [go_sem, Nat.reduceAdd, Nat.reduceSub, Nat.reduceMul, Nat.reduceEqDiff, Nat.reduceLeDiff, Nat.reduceBEq, reduceCtorEq, LB.laws_eqStringS_0, hlt, a1, a2, g, g', e1]
    · rw [if_neg (fun h => he (by cases h; rfl))]
      simp only [go_sem, Nat.reduceAdd, Nat.reduceSub, Nat.reduceMul, Nat.reduceEqDiff, Nat.reduceLeDiff, Nat.reduceBEq, reduceCtorEq, LB.laws_eqStringS_0, hlt, a1, a2, g, g', e1, he]
theorem eqStringS_ok (τ τ' : Bool) (ts ts' : List Str) (hw : ts.length ≤ Lm) :
    cr progA F.laws_eqStringS [.i τ (ts.map S), .i τ' (ts'.map S)] = some (B (decide (ts = ts'))) := by
  rw [cr_fn pA_laws_eqStringS rfl]
  by_cases hl : ts'.length = ts.length
  · have h := eqStringS_loop τ τ' ts ts' hl hw
    by_cases he : ts = ts'
    · rw [if_pos he] at h
      subst he
      simp only [go_sem, Nat.reduceAdd, Nat.reduceSub, Nat.reduceMul, Nat.reduceEqDiff, Nat.reduceLeDiff, Nat.reduceBEq, reduceCtorEq, A.laws_eqStringS, h]
    · rw [if_neg he] at h
      simp only [go_sem, Nat.reduceAdd, Nat.reduceSub, Nat.reduceMul, Nat.reduceEqDiff, Nat.reduceLeDiff, Nat.reduceBEq, reduceCtorEq, A.laws_eqStringS, hl, h, he]
  · have he : ¬ ts = ts' := fun h => hl (by rw [h])
    have hne : ¬ (ts.length : Int) = ts'.length := by omega
    simp only [go_sem, Nat.reduceAdd, Nat.reduceSub, Nat.reduceMul, Nat.reduceEqDiff, Nat.reduceLeDiff, Nat.reduceBEq, reduceCtorEq, A.laws_eqStringS, hne, he]
/-- terms -/
theorem termS_dummy : True := trivial
end Go.Vm

set_option autoImplicit false
set_option maxRecDepth 100000
set_option linter.unusedSimpArgs false
set_option linter.unusedVariables false
namespace Go.Vm
theorem szClause_ok (x : Cl) (hw : wCl x) (v : V) (left : Int) (h : bCl x v) : ∃ m, cr progA F.laws_szClause [v, I left] = some (I m) := by
  obtain ⟨τ0, vs0, τ1, vs1, rfl, h0, h1⟩ := h
  rw [cr_fn pA_laws_szClause rfl]
  obtain ⟨m1, e1⟩ := szTerm_ok x.head (hw.1).1 _ left (BT_of (τ := τ0) h0)
  by_cases n1 : m1 < 0
  · simp only [go_sem, Nat.reduceAdd, Nat.reduceSub, Nat.reduceMul, Nat.reduceEqDiff, Nat.reduceLeDiff, Nat.reduceBEq, reduceCtorEq, A.laws_szClause, e1, n1]; exact ⟨_, rfl⟩
  obtain ⟨m2, e2⟩ := szTerm_ok x.body (hw.2.1).1 _ m1 (BT_of (τ := τ1) h1)
  by_cases n2 : m2 < 0
  · simp only [go_sem, Nat.reduceAdd, Nat.reduceSub, Nat.reduceMul, Nat.reduceEqDiff, Nat.reduceLeDiff, Nat.reduceBEq, reduceCtorEq, A.laws_szClause, e1, n1, e2, n2]; exact ⟨_, rfl⟩
  by_cases n3 : w64 (m2 - x.file.length) < 0
  · simp only [go_sem, Nat.reduceAdd, Nat.reduceSub, Nat.reduceMul, Nat.reduceEqDiff, Nat.reduceLeDiff, Nat.reduceBEq, reduceCtorEq, A.laws_szClause, e1, n1, e2, n2, n3]; exact ⟨_, rfl⟩
  simp only [go_sem, Nat.reduceAdd, Nat.reduceSub, Nat.reduceMul, Nat.reduceEqDiff, Nat.reduceLeDiff, Nat.reduceBEq, reduceCtorEq, A.laws_szClause, e1, n1, e2, n2, n3]; exact ⟨_, rfl⟩
theorem toClause_ok (x : Cl) (hw : wCl x) (v : V) (h : bCl x v) : cr progA F.laws_toClause [v] = some (oCl x) := by
  obtain ⟨τ0, vs0, τ1, vs1, rfl, h0, h1⟩ := h
  have e1 := toTerm_ok x.head (hw.1).1 _ (BT_of (τ := τ0) h0)
  rw [oT_mk] at e1
  have e2 := toTerm_ok x.body (hw.2.1).1 _ (BT_of (τ := τ1) h1)
  rw [oT_mk] at e2
  rw [cr_fn pA_laws_toClause rfl, oCl]
  simp only [go_sem, Nat.reduceAdd, Nat.reduceSub, Nat.reduceMul, Nat.reduceEqDiff, Nat.reduceLeDiff, Nat.reduceBEq, reduceCtorEq, A.laws_toClause, e1, e2]
theorem eqClause_ok (x : Cl) (hw : wCl x) (y : Cl) (v v' : V) (h : bCl x v) (h' : bCl y v') : cr progA F.laws_eqClause [v, v'] = some (B (decide (x = y))) := by
  obtain ⟨τ0, vs0, τ1, vs1, rfl, h0, h1⟩ := h
  obtain ⟨τ0', vs0', τ1', vs1', rfl, h0', h1'⟩ := h'
  have e1 := eqTerm_ok x.head (hw.1).1 y.head _ _ (BT_of (τ := τ0) h0) (BT_of (τ := τ0') h0')
  have e2 := eqTerm_ok x.body (hw.2.1).1 y.body _ _ (BT_of (τ := τ1) h1) (BT_of (τ := τ1') h1')
  rw [cr_fn pA_laws_eqClause rfl]
  by_cases c0 : x.head = y.head
  case neg =>
    have d0 : decide (x.head = y.head) = false := decide_eq_false c0
    have hf : decide (x = y) = false := decide_eq_false fun h => c0 (by rw [h])
    simp only [go_sem, Nat.reduceAdd, Nat.reduceSub, Nat.reduceMul, Nat.reduceEqDiff, Nat.reduceLeDiff, Nat.reduceBEq, reduceCtorEq, A.laws_eqClause, e1, e2, d0, hf]
  have d0 : decide (x.head = y.head) = true := decide_eq_true c0
  by_cases c1 : x.body = y.body
  case neg =>
    have d1 : decide (x.body = y.body) = false := decide_eq_false c1
    have hf : decide (x = y) = false := decide_eq_false fun h => c1 (by rw [h])
    simp only [go_sem, Nat.reduceAdd, Nat.reduceSub, Nat.reduceMul, Nat.reduceEqDiff, Nat.reduceLeDiff, Nat.reduceBEq, reduceCtorEq, A.laws_eqClause, e1, e2, d0, d1, hf]
  have d1 : decide (x.body = y.body) = true := decide_eq_true c1
  by_cases c2 : x.file = y.file
  case neg =>
    have d2 : decide (x.file = y.file) = false := decide_eq_false c2
    have hf : decide (x = y) = false := decide_eq_false fun h => c2 (by rw [h])
    simp only [go_sem, Nat.reduceAdd, Nat.reduceSub, Nat.reduceMul, Nat.reduceEqDiff, Nat.reduceLeDiff, Nat.reduceBEq, reduceCtorEq, A.laws_eqClause, e1, e2, d0, d1, d2, hf]
  have d2 : decide (x.file = y.file) = true := decide_eq_true c2
  have hf : decide (x = y) = true := decide_eq_true (by cases x; cases y; simp only at c0 c1 c2; simp only [Cl.mk.injEq]; exact ⟨c0, c1, c2⟩)
  simp only [go_sem, Nat.reduceAdd, Nat.reduceSub, Nat.reduceMul, Nat.reduceEqDiff, Nat.reduceLeDiff, Nat.reduceBEq, reduceCtorEq, A.laws_eqClause, e1, e2, d0, d1, d2, hf]
theorem szClauseS_ok (τ : Bool) (vs : List V) (ts : List Cl) (hv : RL bCl ts vs) (hw : ts.length ≤ Lm) (hw' : ∀ t ∈ ts, wCl t) (left : Int) : ∃ m, cr progA F.laws_szClauseS [.i τ vs, I left] = some (I m) :=
  szS_ok (prog := progA) F.laws_szClauseS F.laws_szClause 9 rfl Cl_flat τ vs ts hv hw (fun t ht v left h => szClause_ok t (hw' t ht) v left h) left
theorem eqClauseS_ok (τ τ' : Bool) (vs vs' : List V) (ts ts' : List Cl) (hv : RL bCl ts vs) (hv' : RL bCl ts' vs') (hw : ts.length ≤ Lm) (hw' : ∀ t ∈ ts, wCl t) :
    cr progA F.laws_eqClauseS [.i τ vs, .i τ' vs'] = some (B (decide (ts = ts'))) := by
  have := eqS_ok (prog := progA) F.laws_eqClauseS F.laws_eqClause 9 rfl Cl_flat τ τ' vs vs' ts ts' hv hv' hw (fun t ht t' v v' h h' => by rw [eqClause_ok t (hw' t ht) t' v v' h h'])
  rw [this]
theorem toClauseS_loop (τ : Bool) (vs : List V) (ts : List Cl) (n : Nat) (hl : ts.length = n) (hv : RL bCl ts vs) (hlim : n ≤ Lm)
    (hc : ∀ t ∈ ts, ∀ v, bCl t v → cr progA F.laws_toClause [v] = some (oCl t)) (m : Nat) : ∀ i, i + m = n →
    lw progA L.laws_toClauseS_0 ⟨[(0, .i τ vs), (3, .s (100000, 0) 0 n), (4, I i)], [((100000, 0), 9, (ts.take i).map oCl ++ List.replicate m (V.a [I 0, S [], I 0, .n 4, I 0, S [], I 0, .n 4, S []]))]⟩ =
      some (.exit 0, ⟨[(3, .s (100000, 0) 0 n)], [((100000, 0), 9, ts.map oCl)]⟩) := by
  unfold Lm at hlim
  have hn := RL_length hv
  rw [hl] at hn
  induction m with
  | zero =>
    intro i hi
    obtain rfl : i = n := by omega
    rw [lw_eq]
    have h1 : ¬ (i : Int) < (i : Int) := by omega
    have h2 : (ts.take i).map oCl ++ List.replicate 0 (V.a [I 0, S [], I 0, .n 4, I 0, S [], I 0, .n 4, S []]) = ts.map oCl := by simp [List.take_of_length_le (Nat.le_of_eq hl)]
    rw [h2]
    simp only [go_sem, Nat.reduceAdd, Nat.reduceSub, Nat.reduceMul, Nat.reduceEqDiff, Nat.reduceLeDiff, Nat.reduceBEq, reduceCtorEq, LB.laws_toClauseS_0, hn, h1]
  | succ m ih =>
    intro i hi
    rw [lw_eq]
    have hlt : (i : Int) < (n : Int) := by omega
    obtain ⟨t, ht⟩ := get_some' (l := ts) (i := i) (by omega)
    obtain ⟨v, g, hb⟩ := RL_get hv ht
    have hcc := hc t (List.mem_of_getElem? ht) v hb
    have a1 := addr_i (τ := τ) (T := [((100000, 0), 9, (ts.take i).map oCl ++ List.replicate (m + 1) (V.a [I 0, S [], I 0, .n 4, I 0, S [], I 0, .n 4, S []]))]) g (Cl_flat _ _ hb).cells
    have e1 : w64 ((i : Int) + 1) = ((i + 1 : Nat) : Int) := by rw [w64_id] <;> omega
    have r1 := row_len (f := oCl) (z := V.a [I 0, S [], I 0, .n 4, I 0, S [], I 0, .n 4, S []]) ts i (m + 1) n hi hl
    have r2 := row_get (f := oCl) (z := V.a [I 0, S [], I 0, .n 4, I 0, S [], I 0, .n 4, S []]) ts i m (by omega)
    have r3 := fun x => row_set (f := oCl) (z := V.a [I 0, S [], I 0, .n 4, I 0, S [], I 0, .n 4, S []]) (x := x) ts i m (by omega)
    have r4 := row_next (f := oCl) ht (List.replicate m (V.a [I 0, S [], I 0, .n 4, I 0, S [], I 0, .n 4, S []]))
    have i1 := ih (i + 1) (by omega)
    obtain ⟨τ0, vs0, τ1, vs1, rfl, -, -⟩ := hb
    rw [oCl] at hcc r4
    have kl : ∀ d, killL d ((ts.take i).map oCl ++ List.replicate (m + 1) (V.a [I 0, S [], I 0, .n 4, I 0, S [], I 0, .n 4, S []])) = (ts.take i).map oCl ++ List.replicate (m + 1) (V.a [I 0, S [], I 0, .n 4, I 0, S [], I 0, .n 4, S []]) := fun d => by
      rw [killL_app, killL_mCl, killL_rep]; rfl
    have ix := ixO_some (k := (100000, 0)) (e := 9) (xs := (ts.take i).map oCl ++ List.replicate (m + 1) (V.a [I 0, S [], I 0, .n 4, I 0, S [], I 0, .n 4, S []])) (i := i) (len := n) (by omega) (by omega)
    have rp := fun k ob (y : V) (ys : List V) => repEs_app k ob ((ts.take i).map oCl) (y :: ys) (clEs_mCl _)
    simp only [go_sem, Nat.reduceAdd, Nat.reduceSub, Nat.reduceMul, Nat.reduceEqDiff, Nat.reduceLeDiff, Nat.reduceBEq, reduceCtorEq, LB.laws_toClauseS_0, hn, hlt, a1, g, hcc, e1, kl, ix, r1, r2, r3, rp, Option.map_some, r4]
    exact i1
theorem toClauseS_ok (τ : Bool) (vs : List V) (ts : List Cl) (hv : RL bCl ts vs) (hlim : ts.length ≤ Lm) (hw' : ∀ t ∈ ts, wCl t) : cr progA F.laws_toClauseS [.i τ vs] = some (.o 9 (ts.map oCl)) := by
  rw [cr_fn pA_laws_toClauseS rfl]
  have h := toClauseS_loop τ vs ts ts.length rfl hv hlim (fun t ht v h => toClause_ok t (hw' t ht) v h) ts.length 0 (by omega)
  simp only [Int.natCast_zero, List.take_zero, List.map_nil, List.nil_append] at h
  unfold Lm at hlim
  have mk := fun σ T => mkK_nat (σ := σ) (T := T) (e := 9) (bytes := 128) (z := V.a [I 0, S [], I 0, .n 4, I 0, S [], I 0, .n 4, S []]) (n := ts.length) (d := 7) (by rw [lim_val]; omega) (by rw [lim_val]; omega) rfl rfl rfl
  simp only [go_sem, Nat.reduceAdd, Nat.reduceSub, Nat.reduceMul, Nat.reduceEqDiff, Nat.reduceLeDiff, Nat.reduceBEq, reduceCtorEq, A.laws_toClauseS, RL_length hv, mk, h]
theorem szDb_ok (x : Db) (hw : wDb x) (v : V) (left : Int) (h : bDb x v) : ∃ m, cr progA F.laws_szDb [v, I left] = some (I m) := by
  obtain ⟨τ0, vs0, τ1, rfl, h0⟩ := h
  rw [cr_fn pA_laws_szDb rfl]
  obtain ⟨m1, e1⟩ := szClauseS_ok τ0 vs0 x.clauses h0 (hw.1).1 (hw.1).2 left
  by_cases n1 : m1 < 0
  · simp only [go_sem, Nat.reduceAdd, Nat.reduceSub, Nat.reduceMul, Nat.reduceEqDiff, Nat.reduceLeDiff, Nat.reduceBEq, reduceCtorEq, A.laws_szDb, e1, n1]; exact ⟨_, rfl⟩
  obtain ⟨m2, e2⟩ := szStringS_ok τ1 x.opn (hw.2).1 m1
  by_cases n2 : m2 < 0
  · simp only [go_sem, Nat.reduceAdd, Nat.reduceSub, Nat.reduceMul, Nat.reduceEqDiff, Nat.reduceLeDiff, Nat.reduceBEq, reduceCtorEq, A.laws_szDb, e1, n1, e2, n2]; exact ⟨_, rfl⟩
  simp only [go_sem, Nat.reduceAdd, Nat.reduceSub, Nat.reduceMul, Nat.reduceEqDiff, Nat.reduceLeDiff, Nat.reduceBEq, reduceCtorEq, A.laws_szDb, e1, n1, e2, n2]; exact ⟨_, rfl⟩
theorem toDb_ok (x : Db) (hw : wDb x) (v : V) (h : bDb x v) : cr progA F.laws_toDb [v] = some (oDb x) := by
  obtain ⟨τ0, vs0, τ1, rfl, h0⟩ := h
  have e1 := toClauseS_ok τ0 vs0 x.clauses h0 (hw.1).1 (hw.1).2
  have e2 := toStringS_ok τ1 x.opn (hw.2).1
  rw [cr_fn pA_laws_toDb rfl, oDb]
  simp only [go_sem, Nat.reduceAdd, Nat.reduceSub, Nat.reduceMul, Nat.reduceEqDiff, Nat.reduceLeDiff, Nat.reduceBEq, reduceCtorEq, A.laws_toDb, e1, e2]
theorem eqDb_ok (x : Db) (hw : wDb x) (y : Db) (v v' : V) (h : bDb x v) (h' : bDb y v') : cr progA F.laws_eqDb [v, v'] = some (B (decide (x = y))) := by
  obtain ⟨τ0, vs0, τ1, rfl, h0⟩ := h
  obtain ⟨τ0', vs0', τ1', rfl, h0'⟩ := h'
  have e1 := eqClauseS_ok τ0 τ0' vs0 vs0' x.clauses y.clauses h0 h0' (hw.1).1 (hw.1).2
  have e2 := eqStringS_ok τ1 τ1' x.opn y.opn (hw.2).1
  rw [cr_fn pA_laws_eqDb rfl]
  by_cases c0 : x.clauses = y.clauses
  case neg =>
    have d0 : decide (x.clauses = y.clauses) = false := decide_eq_false c0
    have hf : decide (x = y) = false := decide_eq_false fun h => c0 (by rw [h])
    simp only [go_sem, Nat.reduceAdd, Nat.reduceSub, Nat.reduceMul, Nat.reduceEqDiff, Nat.reduceLeDiff, Nat.reduceBEq, reduceCtorEq, A.laws_eqDb, e1, e2, d0, hf]
  have d0 : decide (x.clauses = y.clauses) = true := decide_eq_true c0
  by_cases c1 : x.opn = y.opn
  case neg =>
    have d1 : decide (x.opn = y.opn) = false := decide_eq_false c1
    have hf : decide (x = y) = false := decide_eq_false fun h => c1 (by rw [h])
    simp only [go_sem, Nat.reduceAdd, Nat.reduceSub, Nat.reduceMul, Nat.reduceEqDiff, Nat.reduceLeDiff, Nat.reduceBEq, reduceCtorEq, A.laws_eqDb, e1, e2, d0, d1, hf]
  have d1 : decide (x.opn = y.opn) = true := decide_eq_true c1
  have hf : decide (x = y) = true := decide_eq_true (by cases x; cases y; simp only at c0 c1; simp only [Db.mk.injEq]; exact ⟨c0, c1⟩)
  simp only [go_sem, Nat.reduceAdd, Nat.reduceSub, Nat.reduceMul, Nat.reduceEqDiff, Nat.reduceLeDiff, Nat.reduceBEq, reduceCtorEq, A.laws_eqDb, e1, e2, d0, d1, hf]
theorem szFile_ok (x : Fl) (hw : wFl x) (v : V) (left : Int) (h : bFl x v) : ∃ m, cr progA F.laws_szFile [v, I left] = some (I m) := by
  obtain rfl := h
  rw [cr_fn pA_laws_szFile rfl]
  by_cases n1 : w64 (left - x.name.length) < 0
  · simp only [go_sem, Nat.reduceAdd, Nat.reduceSub, Nat.reduceMul, Nat.reduceEqDiff, Nat.reduceLeDiff, Nat.reduceBEq, reduceCtorEq, A.laws_szFile, n1]; exact ⟨_, rfl⟩
  by_cases n2 : w64 ((w64 (left - x.name.length)) - x.text.length) < 0
  · simp only [go_sem, Nat.reduceAdd, Nat.reduceSub, Nat.reduceMul, Nat.reduceEqDiff, Nat.reduceLeDiff, Nat.reduceBEq, reduceCtorEq, A.laws_szFile, n1, n2]; exact ⟨_, rfl⟩
  simp only [go_sem, Nat.reduceAdd, Nat.reduceSub, Nat.reduceMul, Nat.reduceEqDiff, Nat.reduceLeDiff, Nat.reduceBEq, reduceCtorEq, A.laws_szFile, n1, n2]; exact ⟨_, rfl⟩
theorem toFile_ok (x : Fl) (hw : wFl x) (v : V) (h : bFl x v) : cr progA F.laws_toFile [v] = some (oFl x) := by
  obtain rfl := h
  rw [cr_fn pA_laws_toFile rfl, oFl]
  simp only [go_sem, Nat.reduceAdd, Nat.reduceSub, Nat.reduceMul, Nat.reduceEqDiff, Nat.reduceLeDiff, Nat.reduceBEq, reduceCtorEq, A.laws_toFile]
theorem eqFile_ok (x : Fl) (hw : wFl x) (y : Fl) (v v' : V) (h : bFl x v) (h' : bFl y v') : cr progA F.laws_eqFile [v, v'] = some (B (decide (x = y))) := by
  obtain rfl := h
  obtain rfl := h'
  rw [cr_fn pA_laws_eqFile rfl]
  by_cases c0 : x.name = y.name
  case neg =>
    have d0 : decide (x.name = y.name) = false := decide_eq_false c0
    have hf : decide (x = y) = false := decide_eq_false fun h => c0 (by rw [h])
    simp only [go_sem, Nat.reduceAdd, Nat.reduceSub, Nat.reduceMul, Nat.reduceEqDiff, Nat.reduceLeDiff, Nat.reduceBEq, reduceCtorEq, A.laws_eqFile, d0, hf]
  have d0 : decide (x.name = y.name) = true := decide_eq_true c0
  by_cases c1 : x.text = y.text
  case neg =>
    have d1 : decide (x.text = y.text) = false := decide_eq_false c1
    have hf : decide (x = y) = false := decide_eq_false fun h => c1 (by rw [h])
    simp only [go_sem, Nat.reduceAdd, Nat.reduceSub, Nat.reduceMul, Nat.reduceEqDiff, Nat.reduceLeDiff, Nat.reduceBEq, reduceCtorEq, A.laws_eqFile, d0, d1, hf]
  have d1 : decide (x.text = y.text) = true := decide_eq_true c1
  have hf : decide (x = y) = true := decide_eq_true (by cases x; cases y; simp only at c0 c1; simp only [Fl.mk.injEq]; exact ⟨c0, c1⟩)
  simp only [go_sem, Nat.reduceAdd, Nat.reduceSub, Nat.reduceMul, Nat.reduceEqDiff, Nat.reduceLeDiff, Nat.reduceBEq, reduceCtorEq, A.laws_eqFile, d0, d1, hf]
theorem szFileS_ok (τ : Bool) (vs : List V) (ts : List Fl) (hv : RL bFl ts vs) (hw : ts.length ≤ Lm) (hw' : ∀ t ∈ ts, wFl t) (left : Int) : ∃ m, cr progA F.laws_szFileS [.i τ vs, I left] = some (I m) :=
  szS_ok (prog := progA) F.laws_szFileS F.laws_szFile 2 rfl Fl_flat τ vs ts hv hw (fun t ht v left h => szFile_ok t (hw' t ht) v left h) left
theorem eqFileS_ok (τ τ' : Bool) (vs vs' : List V) (ts ts' : List Fl) (hv : RL bFl ts vs) (hv' : RL bFl ts' vs') (hw : ts.length ≤ Lm) (hw' : ∀ t ∈ ts, wFl t) :
    cr progA F.laws_eqFileS [.i τ vs, .i τ' vs'] = some (B (decide (ts = ts'))) := by
  have := eqS_ok (prog := progA) F.laws_eqFileS F.laws_eqFile 2 rfl Fl_flat τ τ' vs vs' ts ts' hv hv' hw (fun t ht t' v v' h h' => by rw [eqFile_ok t (hw' t ht) t' v v' h h'])
  rw [this]
theorem toFileS_loop (τ : Bool) (vs : List V) (ts : List Fl) (n : Nat) (hl : ts.length = n) (hv : RL bFl ts vs) (hlim : n ≤ Lm)
    (hc : ∀ t ∈ ts, ∀ v, bFl t v → cr progA F.laws_toFile [v] = some (oFl t)) (m : Nat) : ∀ i, i + m = n →
    lw progA L.laws_toFileS_0 ⟨[(0, .i τ vs), (3, .s (100000, 0) 0 n), (4, I i)], [((100000, 0), 2, (ts.take i).map oFl ++ List.replicate m (V.a [S [], S []]))]⟩ =
      some (.exit 0, ⟨[(3, .s (100000, 0) 0 n)], [((100000, 0), 2, ts.map oFl)]⟩) := by
  unfold Lm at hlim
  have hn := RL_length hv
  rw [hl] at hn
  induction m with
  | zero =>
    intro i hi
    obtain rfl : i = n := by omega
    rw [lw_eq]
    have h1 : ¬ (i : Int) < (i : Int) := by omega
    have h2 : (ts.take i).map oFl ++ List.replicate 0 (V.a [S [], S []]) = ts.map oFl := by simp [List.take_of_length_le (Nat.le_of_eq hl)]
    rw [h2]
    simp only [go_sem, Nat.reduceAdd, Nat.reduceSub, Nat.reduceMul, Nat.reduceEqDiff, Nat.reduceLeDiff, Nat.reduceBEq, reduceCtorEq, LB.laws_toFileS_0, hn, h1]
  | succ m ih =>
    intro i hi
    rw [lw_eq]
    have hlt : (i : Int) < (n : Int) := by omega
    obtain ⟨t, ht⟩ := get_some' (l := ts) (i := i) (by omega)
    obtain ⟨v, g, hb⟩ := RL_get hv ht
    have hcc := hc t (List.mem_of_getElem? ht) v hb
    have a1 := addr_i (τ := τ) (T := [((100000, 0), 2, (ts.take i).map oFl ++ List.replicate (m + 1) (V.a [S [], S []]))]) g (Fl_flat _ _ hb).cells
    have e1 : w64 ((i : Int) + 1) = ((i + 1 : Nat) : Int) := by rw [w64_id] <;> omega
    have r1 := row_len (f := oFl) (z := V.a [S [], S []]) ts i (m + 1) n hi hl
    have r2 := row_get (f := oFl) (z := V.a [S [], S []]) ts i m (by omega)
    have r3 := fun x => row_set (f := oFl) (z := V.a [S [], S []]) (x := x) ts i m (by omega)
    have r4 := row_next (f := oFl) ht (List.replicate m (V.a [S [], S []]))
    have i1 := ih (i + 1) (by omega)
    obtain rfl := hb
    rw [oFl] at hcc r4
    have kl : ∀ d, killL d ((ts.take i).map oFl ++ List.replicate (m + 1) (V.a [S [], S []])) = (ts.take i).map oFl ++ List.replicate (m + 1) (V.a [S [], S []]) := fun d => by
      rw [killL_app, killL_mFl, killL_rep]; rfl
    have ix := ixO_some (k := (100000, 0)) (e := 2) (xs := (ts.take i).map oFl ++ List.replicate (m + 1) (V.a [S [], S []])) (i := i) (len := n) (by omega) (by omega)
    have rp := fun k ob (y : V) (ys : List V) => repEs_app k ob ((ts.take i).map oFl) (y :: ys) (clEs_mFl _)
    simp only [go_sem, Nat.reduceAdd, Nat.reduceSub, Nat.reduceMul, Nat.reduceEqDiff, Nat.reduceLeDiff, Nat.reduceBEq, reduceCtorEq, LB.laws_toFileS_0, hn, hlt, a1, g, hcc, e1, kl, ix, r1, r2, r3, rp, Option.map_some, r4]
    exact i1
theorem toFileS_ok (τ : Bool) (vs : List V) (ts : List Fl) (hv : RL bFl ts vs) (hlim : ts.length ≤ Lm) (hw' : ∀ t ∈ ts, wFl t) : cr progA F.laws_toFileS [.i τ vs] = some (.o 2 (ts.map oFl)) := by
  rw [cr_fn pA_laws_toFileS rfl]
  have h := toFileS_loop τ vs ts ts.length rfl hv hlim (fun t ht v h => toFile_ok t (hw' t ht) v h) ts.length 0 (by omega)
  simp only [Int.natCast_zero, List.take_zero, List.map_nil, List.nil_append] at h
  unfold Lm at hlim
  have mk := fun σ T => mkK_nat (σ := σ) (T := T) (e := 2) (bytes := 32) (z := V.a [S [], S []]) (n := ts.length) (d := 7) (by rw [lim_val]; omega) (by rw [lim_val]; omega) rfl rfl rfl
  simp only [go_sem, Nat.reduceAdd, Nat.reduceSub, Nat.reduceMul, Nat.reduceEqDiff, Nat.reduceLeDiff, Nat.reduceBEq, reduceCtorEq, A.laws_toFileS, RL_length hv, mk, h]
theorem szSession_ok (x : Se) (hw : wSe x) (v : V) (left : Int) (h : bSe x v) : ∃ m, cr progA F.laws_szSession [v, I left] = some (I m) := by
  obtain ⟨τ0, vs0, τ1, vs1, τ2, τ3, rfl, h0, h1⟩ := h
  rw [cr_fn pA_laws_szSession rfl]
  obtain ⟨m1, e1⟩ := szFileS_ok τ0 vs0 x.files h0 (hw.1).1 (hw.1).2 left
  by_cases n1 : m1 < 0
  · simp only [go_sem, Nat.reduceAdd, Nat.reduceSub, Nat.reduceMul, Nat.reduceEqDiff, Nat.reduceLeDiff, Nat.reduceBEq, reduceCtorEq, A.laws_szSession, e1, n1]; exact ⟨_, rfl⟩
  obtain ⟨m2, e2⟩ := szDb_ok x.db (hw.2.1) _ m1 ⟨τ1, vs1, τ2, rfl, h1⟩
  by_cases n2 : m2 < 0
  · simp only [go_sem, Nat.reduceAdd, Nat.reduceSub, Nat.reduceMul, Nat.reduceEqDiff, Nat.reduceLeDiff, Nat.reduceBEq, reduceCtorEq, A.laws_szSession, e1, n1, e2, n2]; exact ⟨_, rfl⟩
  obtain ⟨m3, e3⟩ := szStringS_ok τ3 x.lines (hw.2.2.1).1 m2
  by_cases n3 : m3 < 0
  · simp only [go_sem, Nat.reduceAdd, Nat.reduceSub, Nat.reduceMul, Nat.reduceEqDiff, Nat.reduceLeDiff, Nat.reduceBEq, reduceCtorEq, A.laws_szSession, e1, n1, e2, n2, e3, n3]; exact ⟨_, rfl⟩
  by_cases n4 : w64 (m3 - x.out.length) < 0
  · simp only [go_sem, Nat.reduceAdd, Nat.reduceSub, Nat.reduceMul, Nat.reduceEqDiff, Nat.reduceLeDiff, Nat.reduceBEq, reduceCtorEq, A.laws_szSession, e1, n1, e2, n2, e3, n3, n4]; exact ⟨_, rfl⟩
  simp only [go_sem, Nat.reduceAdd, Nat.reduceSub, Nat.reduceMul, Nat.reduceEqDiff, Nat.reduceLeDiff, Nat.reduceBEq, reduceCtorEq, A.laws_szSession, e1, n1, e2, n2, e3, n3, n4]; exact ⟨_, rfl⟩
theorem toSession_ok (x : Se) (hw : wSe x) (v : V) (h : bSe x v) : cr progA F.laws_toSession [v] = some (oSe x) := by
  obtain ⟨τ0, vs0, τ1, vs1, τ2, τ3, rfl, h0, h1⟩ := h
  have e1 := toFileS_ok τ0 vs0 x.files h0 (hw.1).1 (hw.1).2
  have e2 := toDb_ok x.db (hw.2.1) _ ⟨τ1, vs1, τ2, rfl, h1⟩
  rw [oDb] at e2
  have e3 := toStringS_ok τ3 x.lines (hw.2.2.1).1
  rw [cr_fn pA_laws_toSession rfl, oSe]
  simp only [go_sem, Nat.reduceAdd, Nat.reduceSub, Nat.reduceMul, Nat.reduceEqDiff, Nat.reduceLeDiff, Nat.reduceBEq, reduceCtorEq, A.laws_toSession, e1, e2, e3]
theorem eqSession_ok (x : Se) (hw : wSe x) (y : Se) (v v' : V) (h : bSe x v) (h' : bSe y v') : cr progA F.laws_eqSession [v, v'] = some (B (decide (x = y))) := by
  obtain ⟨τ0, vs0, τ1, vs1, τ2, τ3, rfl, h0, h1⟩ := h
  obtain ⟨τ0', vs0', τ1', vs1', τ2', τ3', rfl, h0', h1'⟩ := h'
  have e1 := eqFileS_ok τ0 τ0' vs0 vs0' x.files y.files h0 h0' (hw.1).1 (hw.1).2
  have e2 := eqDb_ok x.db (hw.2.1) y.db _ _ ⟨τ1, vs1, τ2, rfl, h1⟩ ⟨τ1', vs1', τ2', rfl, h1'⟩
  have e3 := eqStringS_ok τ3 τ3' x.lines y.lines (hw.2.2.1).1
  rw [cr_fn pA_laws_eqSession rfl]
  by_cases c0 : x.files = y.files
  case neg =>
    have d0 : decide (x.files = y.files) = false := decide_eq_false c0
    have hf : decide (x = y) = false := decide_eq_false fun h => c0 (by rw [h])
    simp only [go_sem, Nat.reduceAdd, Nat.reduceSub, Nat.reduceMul, Nat.reduceEqDiff, Nat.reduceLeDiff, Nat.reduceBEq, reduceCtorEq, A.laws_eqSession, e1, e2, e3, d0, hf]
  have d0 : decide (x.files = y.files) = true := decide_eq_true c0
  by_cases c1 : x.db = y.db
  case neg =>
    have d1 : decide (x.db = y.db) = false := decide_eq_false c1
    have hf : decide (x = y) = false := decide_eq_false fun h => c1 (by rw [h])
    simp only [go_sem, Nat.reduceAdd, Nat.reduceSub, Nat.reduceMul, Nat.reduceEqDiff, Nat.reduceLeDiff, Nat.reduceBEq, reduceCtorEq, A.laws_eqSession, e1, e2, e3, d0, d1, hf]
  have d1 : decide (x.db = y.db) = true := decide_eq_true c1
  by_cases c2 : x.lines = y.lines
  case neg =>
    have d2 : decide (x.lines = y.lines) = false := decide_eq_false c2
    have hf : decide (x = y) = false := decide_eq_false fun h => c2 (by rw [h])
    simp only [go_sem, Nat.reduceAdd, Nat.reduceSub, Nat.reduceMul, Nat.reduceEqDiff, Nat.reduceLeDiff, Nat.reduceBEq, reduceCtorEq, A.laws_eqSession, e1, e2, e3, d0, d1, d2, hf]
  have d2 : decide (x.lines = y.lines) = true := decide_eq_true c2
  by_cases c3 : x.out = y.out
  case neg =>
    have d3 : decide (x.out = y.out) = false := decide_eq_false c3
    have hf : decide (x = y) = false := decide_eq_false fun h => c3 (by rw [h])
    simp only [go_sem, Nat.reduceAdd, Nat.reduceSub, Nat.reduceMul, Nat.reduceEqDiff, Nat.reduceLeDiff, Nat.reduceBEq, reduceCtorEq, A.laws_eqSession, e1, e2, e3, d0, d1, d2, d3, hf]
  have d3 : decide (x.out = y.out) = true := decide_eq_true c3
  have hf : decide (x = y) = true := decide_eq_true (by cases x; cases y; simp only at c0 c1 c2 c3; simp only [Se.mk.injEq]; exact ⟨c0, c1, c2, c3⟩)
  simp only [go_sem, Nat.reduceAdd, Nat.reduceSub, Nat.reduceMul, Nat.reduceEqDiff, Nat.reduceLeDiff, Nat.reduceBEq, reduceCtorEq, A.laws_eqSession, e1, e2, e3, d0, d1, d2, d3, hf]
end Go.Vm

set_option autoImplicit false
set_option maxRecDepth 100000
set_option linter.unusedSimpArgs false
set_option linter.unusedVariables false
namespace Go.Vm
/-! ### the place of a number in a list -/
def idxFrom (n : Int) : Nat → List Int → Int
  | _, [] => -1
  | i, x :: xs => if n = x then (i : Int) else idxFrom n (i + 1) xs
theorem idxFrom_ge (n : Int) : ∀ (l : List Int) (i : Nat), (n ∈ l → (i : Int) ≤ idxFrom n i l ∧ idxFrom n i l < i + l.length) ∧ (n ∉ l → idxFrom n i l = -1)
  | [], i => ⟨fun h => (by cases h), fun _ => rfl⟩
  | x :: xs, i => by
    obtain ⟨h1, h2⟩ := idxFrom_ge n xs (i + 1)
    by_cases h : n = x
    · subst h; simp [idxFrom]; omega
    · simp only [idxFrom, if_neg h, List.mem_cons, h, false_or, List.length_cons]
      exact ⟨fun hm => by have := h1 hm; omega, h2⟩
theorem idxFrom_mem (n : Int) (l : List Int) : 0 ≤ idxFrom n 0 l ↔ n ∈ l := by
  obtain ⟨h1, h2⟩ := idxFrom_ge n l 0
  by_cases h : n ∈ l
  · simp only [h, iff_true]; have := h1 h; omega
  · simp only [h, iff_false, h2 h]; omega
theorem Index_loop (τ : Bool) (l : List Int) (n : Int) (hlim : l.length ≤ 2^40) :
    lw progA L.slices_Index_int_int_0 ⟨[(0, .i τ (l.map I)), (1, I n), (7, I l.length), (8, I (0 : Nat))], []⟩ = if n ∈ l then some (.ret, ⟨[(4, I (idxFrom n 0 l))], []⟩) else some (.exit 0, ⟨[], []⟩) := by
  refine for_ind l (fun i r => lw progA L.slices_Index_int_int_0 ⟨[(0, .i τ (l.map I)), (1, I n), (7, I l.length), (8, I i)], []⟩ = if n ∈ r then some (.ret, ⟨[(4, I (idxFrom n i r))], []⟩) else some (.exit 0, ⟨[], []⟩)) (by omega) ?_ ?_
  · rw [lw_eq]
    simp only [go_sem, Nat.reduceAdd, Nat.reduceSub, Nat.reduceMul, Nat.reduceEqDiff, Nat.reduceLeDiff, Nat.reduceBEq, reduceCtorEq, LB.slices_Index_int_int_0, List.not_mem_nil]
  · intro i t r ht hi hlt e1 hir hm hr ih
    have g := getmap (f := I) ht
    have a1 := addr_i (τ := τ) (T := []) (e := 1) g rfl
    rw [lw_eq]
    by_cases he : n = t
    · subst he
      simp only [go_sem, Nat.reduceAdd, Nat.reduceSub, Nat.reduceMul, Nat.reduceEqDiff, Nat.reduceLeDiff, Nat.reduceBEq, reduceCtorEq, LB.slices_Index_int_int_0, hlt, a1, g, e1, List.mem_cons, true_or, idxFrom]
    · have he' : ¬ t = n := fun h => he h.symm
      simp only [go_sem, Nat.reduceAdd, Nat.reduceSub, Nat.reduceMul, Nat.reduceEqDiff, Nat.reduceLeDiff, Nat.reduceBEq, reduceCtorEq, LB.slices_Index_int_int_0, hlt, a1, g, e1, he, he', List.mem_cons, false_or, idxFrom]
      exact ih
theorem Index_ok (τ : Bool) (l : List Int) (n : Int) (hlim : l.length ≤ 2^40) : cr progA F.slices_Index_int_int [.i τ (l.map I), I n] = some (I (idxFrom n 0 l)) := by
  rw [cr_fn pA_slices_Index_int_int rfl]
  have h := Index_loop τ l n hlim
  simp only [Int.natCast_zero] at h
  by_cases hm : n ∈ l
  · rw [if_pos hm] at h
    simp only [go_sem, Nat.reduceAdd, Nat.reduceSub, Nat.reduceMul, Nat.reduceEqDiff, Nat.reduceLeDiff, Nat.reduceBEq, reduceCtorEq, A.slices_Index_int_int, h]
  · rw [if_neg hm] at h
    simp only [go_sem, Nat.reduceAdd, Nat.reduceSub, Nat.reduceMul, Nat.reduceEqDiff, Nat.reduceLeDiff, Nat.reduceBEq, reduceCtorEq, A.slices_Index_int_int, h, (idxFrom_ge n l 0).2 hm]
theorem Contains_ok (τ : Bool) (l : List Int) (n : Int) (hlim : l.length ≤ 2^40) : cr progA F.slices_Contains_int_int [.i τ (l.map I), I n] = some (B (decide (n ∈ l))) := by
  rw [cr_fn pA_slices_Contains_int_int rfl]
  have h := Index_ok τ l n hlim
  have hm : decide (0 ≤ idxFrom n 0 l) = decide (n ∈ l) := decide_eq_decide.2 (idxFrom_mem n l)
  simp only [go_sem, Nat.reduceAdd, Nat.reduceSub, Nat.reduceMul, Nat.reduceEqDiff, Nat.reduceLeDiff, Nat.reduceBEq, reduceCtorEq, A.slices_Contains_int_int, h, hm]
theorem l03At_loop (τ : Bool) (l : List Int) (n : Int) (hlim : l.length ≤ 2^40) :
    lw progA L.spec_l03At_0 ⟨[(0, .i τ (l.map I)), (1, I n), (5, I (0 : Nat))], []⟩ = if n ∈ l then some (.ret, ⟨[(4, I (idxFrom n 0 l))], []⟩) else some (.exit 0, ⟨[], []⟩) := by
  refine for_ind l (fun i r => lw progA L.spec_l03At_0 ⟨[(0, .i τ (l.map I)), (1, I n), (5, I i)], []⟩ = if n ∈ r then some (.ret, ⟨[(4, I (idxFrom n i r))], []⟩) else some (.exit 0, ⟨[], []⟩)) (by omega) ?_ ?_
  · rw [lw_eq]
    simp only [go_sem, Nat.reduceAdd, Nat.reduceSub, Nat.reduceMul, Nat.reduceEqDiff, Nat.reduceLeDiff, Nat.reduceBEq, reduceCtorEq, LB.spec_l03At_0, List.not_mem_nil]
  · intro i t r ht hi hlt e1 hir hm hr ih
    have g := getmap (f := I) ht
    have a1 := addr_i (τ := τ) (T := []) (e := 1) g rfl
    rw [lw_eq]
    by_cases he : n = t
    · subst he
      simp only [go_sem, Nat.reduceAdd, Nat.reduceSub, Nat.reduceMul, Nat.reduceEqDiff, Nat.reduceLeDiff, Nat.reduceBEq, reduceCtorEq, LB.spec_l03At_0, hlt, a1, g, e1, List.mem_cons, true_or, idxFrom]
    · have he' : ¬ t = n := fun h => he h.symm
      simp only [go_sem, Nat.reduceAdd, Nat.reduceSub, Nat.reduceMul, Nat.reduceEqDiff, Nat.reduceLeDiff, Nat.reduceBEq, reduceCtorEq, LB.spec_l03At_0, hlt, a1, g, e1, he, he', List.mem_cons, false_or, idxFrom]
      exact ih
theorem l03At_ok (τ : Bool) (l : List Int) (n : Int) (hlim : l.length ≤ 2^40) : cr progA F.spec_l03At [.i τ (l.map I), I n] = some (I (idxFrom n 0 l)) := by
  rw [cr_fn pA_spec_l03At rfl]
  have h := l03At_loop τ l n hlim
  simp only [Int.natCast_zero] at h
  by_cases hm : n ∈ l
  · rw [if_pos hm] at h
    simp only [go_sem, Nat.reduceAdd, Nat.reduceSub, Nat.reduceMul, Nat.reduceEqDiff, Nat.reduceLeDiff, Nat.reduceBEq, reduceCtorEq, A.spec_l03At, h]
  · rw [if_neg hm] at h
    simp only [go_sem, Nat.reduceAdd, Nat.reduceSub, Nat.reduceMul, Nat.reduceEqDiff, Nat.reduceLeDiff, Nat.reduceBEq, reduceCtorEq, A.spec_l03At, h, (idxFrom_ge n l 0).2 hm]
theorem l03Has_loop (τ : Bool) (l : List Int) (n : Int) (hlim : l.length ≤ 2^40) :
    lw progA L.spec_l03Has_0 ⟨[(0, .i τ (l.map I)), (1, I n), (5, I (0 : Nat))], []⟩ = if n ∈ l then some (.ret, ⟨[(4, B true)], []⟩) else some (.exit 0, ⟨[], []⟩) := by
  refine for_ind l (fun i r => lw progA L.spec_l03Has_0 ⟨[(0, .i τ (l.map I)), (1, I n), (5, I i)], []⟩ = if n ∈ r then some (.ret, ⟨[(4, B true)], []⟩) else some (.exit 0, ⟨[], []⟩)) (by omega) ?_ ?_
  · rw [lw_eq]
    simp only [go_sem, Nat.reduceAdd, Nat.reduceSub, Nat.reduceMul, Nat.reduceEqDiff, Nat.reduceLeDiff, Nat.reduceBEq, reduceCtorEq, LB.spec_l03Has_0, List.not_mem_nil]
  · intro i t r ht hi hlt e1 hir hm hr ih
    have g := getmap (f := I) ht
    have a1 := addr_i (τ := τ) (T := []) (e := 1) g rfl
    rw [lw_eq]
    by_cases he : n = t
    · subst he
      simp only [go_sem, Nat.reduceAdd, Nat.reduceSub, Nat.reduceMul, Nat.reduceEqDiff, Nat.reduceLeDiff, Nat.reduceBEq, reduceCtorEq, LB.spec_l03Has_0, hlt, a1, g, e1, List.mem_cons, true_or]
    · have he' : ¬ t = n := fun h => he h.symm
      simp only [go_sem, Nat.reduceAdd, Nat.reduceSub, Nat.reduceMul, Nat.reduceEqDiff, Nat.reduceLeDiff, Nat.reduceBEq, reduceCtorEq, LB.spec_l03Has_0, hlt, a1, g, e1, he, he', List.mem_cons, false_or]
      exact ih
theorem l03Has_ok (τ : Bool) (l : List Int) (n : Int) (hlim : l.length ≤ 2^40) : cr progA F.spec_l03Has [.i τ (l.map I), I n] = some (B (decide (n ∈ l))) := by
  rw [cr_fn pA_spec_l03Has rfl]
  have h := l03Has_loop τ l n hlim
  simp only [Int.natCast_zero] at h
  by_cases hm : n ∈ l
  · rw [if_pos hm] at h
    simp only [go_sem, Nat.reduceAdd, Nat.reduceSub, Nat.reduceMul, Nat.reduceEqDiff, Nat.reduceLeDiff, Nat.reduceBEq, reduceCtorEq, A.spec_l03Has, h, hm]
  · rw [if_neg hm] at h
    simp only [go_sem, Nat.reduceAdd, Nat.reduceSub, Nat.reduceMul, Nat.reduceEqDiff, Nat.reduceLeDiff, Nat.reduceBEq, reduceCtorEq, A.spec_l03Has, h, hm]
end Go.Vm

set_option autoImplicit false
set_option maxRecDepth 100000
set_option linter.unusedSimpArgs false
set_option linter.unusedVariables false
namespace Go.Vm
/-! ### the numbers of a term's variables -/
mutual
def addVars (l : List Int) : Tm → List Int
  | .mk k _ n ks => addVarsL (if k = 1 ∧ n ∉ l then l ++ [n] else l) ks
def addVarsL (l : List Int) : List Tm → List Int
  | [] => l
  | t :: ts => addVarsL (addVars l t) ts
end
def varsOf (t : Tm) : List Int := addVars [] t
mutual
theorem addVars_len : ∀ (t : Tm) (l : List Int), (addVars l t).length ≤ l.length + nT t
  | .mk k s n ks, l => by
    simp only [addVars, nT]
    have := addVarsL_len ks (if k = 1 ∧ n ∉ l then l ++ [n] else l)
    have h2 : (if k = 1 ∧ n ∉ l then l ++ [n] else l).length ≤ l.length + 1 := by split <;> simp
    omega
theorem addVarsL_len : ∀ (ts : List Tm) (l : List Int), (addVarsL l ts).length ≤ l.length + nTs ts
  | [], l => by simp [addVarsL, nTs]
  | t :: ts, l => by
    simp only [addVarsL, nTs]
    have := addVars_len t l
    have := addVarsL_len ts (addVars l t)
    omega
end
theorem addVars_mk (t : Tm) (l : List Int) : addVars l t = addVarsL (if t.kind = 1 ∧ t.num ∉ l then l ++ [t.num] else l) t.kids := by cases t; rfl
theorem addVars_loop (τ : Bool) (vs : List V) (ts : List Tm) (n : Nat) (hl : ts.length = n) (hv : RL BT ts vs) (hlim : n ≤ Lm)
    (hc : ∀ t ∈ ts, ∀ (l : List Int) v, l.length + nT t ≤ 2^32 → BT t v → cw progA F.impl_addVars [.o 1 (l.map I), v] = some (.o 1 ((addVars l t).map I), [.d, v])) (m : Nat) : ∀ i (l : List Int), i + m = n →
    l.length + nTs (ts.drop i) ≤ 2^32 →
    lw progA L.impl_addVars_0 ⟨[(0, .s (100000, 0) 0 l.length), (23, .i τ vs), (24, I n), (25, I i)], [((100000, 0), 1, l.map I)]⟩ =
      some (.exit 0, ⟨[(0, .s (100000, 0) 0 (addVarsL l (ts.drop i)).length)], [((100000, 0), 1, (addVarsL l (ts.drop i)).map I)]⟩) := by
  have hn := RL_length hv
  rw [hl] at hn
  induction m with
  | zero =>
    intro i l hi hb
    obtain rfl : i = n := by omega
    rw [lw_eq]
    have h1 : ¬ (i : Int) < (i : Int) := by omega
    rw [List.drop_eq_nil_of_le (by omega), addVarsL]
    simp only [go_sem, Nat.reduceAdd, Nat.reduceSub, Nat.reduceMul, Nat.reduceEqDiff, Nat.reduceLeDiff, Nat.reduceBEq, reduceCtorEq, LB.impl_addVars_0, h1]
  | succ m ih =>
    intro i l hi hb
    rw [lw_eq]
    have hlt : (i : Int) < (n : Int) := by omega
    obtain ⟨t, ht⟩ := get_some' (l := ts) (i := i) (by omega)
    obtain ⟨v, g, hbt⟩ := RL_get hv ht
    rw [drop_cons' ht, addVarsL]
    rw [drop_cons' ht, nTs] at hb
    have hcc := hc t (List.mem_of_getElem? ht) l v (by omega) hbt
    have hlen := addVars_len t l
    have a1 := fun T => addr_i (τ := τ) (T := T) g (BT_cells hbt)
    unfold Lm at hlim
    have e1 : w64 ((i : Int) + 1) = ((i + 1 : Nat) : Int) := by rw [w64_id] <;> omega
    have i1 := ih (i + 1) (addVars l t) (by omega) (by omega)
    obtain ⟨σ1, ks, rfl, -⟩ := BT_shape hbt
    simp only [go_sem, Nat.reduceAdd, Nat.reduceSub, Nat.reduceMul, Nat.reduceEqDiff, Nat.reduceLeDiff, Nat.reduceBEq, reduceCtorEq, LB.impl_addVars_0, hlt, a1, g, hcc, e1]
    exact i1
theorem impl_addVars_ok : ∀ (t : Tm), WT t → ∀ (l : List Int) v, l.length + nT t ≤ 2^32 → BT t v → cw progA F.impl_addVars [.o 1 (l.map I), v] = some (.o 1 ((addVars l t).map I), [.d, v]) := by
  refine Tm.ind ?_
  intro k s n ks ih hw l v hb hbt
  obtain ⟨τ, vs, rfl, hv⟩ := BT_shape hbt
  rw [cw_fn pA_impl_addVars rfl]
  simp only [nT] at hb
  have hlp := fun l hb => addVars_loop τ vs ks ks.length rfl hv (WT_len hw) (fun t ht => ih t ht (WT_kids hw t ht)) ks.length 0 l (by omega) hb
  simp only [List.drop_zero, Int.natCast_zero] at hlp
  rw [addVars]
  by_cases h1 : k = 1
  · subst h1
    by_cases h2 : n ∈ l
    · have h := hlp l (by omega)
      have hco := Contains_ok true l n (by omega)
      rw [if_neg (fun h => h.2 h2)]
      simp only [go_sem, Nat.reduceAdd, Nat.reduceSub, Nat.reduceMul, Nat.reduceEqDiff, Nat.reduceLeDiff, Nat.reduceBEq, reduceCtorEq, A.impl_addVars, hco, h2, finish, RL_length hv, h]
    · have h := hlp (l ++ [n]) (by simp only [List.length_append, List.length_cons, List.length_nil]; omega)
      have hco := Contains_ok true l n (by omega)
      rw [if_pos ⟨rfl, h2⟩]
      have b1 : (l.length + 1) * 8 ≤ lim := by rw [lim_val]; omega
      have b2 : l.length + 1 ≤ lim := by rw [lim_val]; omega
      simp only [List.length_append, List.length_cons, List.length_nil, Nat.zero_add] at h
      simp only [go_sem, Nat.reduceAdd, Nat.reduceSub, Nat.reduceMul, Nat.reduceEqDiff, Nat.reduceLeDiff, Nat.reduceBEq, reduceCtorEq, A.impl_addVars, hco, h2, finish, RL_length hv, b1, b2, h]
  · have h := hlp l (by omega)
    rw [if_neg (fun h => h1 h.1)]
    simp only [go_sem, Nat.reduceAdd, Nat.reduceSub, Nat.reduceMul, Nat.reduceEqDiff, Nat.reduceLeDiff, Nat.reduceBEq, reduceCtorEq, A.impl_addVars, h1, finish, RL_length hv, h]
theorem impl_VarsOf_ok (t : Tm) (hw : WT t) (hn : nT t ≤ 2^32) (v : V) (hb : BT t v) : cr progA F.impl_VarsOf [v] = some (.o 1 ((varsOf t).map I)) := by
  have h := impl_addVars_ok t hw [] v (by simpa using hn) hb
  obtain ⟨τ, vs, rfl, -⟩ := BT_shape hb
  simp only [List.map_nil] at h
  rw [cr_fn pA_impl_VarsOf rfl, varsOf]
  simp only [go_sem, Nat.reduceAdd, Nat.reduceSub, Nat.reduceMul, Nat.reduceEqDiff, Nat.reduceLeDiff, Nat.reduceBEq, reduceCtorEq, A.impl_VarsOf, h]
theorem l03Vars_loop (τ : Bool) (t0 : Tm) (vs : List V) (n : Nat) (hl : t0.kids.length = n) (hv : RL BT t0.kids vs) (hlim : n ≤ Lm)
    (hc : ∀ t ∈ t0.kids, ∀ (l : List Int) v, l.length + nT t ≤ 2^32 → BT t v → cw progA F.spec_l03Vars [v, .o 1 (l.map I)] = some (.o 1 ((addVars l t).map I), [v, .d])) (m : Nat) : ∀ i (l : List Int), i + m = n →
    l.length + nTs (t0.kids.drop i) ≤ 2^32 →
    lw progA L.spec_l03Vars_0 ⟨[(1, .s (100000, 0) 0 l.length), (2, .p (100000, 1) 0 0), (5, I i)], [((100000, 0), 1, l.map I), ((100000, 1), 4, [.a [I t0.kind, S t0.name, I t0.num, .i τ vs]])]⟩ =
      some (.exit 0, ⟨[(1, .s (100000, 0) 0 (addVarsL l (t0.kids.drop i)).length)], [((100000, 0), 1, (addVarsL l (t0.kids.drop i)).map I), ((100000, 1), 4, [.a [I t0.kind, S t0.name, I t0.num, .i τ vs]])]⟩) := by
  have hn := RL_length hv
  rw [hl] at hn
  induction m with
  | zero =>
    intro i l hi hb
    obtain rfl : i = n := by omega
    rw [lw_eq]
    have h1 : ¬ (i : Int) < (i : Int) := by omega
    rw [List.drop_eq_nil_of_le (by omega), addVarsL]
    simp only [go_sem, Nat.reduceAdd, Nat.reduceSub, Nat.reduceMul, Nat.reduceEqDiff, Nat.reduceLeDiff, Nat.reduceBEq, reduceCtorEq, LB.spec_l03Vars_0, h1, hn]
  | succ m ih =>
    intro i l hi hb
    rw [lw_eq]
    have hlt : (i : Int) < (n : Int) := by omega
    obtain ⟨t, ht⟩ := get_some' (l := t0.kids) (i := i) (by omega)
    obtain ⟨v, g, hbt⟩ := RL_get hv ht
    rw [drop_cons' ht, addVarsL]
    rw [drop_cons' ht, nTs] at hb
    have hcc := hc t (List.mem_of_getElem? ht) l v (by omega) hbt
    have hlen := addVars_len t l
    have a1 := fun T => addr_i (τ := τ) (T := T) g (BT_cells hbt)
    unfold Lm at hlim
    have e1 : w64 ((i : Int) + 1) = ((i + 1 : Nat) : Int) := by rw [w64_id] <;> omega
    have i1 := ih (i + 1) (addVars l t) (by omega) (by omega)
    obtain ⟨σ1, ks, rfl, -⟩ := BT_shape hbt
    simp only [go_sem, Nat.reduceAdd, Nat.reduceSub, Nat.reduceMul, Nat.reduceEqDiff, Nat.reduceLeDiff, Nat.reduceBEq, reduceCtorEq, LB.spec_l03Vars_0, hlt, a1, g, hcc, e1, hn]
    exact i1
theorem spec_l03Vars_ok : ∀ (t : Tm), WT t → ∀ (l : List Int) v, l.length + nT t ≤ 2^32 → BT t v → cw progA F.spec_l03Vars [v, .o 1 (l.map I)] = some (.o 1 ((addVars l t).map I), [v, .d]) := by
  refine Tm.ind ?_
  intro k s n ks ih hw l v hb hbt
  obtain ⟨τ, vs, rfl, hv⟩ := BT_shape hbt
  rw [cw_fn pA_spec_l03Vars rfl]
  simp only [nT] at hb
  have hlp := fun l hb => l03Vars_loop τ (.mk k s n ks) vs ks.length rfl hv (WT_len hw) (fun t ht => ih t ht (WT_kids hw t ht)) ks.length 0 l (by omega) hb
  simp only [List.drop_zero, Int.natCast_zero, Tm.kids_mk, Tm.kind_mk, Tm.name_mk, Tm.num_mk] at hlp
  rw [addVars]
  by_cases h1 : k = 1
  · subst h1
    by_cases h2 : n ∈ l
    · have h := hlp l (by omega)
      have hco := l03Has_ok true l n (by omega)
      rw [if_neg (fun h => h.2 h2)]
      simp only [go_sem, Nat.reduceAdd, Nat.reduceSub, Nat.reduceMul, Nat.reduceEqDiff, Nat.reduceLeDiff, Nat.reduceBEq, reduceCtorEq, A.spec_l03Vars, hco, h2, finish, RL_length hv, h]
    · have h := hlp (l ++ [n]) (by simp only [List.length_append, List.length_cons, List.length_nil]; omega)
      have hco := l03Has_ok true l n (by omega)
      rw [if_pos ⟨rfl, h2⟩]
      have b1 : (l.length + 1) * 8 ≤ lim := by rw [lim_val]; omega
      have b2 : l.length + 1 ≤ lim := by rw [lim_val]; omega
      simp only [List.length_append, List.length_cons, List.length_nil, Nat.zero_add] at h
      simp only [go_sem, Nat.reduceAdd, Nat.reduceSub, Nat.reduceMul, Nat.reduceEqDiff, Nat.reduceLeDiff, Nat.reduceBEq, reduceCtorEq, A.spec_l03Vars, hco, h2, finish, RL_length hv, b1, b2, h]
  · have h := hlp l (by omega)
    rw [if_neg (fun h => h1 h.1)]
    simp only [go_sem, Nat.reduceAdd, Nat.reduceSub, Nat.reduceMul, Nat.reduceEqDiff, Nat.reduceLeDiff, Nat.reduceBEq, reduceCtorEq, A.spec_l03Vars, h1, finish, RL_length hv, h]
theorem spec_VarsOf_ok (t : Tm) (hw : WT t) (hn : nT t ≤ 2^32) (v : V) (hb : BT t v) : cr progA F.spec_VarsOf [v] = some (.o 1 ((varsOf t).map I)) := by
  have h := spec_l03Vars_ok t hw [] v (by simpa using hn) hb
  obtain ⟨τ, vs, rfl, -⟩ := BT_shape hb
  simp only [List.map_nil] at h
  rw [cr_fn pA_spec_VarsOf rfl, varsOf]
  simp only [go_sem, Nat.reduceAdd, Nat.reduceSub, Nat.reduceMul, Nat.reduceEqDiff, Nat.reduceLeDiff, Nat.reduceBEq, reduceCtorEq, A.spec_VarsOf, h]
end Go.Vm

set_option autoImplicit false
set_option maxRecDepth 100000
set_option linter.unusedSimpArgs false
set_option linter.unusedVariables false
namespace Go.Vm
/-! ### what a function value has caught, read only -/
def Snap (caps : List V) : Prop := ∀ c ∈ caps, ∃ xs i o, c = .q true xs i o
theorem snap_close {caps : List V} (h : Snap caps) (m : Nat) (T : Mem) : mapT (closeV (m + 1)) T caps = (caps, T) := by
  induction caps with
  | nil => rfl
  | cons c cs ih =>
    obtain ⟨xs, i, o, rfl⟩ := h c (by simp)
    simp only [mapT, closeV_q, ih fun u hu => h u (by simp [hu])]
theorem snap_conv {caps : List V} (h : Snap caps) (τ : Bool) : convL τ caps = caps := by
  induction caps with
  | nil => rfl
  | cons c cs ih =>
    obtain ⟨xs, i, o, rfl⟩ := h c (by simp)
    simp only [convL, conv, ih fun u hu => h u (by simp [hu])]
theorem snap_zero {caps : List V} (h : Snap caps) : zeroBL caps = true := by
  induction caps with
  | nil => rfl
  | cons c cs ih =>
    obtain ⟨xs, i, o, rfl⟩ := h c (by simp)
    simp only [zeroBL, zeroB, ih fun u hu => h u (by simp [hu]), Bool.and_self]
theorem snap_kill {caps : List V} (h : Snap caps) (d : Nat) : killL d caps = caps := by
  induction caps with
  | nil => rfl
  | cons c cs ih =>
    obtain ⟨xs, i, o, rfl⟩ := h c (by simp)
    simp only [killL, killV, ih fun u hu => h u (by simp [hu])]
theorem snap_dir {caps : List V} (h : Snap caps) : dirL caps = [] := by
  induction caps with
  | nil => rfl
  | cons c cs ih =>
    obtain ⟨xs, i, o, rfl⟩ := h c (by simp)
    simp only [dirL, dirV, ih fun u hu => h u (by simp [hu]), List.append_nil]
theorem snap_nil {caps : List V} (h : Snap caps) (d i : Nat) (nm : Bool) : nilL d i nm caps = caps := by
  induction caps generalizing i with
  | nil => rfl
  | cons c cs ih =>
    obtain ⟨xs, a, o, rfl⟩ := h c (by simp)
    simp only [nilL, nilV_q, ih (fun u hu => h u (by simp [hu]))]
theorem snap_ren {caps : List V} (h : Snap caps) (tb : List Key) : renL tb caps = caps := by
  induction caps with
  | nil => rfl
  | cons c cs ih =>
    obtain ⟨xs, i, o, rfl⟩ := h c (by simp)
    simp only [renL, renV_q, ih fun u hu => h u (by simp [hu])]
theorem snap_open {caps : List V} (h : Snap caps) (d j : Nat) : openL d j caps = (caps, j, []) := by
  induction caps generalizing j with
  | nil => rfl
  | cons c cs ih =>
    obtain ⟨xs, i, o, rfl⟩ := h c (by simp)
    simp only [openL, openX_q, ih (fun u hu => h u (by simp [hu])), List.append_nil]

theorem snap_args {caps : List V} (h : Snap caps) (T : Mem) : snapArgs T caps = caps := by
  induction caps with
  | nil => rfl
  | cons c cs ih =>
    obtain ⟨xs, i, o, rfl⟩ := h c (by simp)
    simp only [snapArgs, closeV_q, conv, ih fun u hu => h u (by simp [hu])]
@[go_sem] theorem take_map2 {α β : Type} {f : α → β} {g : β → V} {l : List α} : ((l.map f).map g).take l.length = (l.map f).map g := by
  apply List.take_of_length_le; simp
/-! ### a term with other numbers -/
mutual
def rnm (φ : Int → Int) : Tm → Tm
  | .mk k s n ks => .mk k s (if k = 1 then φ n else n) (rnms φ ks)
def rnms (φ : Int → Int) : List Tm → List Tm
  | [] => []
  | t :: ts => rnm φ t :: rnms φ ts
end
theorem rnms_eq (φ : Int → Int) : ∀ (ts : List Tm), rnms φ ts = ts.map (rnm φ)
  | [] => rfl
  | t :: ts => by simp only [rnms, List.map_cons, rnms_eq φ ts]
theorem rnm_mk (φ : Int → Int) (t : Tm) : rnm φ t = .mk t.kind t.name (if t.kind = 1 then φ t.num else t.num) (t.kids.map (rnm φ)) := by
  cases t; simp only [rnm, rnms_eq]; rfl
theorem mapSnoc {α β : Type} (f : α → β) {ts : List α} {i : Nat} {t : α} (h : ts[i]? = some t) : (ts.take i).map f ++ [f t] = (ts.take (i + 1)).map f := by
  rw [List.take_succ_eq_append_getElem (List.getElem?_eq_some_iff.1 h).1]
  simp [(List.getElem?_eq_some_iff.1 h).2]
theorem _root_.List.map_map' {α β γ : Type} {f : α → β} {g : β → γ} {l : List α} : (l.map f).map g = l.map fun x => g (f x) := by simp
theorem renamed_loop (g : Nat) (caps : List V) (hs : Snap caps) (φ : Int → Int) (τ : Bool) (vs : List V) (ts : List Tm) (hv : RL BT ts vs) (hlim : ts.length ≤ Lm) (k num : Int) (s : Str)
    (hc : ∀ t ∈ ts, ∀ v, BT t v → cr progA F.impl_renamed [v, .f (.func g) [] caps] = some (oT (rnm φ t))) :
    lw progA L.impl_renamed_0 ⟨[(1, .f (.func g) [] caps), (4, .p (100000, 0) 0 0), (5, .p (100000, 1) 0 0), (19, .i τ vs), (20, I ts.length), (21, I 0)],
        [((100000, 0), 4, [.a [I 0, S [], I 0, .s (100000, 2) 0 0]]), ((100000, 1), 4, [.a [I k, S s, I num, .s (100000, 3) 0 0]]), ((100000, 2), 4, []), ((100000, 3), 4, [])]⟩ =
      some (.exit 0, ⟨[(4, .p (100000, 0) 0 0), (5, .p (100000, 1) 0 0)],
        [((100000, 0), 4, [.a [I 0, S [], I 0, .s (100000, 2) 0 0]]), ((100000, 1), 4, [.a [I k, S s, I num, .s (100000, 3) 0 ts.length]]), ((100000, 2), 4, []), ((100000, 3), 4, (ts.map (rnm φ)).map oT)]⟩) := by
  unfold Lm at hlim
  refine for_ind ts (fun i r => ∀ acc : List Tm, acc.length = i → lw progA L.impl_renamed_0 ⟨[(1, .f (.func g) [] caps), (4, .p (100000, 0) 0 0), (5, .p (100000, 1) 0 0), (19, .i τ vs), (20, I ts.length), (21, I i)],
        [((100000, 0), 4, [.a [I 0, S [], I 0, .s (100000, 2) 0 0]]), ((100000, 1), 4, [.a [I k, S s, I num, .s (100000, 3) 0 acc.length]]), ((100000, 2), 4, []), ((100000, 3), 4, acc.map oT)]⟩ =
      some (.exit 0, ⟨[(4, .p (100000, 0) 0 0), (5, .p (100000, 1) 0 0)],
        [((100000, 0), 4, [.a [I 0, S [], I 0, .s (100000, 2) 0 0]]), ((100000, 1), 4, [.a [I k, S s, I num, .s (100000, 3) 0 ts.length]]), ((100000, 2), 4, []), ((100000, 3), 4, (acc ++ r.map (rnm φ)).map oT)]⟩)) (by omega) ?_ ?_ [] rfl
  · intro acc ha
    rw [lw_eq]
    simp only [go_sem, Nat.reduceAdd, Nat.reduceSub, Nat.reduceMul, Nat.reduceEqDiff, Nat.reduceLeDiff, Nat.reduceBEq, reduceCtorEq, LB.impl_renamed_0, ha, List.map_nil]
  · intro i t r ht hi hlt e1 hir hm hr ih acc ha
    obtain ⟨v, gv, hbt⟩ := RL_get hv ht
    have hcc := hc t hm v hbt
    have a1 := fun T => addr_i (τ := τ) (T := T) gv (BT_cells hbt)
    have i1 := ih (acc ++ [rnm φ t]) (by simp; omega)
    obtain ⟨σ1, ks, rfl, -⟩ := BT_shape hbt
    rw [oT_mk] at hcc
    have b1 : (acc.length + 1) * 56 ≤ lim := by rw [lim_val]; omega
    have b2 : acc.length + 1 ≤ lim := by rw [lim_val]; omega
    have rp := fun k ob (y : V) (ys : List V) => repEs_app k ob (acc.map oT) (y :: ys) (clEs_mT _)
    simp only [List.length_append, List.length_cons, List.length_nil, Nat.zero_add] at i1
    rw [lw_eq]
    simp only [go_sem, Nat.reduceAdd, Nat.reduceSub, Nat.reduceMul, Nat.reduceEqDiff, Nat.reduceLeDiff, Nat.reduceBEq, reduceCtorEq, LB.impl_renamed_0, hlt, a1, gv, rp, hcc, e1, snap_close hs, snap_conv hs, snap_zero hs, snap_kill hs, snap_dir hs, snap_nil hs, snap_ren hs, snap_open hs, b1, b2, List.map_cons]
    rw [i1]
    simp
theorem renamed_ok (g : Nat) (caps : List V) (hs : Snap caps) (φ : Int → Int) (hg : ∀ n, cr progA g ([I n] ++ caps) = some (I (φ n))) :
    ∀ (t : Tm), WT t → ∀ v, BT t v → cr progA F.impl_renamed [v, .f (.func g) [] caps] = some (oT (rnm φ t)) := by
  refine Tm.ind ?_
  intro k s n ks ih hw v hbt
  obtain ⟨τ, vs, rfl, hv⟩ := BT_shape hbt
  rw [cr_fn pA_impl_renamed rfl, rnm_mk, oT_mk]
  have hlp := fun num => renamed_loop g caps hs φ τ vs ks hv (WT_len hw) k num s (fun t ht v hb => ih t ht (WT_kids hw t ht) v hb)
  have hg' := hg n
  simp only [List.cons_append, List.nil_append] at hg'
  by_cases h1 : k = 1
  · subst h1
    have h := hlp (φ n)
    simp only [go_sem, Nat.reduceAdd, Nat.reduceSub, Nat.reduceMul, Nat.reduceEqDiff, Nat.reduceLeDiff, Nat.reduceBEq, reduceCtorEq, A.impl_renamed, RL_length hv, h, hg', snap_close hs, snap_conv hs, snap_zero hs, snap_kill hs, snap_dir hs, snap_nil hs, snap_ren hs, snap_open hs, snap_args hs]
  · have h := hlp n
    simp only [go_sem, Nat.reduceAdd, Nat.reduceSub, Nat.reduceMul, Nat.reduceEqDiff, Nat.reduceLeDiff, Nat.reduceBEq, reduceCtorEq, A.impl_renamed, RL_length hv, h, h1, snap_close hs, snap_conv hs, snap_zero hs, snap_kill hs, snap_dir hs, snap_nil hs, snap_ren hs, snap_open hs, snap_args hs]
end Go.Vm

set_option autoImplicit false
set_option maxRecDepth 100000
set_option linter.unusedSimpArgs false
set_option linter.unusedVariables false
namespace Go.Vm
theorem map_id' {α : Type} {f : α → α} : ∀ {l : List α}, (∀ x ∈ l, f x = x) → l.map f = l
  | [], _ => rfl
  | x :: l, h => by rw [List.map_cons, h x (by simp), map_id' fun u hu => h u (by simp [hu])]
theorem rnm_id : ∀ (t : Tm), rnm (fun n => n) t = t := by
  refine Tm.ind ?_
  intro k s n ks ih
  simp only [rnm, rnms_eq, map_id' ih, ite_self]
theorem copyTerm1_ok (n : Int) : cr progA F.impl_copyTerm_1 [I n] = some (I n) := by
  rw [cr_fn pA_impl_copyTerm_1 rfl]
  simp only [go_sem, Nat.reduceAdd, Nat.reduceSub, Nat.reduceMul, Nat.reduceEqDiff, Nat.reduceLeDiff, Nat.reduceBEq, reduceCtorEq, A.impl_copyTerm_1]
theorem copyTerm_ok (t : Tm) (hw : WT t) (v : V) (hb : BT t v) : cr progA F.impl_copyTerm [v] = some (oT t) := by
  have h := renamed_ok F.impl_copyTerm_1 [] (fun _ h => by cases h) (fun n => n) (fun n => copyTerm1_ok n) t hw v hb
  rw [rnm_id] at h
  have h' : cr progA F.impl_renamed [v, Fc F.impl_copyTerm_1] = some (oT t) := h
  obtain ⟨τ, vs, rfl, hv⟩ := BT_shape hb
  rw [cr_fn pA_impl_copyTerm rfl, oT_mk]
  rw [oT_mk] at h'
  simp only [go_sem, Nat.reduceAdd, Nat.reduceSub, Nat.reduceMul, Nat.reduceEqDiff, Nat.reduceLeDiff, Nat.reduceBEq, reduceCtorEq, A.impl_copyTerm, h']
theorem fresh1_ok (n fr : Int) (l : List Int) (hl : l.length ≤ 2^40) : cr progA F.impl_fresh_1 [I n, .q true [I fr] 0 0, .q true [.i true (l.map I)] 0 0] = some (I (w64 (fr + idxFrom n 0 l))) := by
  have h := Index_ok true l n hl
  rw [cr_fn pA_impl_fresh_1 rfl]
  simp only [go_sem, Nat.reduceAdd, Nat.reduceSub, Nat.reduceMul, Nat.reduceEqDiff, Nat.reduceLeDiff, Nat.reduceBEq, reduceCtorEq, A.impl_fresh_1, h]
def freshBy (fr : Int) (l : List Int) : Int → Int := fun n => w64 (fr + idxFrom n 0 l)
theorem fresh_ok (t : Tm) (hw : WT t) (hn : nT t ≤ 2^32) (fr : Int) (v : V) (hb : BT t v) : cr progA F.impl_fresh [v, I fr] = some (oT (rnm (freshBy fr (varsOf t)) t)) := by
  have hlen : (varsOf t).length ≤ 2^40 := by have := addVars_len t []; simp only [List.length_nil, Nat.zero_add] at this; unfold varsOf; omega
  have hv := impl_VarsOf_ok t hw hn v hb
  have h := renamed_ok F.impl_fresh_1 [.q true [I fr] 0 0, .q true [.i true ((varsOf t).map I)] 0 0] (fun c hc => by
    simp only [List.mem_cons, List.not_mem_nil, or_false] at hc
    rcases hc with rfl | rfl <;> exact ⟨_, _, _, rfl⟩) (freshBy fr (varsOf t)) (fun n => fresh1_ok n fr (varsOf t) hlen) t hw v hb
  obtain ⟨τ, vs, rfl, hvs⟩ := BT_shape hb
  rw [cr_fn pA_impl_fresh rfl, oT_mk]
  rw [oT_mk] at h
  simp only [go_sem, Nat.reduceAdd, Nat.reduceSub, Nat.reduceMul, Nat.reduceEqDiff, Nat.reduceLeDiff, Nat.reduceBEq, reduceCtorEq, A.impl_fresh, hv, h]
def clauseTerm (c : Cl) : Tm := .mk 4 [58, 45] 0 [c.head, c.body]
theorem structure_ok (s : Str) (xs : List V) (hc : clEs xs = true) : cw progA F.impl_structure [S s, .o 4 xs] = some (.a [I 4, S s, I 0, .o 4 xs], [S s, .d]) := by
  rw [cw_fn pA_impl_structure rfl]
  have hk : ∀ d, killL d xs = xs := fun d => killLc d xs hc
  simp only [go_sem, Nat.reduceAdd, Nat.reduceSub, Nat.reduceMul, Nat.reduceEqDiff, Nat.reduceLeDiff, Nat.reduceBEq, reduceCtorEq, A.impl_structure, finish, hc, hk]
theorem impl_ClauseTerm_ok (c : Cl) (hw : wCl c) (v : V) (h : bCl c v) : cr progA F.impl_ClauseTerm [v] = some (oT (clauseTerm c)) := by
  obtain ⟨τ0, vs0, τ1, vs1, rfl, h0, h1⟩ := h
  have e1 := copyTerm_ok c.head hw.1.1 _ (BT_of (τ := τ0) h0)
  have e2 := copyTerm_ok c.body hw.2.1.1 _ (BT_of (τ := τ1) h1)
  rw [oT_mk] at e1 e2
  rw [cr_fn pA_impl_ClauseTerm rfl]
  have e3 := structure_ok [58, 45] [oT c.head, oT c.body] (by simp only [clEs, clE_oT, Bool.and_self])
  rw [oT_mk c.head, oT_mk c.body] at e3
  simp only [go_sem, Nat.reduceAdd, Nat.reduceSub, Nat.reduceMul, Nat.reduceEqDiff, Nat.reduceLeDiff, Nat.reduceBEq, reduceCtorEq, A.impl_ClauseTerm, e1, e2, e3]
  rw [oT_mk (clauseTerm c)]
  simp only [clauseTerm, Tm.kind_mk, Tm.name_mk, Tm.num_mk, Tm.kids_mk, List.map_cons, List.map_nil, oT_mk c.head, oT_mk c.body]
def neatBy (φ : Int → Int) (c : Cl) : Cl := ⟨rnm φ c.head, rnm φ c.body, c.file⟩
def neat (c : Cl) : Cl := neatBy (freshBy 0 (varsOf (clauseTerm c))) c
theorem clauseTerm_ok (c : Cl) (hw : wCl c) : WT (clauseTerm c) ∧ nT (clauseTerm c) ≤ 2^32 := by
  refine ⟨WT_mk ⟨by decide, by decide⟩ (by decide) ⟨by decide, by decide⟩ (by show 2 ≤ Lm; decide) ?_, ?_⟩
  · intro u hu
    simp only [List.mem_cons, List.not_mem_nil, or_false] at hu
    rcases hu with rfl | rfl
    · exact hw.1.1
    · exact hw.2.1.1
  · have h1 := hw.1.2
    have h2 := hw.2.1.2
    unfold Lm at h1 h2
    simp only [clauseTerm, nT, nTs]
    omega
theorem impl_NeatClause_ok (c : Cl) (hw : wCl c) (v : V) (h : bCl c v) : cr progA F.impl_NeatClause [v] = some (oCl (neat c)) := by
  have e1 := impl_ClauseTerm_ok c hw v h
  obtain ⟨w1, w2⟩ := clauseTerm_ok c hw
  have e2 := fresh_ok (clauseTerm c) w1 w2 0 _ (BT_iT true (clauseTerm c))
  have e3 : rnm (freshBy 0 (varsOf (clauseTerm c))) (clauseTerm c) = .mk 4 [58, 45] 0 [rnm (freshBy 0 (varsOf (clauseTerm c))) c.head, rnm (freshBy 0 (varsOf (clauseTerm c))) c.body] := by
    simp only [clauseTerm, rnm, rnms, if_neg (show ¬ (4 : Int) = 1 by decide)]
  rw [e3] at e2
  unfold neat neatBy
  generalize rnm (freshBy 0 (varsOf (clauseTerm c))) c.head = th at e2 ⊢
  generalize rnm (freshBy 0 (varsOf (clauseTerm c))) c.body = tb at e2 ⊢
  rw [oT_mk] at e1
  rw [iT_mk, oT_mk] at e2
  simp only [Tm.kind_mk, Tm.name_mk, Tm.num_mk, Tm.kids_mk, List.map_cons, List.map_nil] at e2
  rw [oT_mk th, oT_mk tb] at e2
  obtain ⟨τ0, vs0, τ1, vs1, rfl, h0, h1⟩ := h
  rw [cr_fn pA_impl_NeatClause rfl, oCl]
  simp only [go_sem, Nat.reduceAdd, Nat.reduceSub, Nat.reduceMul, Nat.reduceEqDiff, Nat.reduceLeDiff, Nat.reduceBEq, reduceCtorEq, A.impl_NeatClause, e1, e2]
end Go.Vm

set_option autoImplicit false
set_option maxRecDepth 100000
set_option linter.unusedSimpArgs false
set_option linter.unusedVariables false
namespace Go.Vm
theorem l34Terms_loop (τ : Bool) (vs : List V) (ts : List Tm) (n : Nat) (hl : ts.length = n) (hv : RL BT ts vs) (hlim : n ≤ Lm)
    (hc : ∀ t ∈ ts, ∀ v, BT t v → cr progA F.spec_l34Term [v] = some (oT t)) (m : Nat) : ∀ i, i + m = n →
    lw progA L.spec_l34Terms_0 ⟨[(0, .i τ vs), (3, .s (100000, 0) 0 i), (4, I i)], [((100000, 0), 4, (ts.take i).map oT)]⟩ =
      some (.exit 0, ⟨[(3, .s (100000, 0) 0 n)], [((100000, 0), 4, ts.map oT)]⟩) := by
  unfold Lm at hlim
  have hn := RL_length hv
  rw [hl] at hn
  induction m with
  | zero =>
    intro i hi
    obtain rfl : i = n := by omega
    rw [lw_eq]
    have h1 : ¬ (i : Int) < (i : Int) := by omega
    rw [List.take_of_length_le (Nat.le_of_eq hl)]
    simp only [go_sem, Nat.reduceAdd, Nat.reduceSub, Nat.reduceMul, Nat.reduceEqDiff, Nat.reduceLeDiff, Nat.reduceBEq, reduceCtorEq, LB.spec_l34Terms_0, hn, h1]
  | succ m ih =>
    intro i hi
    rw [lw_eq]
    have hlt : (i : Int) < (n : Int) := by omega
    obtain ⟨t, ht⟩ := get_some' (l := ts) (i := i) (by omega)
    obtain ⟨v, gv, hbt⟩ := RL_get hv ht
    have hcc := hc t (List.mem_of_getElem? ht) v hbt
    have a1 := fun T => addr_i (τ := τ) (T := T) gv (BT_cells hbt)
    have e1 : w64 ((i : Int) + 1) = ((i + 1 : Nat) : Int) := by rw [w64_id] <;> omega
    have i1 := ih (i + 1) (by omega)
    obtain ⟨σ1, ks, rfl, -⟩ := BT_shape hbt
    rw [oT_mk] at hcc
    have b1 : (i + 1) * 56 ≤ lim := by rw [lim_val]; omega
    have b2 : i + 1 ≤ lim := by rw [lim_val]; omega
    have ln : (ts.take i).length = i := by simp; omega
    have tk : (ts.take i).map oT = ((ts.take i).map oT).take i :=
      (List.take_of_length_le (l := (ts.take i).map oT) (by rw [List.length_map, ln]; exact Nat.le_refl _)).symm
    have r4 : (ts.take i).map oT ++ [oT t] = (ts.take (i + 1)).map oT := mapSnoc oT ht
    rw [oT_mk t] at r4
    simp only [go_sem, Nat.reduceAdd, Nat.reduceSub, Nat.reduceMul, Nat.reduceEqDiff, Nat.reduceLeDiff, Nat.reduceBEq, reduceCtorEq, LB.spec_l34Terms_0, hn, hlt, a1, gv, hcc, e1, ← tk, r4, b1, b2, ln]
    exact i1
theorem l34Terms_of (τ : Bool) (vs : List V) (ts : List Tm) (hv : RL BT ts vs) (hlim : ts.length ≤ Lm)
    (hc : ∀ t ∈ ts, ∀ v, BT t v → cr progA F.spec_l34Term [v] = some (oT t)) : cr progA F.spec_l34Terms [.i τ vs] = some (.o 4 (ts.map oT)) := by
  rw [cr_fn pA_spec_l34Terms rfl]
  have h := l34Terms_loop τ vs ts ts.length rfl hv hlim hc ts.length 0 (by omega)
  simp only [Int.natCast_zero, List.take_zero, List.map_nil] at h
  simp only [go_sem, Nat.reduceAdd, Nat.reduceSub, Nat.reduceMul, Nat.reduceEqDiff, Nat.reduceLeDiff, Nat.reduceBEq, reduceCtorEq, A.spec_l34Terms, h]
theorem l34Term_ok : ∀ (t : Tm), WT t → ∀ v, BT t v → cr progA F.spec_l34Term [v] = some (oT t) := by
  refine Tm.ind ?_
  intro k s n ks ih hw v hb
  obtain ⟨τ, vs, rfl, hv⟩ := BT_shape hb
  have h := l34Terms_of τ vs ks hv (WT_len hw) (fun t ht => ih t ht (WT_kids hw t ht))
  rw [cr_fn pA_spec_l34Term rfl, oT_mk]
  simp only [go_sem, Nat.reduceAdd, Nat.reduceSub, Nat.reduceMul, Nat.reduceEqDiff, Nat.reduceLeDiff, Nat.reduceBEq, reduceCtorEq, A.spec_l34Term, h]
theorem l03Two_ok (s : Str) (a b : Tm) (va vb : List V) (ha : RL BT a.kids va) (hb : RL BT b.kids vb) (na : noTagL va = true) (nb : noTagL vb = true) :
    cr progA F.spec_l03Two [S s, .a [I a.kind, S a.name, I a.num, .i false va], .a [I b.kind, S b.name, I b.num, .i false vb]] =
      some (.a [I 4, S s, I 0, .o 4 [.a [I a.kind, S a.name, I a.num, .i false va], .a [I b.kind, S b.name, I b.num, .i false vb]]]) := by
  rw [cr_fn pA_spec_l03Two rfl]
  simp only [go_sem, Nat.reduceAdd, Nat.reduceSub, Nat.reduceMul, Nat.reduceEqDiff, Nat.reduceLeDiff, Nat.reduceBEq, reduceCtorEq, A.spec_l03Two, na, nb]
theorem spec_ClauseTermRaw_ok (c : Cl) (va vb : List V) (ha : RL BT c.head.kids va) (hb : RL BT c.body.kids vb) (na : noTagL va = true) (nb : noTagL vb = true) :
    cr progA F.spec_l08ClauseTermRaw [.a [I c.head.kind, S c.head.name, I c.head.num, .i false va, I c.body.kind, S c.body.name, I c.body.num, .i false vb, S c.file]] =
      some (.a [I 4, S [58, 45], I 0, .o 4 [.a [I c.head.kind, S c.head.name, I c.head.num, .i false va], .a [I c.body.kind, S c.body.name, I c.body.num, .i false vb]]]) := by
  have h := l03Two_ok [58, 45] c.head c.body va vb ha hb na nb
  rw [cr_fn pA_spec_l08ClauseTermRaw rfl]
  simp only [go_sem, Nat.reduceAdd, Nat.reduceSub, Nat.reduceMul, Nat.reduceEqDiff, Nat.reduceLeDiff, Nat.reduceBEq, reduceCtorEq, A.spec_l08ClauseTermRaw, h, na, nb]
end Go.Vm

set_option autoImplicit false
set_option maxRecDepth 100000
set_option linter.unusedSimpArgs false
set_option linter.unusedVariables false
namespace Go.Vm
theorem spec_ClauseTerm_ok (c : Cl) (hw : wCl c) (v : V) (h : bCl c v) (hn : noTag v = true) : cr progA F.spec_ClauseTerm [v] = some (oT (clauseTerm c)) := by
  obtain ⟨w1, w2⟩ := clauseTerm_ok c hw
  obtain ⟨τ0, va, τ1, vb, rfl, h0, h1⟩ := h
  simp only [noTag, noTagL, noTag_I, noTag_S, Bool.true_and, Bool.and_true, Bool.and_eq_true, Bool.not_eq_true'] at hn
  obtain ⟨⟨rfl, na⟩, ⟨rfl, nb⟩⟩ := hn
  have e1 := spec_ClauseTermRaw_ok c va vb h0 h1 na nb
  have e2 := l34Term_ok (clauseTerm c) w1 (.a [I 4, S [58, 45], I 0, .i true [.a [I c.head.kind, S c.head.name, I c.head.num, .i false va], .a [I c.body.kind, S c.body.name, I c.body.num, .i false vb]]])
    (BT_mk.2 ⟨true, _, rfl, _, _, rfl, BT_of h0, _, _, rfl, BT_of h1, rfl⟩)
  rw [oT_mk (clauseTerm c)] at e2 ⊢
  rw [cr_fn pA_spec_ClauseTerm rfl]
  simp only [go_sem, Nat.reduceAdd, Nat.reduceSub, Nat.reduceMul, Nat.reduceEqDiff, Nat.reduceLeDiff, Nat.reduceBEq, reduceCtorEq, A.spec_ClauseTerm, e1, e2, na, nb]
theorem l11Named_loop (vars : List Int) (base : Int) (τ τ0 : Bool) (t0 : Tm) (vs : List V) (hv : RL BT t0.kids vs) (hlim : t0.kids.length ≤ Lm) (k num : Int) (s : Str)
    (hc : ∀ t ∈ t0.kids, ∀ v τ', BT t v → cr progA F.spec_l11Named [v, .i τ' (vars.map I), I base] = some (oT (rnm (freshBy base vars) t))) :
    lw progA L.spec_l11Named_0 ⟨[(1, .i τ0 (vars.map I)), (2, I base), (3, .p (100000, 0) 0 0), (6, .p (100000, 1) 0 0), (7, .p (100000, 2) 0 0), (8, I 0)], [((100000, 0), 4, [.a [I t0.kind, S t0.name, I t0.num, .i τ vs]]), ((100000, 1), 4, [.a [I 0, S [], I 0, .s (100000, 3) 0 0]]), ((100000, 2), 4, [.a [I k, S s, I num, .s (100000, 4) 0 0]]), ((100000, 3), 4, []), ((100000, 4), 4, [])]⟩ = some (.exit 0, ⟨[(6, .p (100000, 1) 0 0), (7, .p (100000, 2) 0 0)], [((100000, 0), 4, [.a [I t0.kind, S t0.name, I t0.num, .i τ vs]]), ((100000, 1), 4, [.a [I 0, S [], I 0, .s (100000, 3) 0 0]]), ((100000, 2), 4, [.a [I k, S s, I num, .s (100000, 4) 0 t0.kids.length]]), ((100000, 3), 4, []), ((100000, 4), 4, (t0.kids.map (rnm (freshBy base vars))).map oT)]⟩) := by
  unfold Lm at hlim
  have hn := RL_length hv
  refine for_ind t0.kids (fun i r => ∀ acc : List Tm, acc.length = i → lw progA L.spec_l11Named_0 ⟨[(1, .i τ0 (vars.map I)), (2, I base), (3, .p (100000, 0) 0 0), (6, .p (100000, 1) 0 0), (7, .p (100000, 2) 0 0), (8, I i)], [((100000, 0), 4, [.a [I t0.kind, S t0.name, I t0.num, .i τ vs]]), ((100000, 1), 4, [.a [I 0, S [], I 0, .s (100000, 3) 0 0]]), ((100000, 2), 4, [.a [I k, S s, I num, .s (100000, 4) 0 acc.length]]), ((100000, 3), 4, []), ((100000, 4), 4, acc.map oT)]⟩ = some (.exit 0, ⟨[(6, .p (100000, 1) 0 0), (7, .p (100000, 2) 0 0)], [((100000, 0), 4, [.a [I t0.kind, S t0.name, I t0.num, .i τ vs]]), ((100000, 1), 4, [.a [I 0, S [], I 0, .s (100000, 3) 0 0]]), ((100000, 2), 4, [.a [I k, S s, I num, .s (100000, 4) 0 t0.kids.length]]), ((100000, 3), 4, []), ((100000, 4), 4, (acc ++ r.map (rnm (freshBy base vars))).map oT)]⟩)) (by omega) ?_ ?_ [] rfl
  · intro acc ha
    rw [lw_eq]
    simp only [go_sem, Nat.reduceAdd, Nat.reduceSub, Nat.reduceMul, Nat.reduceEqDiff, Nat.reduceLeDiff, Nat.reduceBEq, reduceCtorEq, LB.spec_l11Named_0, ha, hn, List.map_nil]
  · intro i t r ht hi hlt e1 hir hm hr ih acc ha
    obtain ⟨v, gv, hbt⟩ := RL_get hv ht
    have hcc := fun τ' => hc t hm v τ' hbt
    have a1 := fun T => addr_i (τ := τ) (T := T) gv (BT_cells hbt)
    have i1 := ih (acc ++ [rnm (freshBy base vars) t]) (by simp; omega)
    obtain ⟨σ1, ks, rfl, -⟩ := BT_shape hbt
    rw [oT_mk] at hcc
    have b1 : (acc.length + 1) * 56 ≤ lim := by rw [lim_val]; omega
    have b2 : acc.length + 1 ≤ lim := by rw [lim_val]; omega
    simp only [List.length_append, List.length_cons, List.length_nil, Nat.zero_add] at i1
    rw [lw_eq]
    simp only [go_sem, Nat.reduceAdd, Nat.reduceSub, Nat.reduceMul, Nat.reduceEqDiff, Nat.reduceLeDiff, Nat.reduceBEq, reduceCtorEq, LB.spec_l11Named_0, hlt, a1, gv, hcc, e1, hn, b1, b2, List.map_cons]
    rw [i1]
    simp
theorem l11Named_ok (vars : List Int) (base : Int) (hv : vars.length ≤ 2^40) : ∀ (t : Tm), WT t → ∀ v τ', BT t v → cr progA F.spec_l11Named [v, .i τ' (vars.map I), I base] = some (oT (rnm (freshBy base vars) t)) := by
  refine Tm.ind ?_
  intro k s n ks ih hw v τ0 hbt
  obtain ⟨τ, vs, rfl, hvs⟩ := BT_shape hbt
  rw [cr_fn pA_spec_l11Named rfl, rnm_mk, oT_mk]
  have hlp := fun num => l11Named_loop vars base τ τ0 (.mk k s n ks) vs hvs (WT_len hw) k num s (fun t ht v τ' hb => ih t ht (WT_kids hw t ht) v τ' hb)
  simp only [Tm.kids_mk, Tm.kind_mk, Tm.name_mk, Tm.num_mk] at hlp
  by_cases h1 : k = 1
  · subst h1
    have h := hlp (w64 (base + idxFrom n 0 vars))
    have e1 := fun τ => l03At_ok τ vars n hv
    simp only [go_sem, Nat.reduceAdd, Nat.reduceSub, Nat.reduceMul, Nat.reduceEqDiff, Nat.reduceLeDiff, Nat.reduceBEq, reduceCtorEq, A.spec_l11Named, RL_length hvs, h, e1, freshBy]
  · have h := hlp n
    simp only [go_sem, Nat.reduceAdd, Nat.reduceSub, Nat.reduceMul, Nat.reduceEqDiff, Nat.reduceLeDiff, Nat.reduceBEq, reduceCtorEq, A.spec_l11Named, RL_length hvs, h, h1]
theorem spec_NeatClause_ok (c : Cl) (hw : wCl c) (v : V) (h : bCl c v) (hn : noTag v = true) : cr progA F.spec_NeatClause [v] = some (oCl (neat c)) := by
  have e1 := spec_ClauseTerm_ok c hw v h hn
  obtain ⟨w1, w2⟩ := clauseTerm_ok c hw
  have e2 := spec_VarsOf_ok (clauseTerm c) w1 w2 _ (BT_iT true (clauseTerm c))
  have hlen : (varsOf (clauseTerm c)).length ≤ 2^40 := by have := addVars_len (clauseTerm c) []; simp only [List.length_nil, Nat.zero_add] at this; unfold varsOf; omega
  have e3 := l11Named_ok (varsOf (clauseTerm c)) 0 hlen c.head hw.1.1
  have e4 := l11Named_ok (varsOf (clauseTerm c)) 0 hlen c.body hw.2.1.1
  obtain ⟨τ0, va, τ1, vb, rfl, h0, h1⟩ := h
  have e3' := fun τ' => e3 _ τ' (BT_of (τ := τ0) h0)
  have e4' := fun τ' => e4 _ τ' (BT_of (τ := τ1) h1)
  unfold neat neatBy
  generalize freshBy 0 (varsOf (clauseTerm c)) = φ at e3' e4' ⊢
  rw [oT_mk (clauseTerm c)] at e1
  rw [iT_mk] at e2
  rw [oT_mk] at e3' e4'
  rw [cr_fn pA_spec_NeatClause rfl, oCl]
  simp only [go_sem, Nat.reduceAdd, Nat.reduceSub, Nat.reduceMul, Nat.reduceEqDiff, Nat.reduceLeDiff, Nat.reduceBEq, reduceCtorEq, A.spec_NeatClause, e1, e2, e3', e4']
end Go.Vm

set_option autoImplicit false
set_option maxRecDepth 100000
set_option linter.unusedSimpArgs false
set_option linter.unusedVariables false
namespace Go.Vm
theorem markText_loop : ∀ (n : Nat) (k : Int) (l : Str), k ≤ n → 0 ≤ k → k < 9223372036854775808 → l.length + n ≤ 2^62 →
    ∃ l', lw progA L.laws_markText_0 ⟨[(0, I k), (3, S l)], []⟩ = some (.exit 0, ⟨[(3, S l')], []⟩) ∧ l'.length ≤ 2^62 := by
  intro n
  induction n with
  | zero =>
    intro k l h1 h2 hbig h3
    obtain rfl : k = 0 := by omega
    rw [lw_eq]
    simp only [go_sem, Nat.reduceAdd, Nat.reduceSub, Nat.reduceMul, Nat.reduceEqDiff, Nat.reduceLeDiff, Nat.reduceBEq, reduceCtorEq, LB.laws_markText_0, show ¬ (0 : Int) < 0 by decide]
    exact ⟨l, rfl, by omega⟩
  | succ n ih =>
    intro k l h1 h2 hbig h3
    rw [lw_eq]
    by_cases h : 0 < k
    · have e1 : binV .rem (I k) (I 10) = _ := bin_rem (by decide)
      have e2 : binV .quo (I k) (I 10) = _ := bin_quo (by decide)
      have hq : k.tdiv 10 = k / 10 := Int.tdiv_eq_ediv_of_nonneg h2
      have e3 : w64 (k.tdiv 10) = k / 10 := by rw [hq, w64_id] <;> omega
      have hm : k.tmod 10 = k % 10 := Int.tmod_eq_emod_of_nonneg h2
      have e4 : w64 (48 + k.tmod 10) = 48 + k % 10 := by rw [hm, w64_id] <;> omega
      have e5 : IntKind.u8.wrap (48 + k % 10) = 48 + k % 10 := by
        have : (48 + k % 10) % 256 = 48 + k % 10 := by omega
        exact this
      have e6 : bytesOf [U8 (48 + k % 10)] = some [UInt8.ofNat (48 + k % 10).toNat] := rfl
      have e7 : binV .add (S [UInt8.ofNat (48 + k % 10).toNat]) (S l) = _ := binS_add (by simp only [List.length_cons, List.length_nil]; omega)
      obtain ⟨l', g1, g2⟩ := ih (k / 10) ([UInt8.ofNat (48 + k % 10).toNat] ++ l) (by omega) (by omega) (by omega) (by simp only [List.length_append, List.length_cons, List.length_nil]; omega)
      refine ⟨l', ?_, g2⟩
      simp only [go_sem, Nat.reduceAdd, Nat.reduceSub, Nat.reduceMul, Nat.reduceEqDiff, Nat.reduceLeDiff, Nat.reduceBEq, reduceCtorEq, LB.laws_markText_0, h, e1, e2, e3, e4, e5, e6, e7, List.cons_append, List.nil_append] at g1 ⊢
      exact g1
    · obtain rfl : k = 0 := by omega
      simp only [go_sem, Nat.reduceAdd, Nat.reduceSub, Nat.reduceMul, Nat.reduceEqDiff, Nat.reduceLeDiff, Nat.reduceBEq, reduceCtorEq, LB.laws_markText_0, show ¬ (0 : Int) < 0 by decide]
      exact ⟨l, rfl, by omega⟩
theorem markText_ok (k : Int) (hk : k < 4000000000000000000) : ∃ s : Str, s.length ≤ 2^62 + 1 ∧ cr progA F.laws_markText [I k] = some (S s) := by
  rw [cr_fn pA_laws_markText rfl]
  by_cases h : k ≤ 0
  · simp only [go_sem, Nat.reduceAdd, Nat.reduceSub, Nat.reduceMul, Nat.reduceEqDiff, Nat.reduceLeDiff, Nat.reduceBEq, reduceCtorEq, A.laws_markText, h]
    exact ⟨_, by decide, rfl⟩
  · obtain ⟨l', g1, g2⟩ := markText_loop k.toNat k [] (by omega) (by omega) (by omega) (by simp only [List.length_nil]; omega)
    have e7 : binV .add (S [109]) (S l') = _ := binS_add (by simp only [List.length_cons, List.length_nil]; omega)
    simp only [go_sem, Nat.reduceAdd, Nat.reduceSub, Nat.reduceMul, Nat.reduceEqDiff, Nat.reduceLeDiff, Nat.reduceBEq, reduceCtorEq, A.laws_markText, h, g1, e7]
    exact ⟨_, by simp only [List.length_append, List.length_cons, List.length_nil]; omega, rfl⟩
end Go.Vm

set_option autoImplicit false
set_option maxRecDepth 100000
set_option linter.unusedSimpArgs false
set_option linter.unusedVariables false
namespace Go.Vm
/-! ### marks -/
open Classical in
noncomputable def mkT (k : Int) : Str := if h : k < 4000000000000000000 then (markText_ok k h).choose else []
theorem mkT_ok (k : Int) (h : k < 4000000000000000000) : cr progA F.laws_markText [I k] = some (S (mkT k)) := by
  unfold mkT; rw [dif_pos h]; exact (markText_ok k h).choose_spec.2
mutual
noncomputable def markT : Tm → Int → Tm × Int
  | .mk _ _ _ ks, k => (.mk k (mkT (k + 1)) (k + 2) (markTs ks (k + 3)).1, (markTs ks (k + 3)).2)
noncomputable def markTs : List Tm → Int → List Tm × Int
  | [], k => ([], k)
  | t :: ts, k => ((markT t k).1 :: (markTs ts (markT t k).2).1, (markTs ts (markT t k).2).2)
end
mutual
theorem markT_k : ∀ (t : Tm) (k : Int), (markT t k).2 = k + 3 * nT t
  | .mk _ _ _ ks, k => by simp only [markT, nT, markTs_k ks (k + 3)]; omega
theorem markTs_k : ∀ (ts : List Tm) (k : Int), (markTs ts k).2 = k + 3 * nTs ts
  | [], k => by simp [markTs, nTs]
  | t :: ts, k => by simp only [markTs, nTs, markTs_k ts, markT_k t k]; omega
end
theorem markTs_len : ∀ (ts : List Tm) (k : Int), (markTs ts k).1.length = ts.length
  | [], k => rfl
  | t :: ts, k => by simp only [markTs, List.length_cons, markTs_len ts]
theorem markTs_app : ∀ (ts us : List Tm) (k : Int), markTs (ts ++ us) k = ((markTs ts k).1 ++ (markTs us (markTs ts k).2).1, (markTs us (markTs ts k).2).2)
  | [], us, k => rfl
  | t :: ts, us, k => by simp only [List.cons_append, markTs, markTs_app ts us]
theorem markTermS_loop (ts : List Tm) (n : Nat) (hl : ts.length = n) (hlim : n ≤ Lm)
    (hc : ∀ t ∈ ts, ∀ k : Int, 0 ≤ k → k + 3 * nTs t.kids < 3000000000000000000 → cw progA F.laws_markTermS [.o 4 (t.kids.map oT), I k] = some (I (markTs t.kids k).2, [.o 4 ((markTs t.kids k).1.map oT), I k])) (m : Nat) :
    ∀ i (ds : List Tm) (k : Int), i + m = n → ds.length = i → 0 ≤ k → k + 3 * nTs (ts.drop i) < 3000000000000000000 →
    lw progA L.laws_markTermS_0 ⟨[(0, .s (0, 0) 0 n), (1, I k), (5, I i)], [((0, 0), 4, ds.map oT ++ (ts.drop i).map oT)]⟩ =
      some (.exit 0, ⟨[(1, I (markTs (ts.drop i) k).2)], [((0, 0), 4, (ds ++ (markTs (ts.drop i) k).1).map oT)]⟩) := by
  unfold Lm at hlim
  induction m with
  | zero =>
    intro i ds k hi hd hk hb
    obtain rfl : i = n := by omega
    rw [lw_eq]
    have h1 : ¬ (i : Int) < (i : Int) := by omega
    rw [List.drop_eq_nil_of_le (by omega), markTs, List.append_nil, List.map_nil, List.append_nil]
    simp only [go_sem, Nat.reduceAdd, Nat.reduceSub, Nat.reduceMul, Nat.reduceEqDiff, Nat.reduceLeDiff, Nat.reduceBEq, reduceCtorEq, LB.laws_markTermS_0, h1]
  | succ m ih =>
    intro i ds k hi hd hk hb
    rw [lw_eq]
    have hlt : (i : Int) < (n : Int) := by omega
    obtain ⟨t, ht⟩ := get_some' (l := ts) (i := i) (by omega)
    rw [drop_cons' ht, nTs] at hb
    have hnk := nT_kids t
    have hcc := hc t (List.mem_of_getElem? ht) (k + 3) (by omega) (by omega)
    have e1 : w64 ((i : Int) + 1) = ((i + 1 : Nat) : Int) := by rw [w64_id] <;> omega
    have f1 : w64 (k + 1) = k + 1 := by rw [w64_id] <;> omega
    have f2 : w64 (k + 1 + 1) = k + 2 := by rw [w64_id] <;> omega
    have f3 : w64 (k + 2 + 1) = k + 3 := by rw [w64_id] <;> omega
    have mt := mkT_ok (k + 1) (by omega)
    have hm := markTs_k t.kids (k + 3)
    have i1 := ih (i + 1) (ds ++ [(markT t k).1]) (markT t k).2 (by omega) (by simp [hd]) (by rw [markT_k]; omega) (by rw [markT_k]; omega)
    rw [drop_cons' ht, markTs]
    rw [List.map_append, List.map_cons, List.map_nil, List.append_assoc, List.cons_append, List.nil_append] at i1
    have hlen : ∀ y : V, (ds.map oT ++ y :: (ts.drop (i + 1)).map oT).length = n := fun y => by simp [hd]; omega
    have ix := fun y : V => ixO_some (k := (0, 0)) (e := 4) (xs := ds.map oT ++ y :: (ts.drop (i + 1)).map oT) (i := i) (len := n) (by omega) (by rw [hlen]; exact Nat.le_refl _)
    have cg := fun y : V => cell_get (ds.map oT) y ((ts.drop (i + 1)).map oT) i (by simp [hd])
    have cs := fun y y' : V => cell_set (ds.map oT) y y' ((ts.drop (i + 1)).map oT) i (by simp [hd])
    have ot : oT (markT t k).1 = V.a [I k, S (mkT (k + 1)), I (k + 2), .o 4 ((markTs t.kids (k + 3)).1.map oT)] := by rw [oT_mk]; cases t; rfl
    rw [ot] at i1
    have kk : (markT t k).2 = (markTs t.kids (k + 3)).2 := by cases t; rfl
    rw [kk] at i1 ⊢
    rw [List.map_cons, oT_mk t]
    have ml := markTs_len t.kids (k + 3)
    have tk : (((markTs t.kids (k + 3)).1).map oT).take t.kids.length = ((markTs t.kids (k + 3)).1).map oT := List.take_of_length_le (by rw [List.length_map, ml]; exact Nat.le_refl _)
    simp only [go_sem, Nat.reduceAdd, Nat.reduceSub, Nat.reduceMul, Nat.reduceEqDiff, Nat.reduceLeDiff, Nat.reduceBEq, reduceCtorEq, LB.laws_markTermS_0, hlt, ix, cg, cs, hcc, e1, f1, f2, f3, mt, ml, tk]
    rw [show ds ++ (markT t k).1 :: (markTs (ts.drop (i + 1)) (markTs t.kids (k + 3)).2).1 = ds ++ [(markT t k).1] ++ (markTs (ts.drop (i + 1)) (markTs t.kids (k + 3)).2).1 by simp]
    exact i1
theorem markTermS_all : ∀ (t : Tm), WT t → ∀ k : Int, 0 ≤ k → k + 3 * nTs t.kids < 3000000000000000000 → cw progA F.laws_markTermS [.o 4 (t.kids.map oT), I k] = some (I (markTs t.kids k).2, [.o 4 ((markTs t.kids k).1.map oT), I k]) := by
  refine Tm.ind ?_
  intro k0 s n ks ih hw k hk hb
  rw [cw_fn pA_laws_markTermS rfl]
  have h := markTermS_loop ks ks.length rfl (WT_len hw) (fun t ht => ih t ht (WT_kids hw t ht)) ks.length 0 [] k (by omega) rfl hk (by rw [List.drop_zero]; exact hb)
  simp only [Int.natCast_zero, List.drop_zero, List.map_nil, List.nil_append] at h
  have ml := markTs_len ks k
  have tk : (((markTs ks k).1).map oT).take ks.length = ((markTs ks k).1).map oT := List.take_of_length_le (by rw [List.length_map, ml]; exact Nat.le_refl _)
  simp only [go_sem, Nat.reduceAdd, Nat.reduceSub, Nat.reduceMul, Nat.reduceEqDiff, Nat.reduceLeDiff, Nat.reduceBEq, reduceCtorEq, A.laws_markTermS, finish, h, ml, tk]
end Go.Vm

set_option autoImplicit false
set_option maxRecDepth 100000
set_option linter.unusedSimpArgs false
set_option linter.unusedVariables false
namespace Go.Vm
theorem heldTermS_loop (τ : Bool) (vs : List V) (us : List Tm) (n : Nat) (hl : us.length = n) (hv : RL BT us vs) (hlim : n ≤ Lm) (m : Nat) :
    ∀ i (ts : List Tm) (k : Int), i + m = n → 0 ≤ k → k + 3 * nTs ts < 3000000000000000000 → (markTs ts k).1 = us.drop i →
    (∀ t ∈ ts, ∀ k : Int, 0 ≤ k → k + 3 * nTs t.kids < 3000000000000000000 → ∀ τ vs, RL BT (markTs t.kids k).1 vs → cr progA F.laws_heldTermS [.i τ vs, I k] = some (I (markTs t.kids k).2)) →
    lw progA L.laws_heldTermS_0 ⟨[(0, .i τ vs), (1, I k), (5, I i)], []⟩ = some (.exit 0, ⟨[(1, I (markTs ts k).2)], []⟩) := by
  unfold Lm at hlim
  have hn := RL_length hv
  rw [hl] at hn
  induction m with
  | zero =>
    intro i ts k hi hk hb he hc
    obtain rfl : i = n := by omega
    rw [lw_eq]
    have h1 : ¬ (i : Int) < (i : Int) := by omega
    rw [List.drop_eq_nil_of_le (by omega)] at he
    have hts : ts = [] := by
      have := markTs_len ts k
      rw [he] at this
      exact List.length_eq_zero_iff.1 this.symm
    subst hts
    simp only [go_sem, Nat.reduceAdd, Nat.reduceSub, Nat.reduceMul, Nat.reduceEqDiff, Nat.reduceLeDiff, Nat.reduceBEq, reduceCtorEq, LB.laws_heldTermS_0, h1, hn, markTs]
  | succ m ih =>
    intro i ts k hi hk hb he hc
    rw [lw_eq]
    have hlt : (i : Int) < (n : Int) := by omega
    obtain ⟨u, hu⟩ := get_some' (l := us) (i := i) (by omega)
    rw [drop_cons' hu] at he
    obtain ⟨v, gv, hbt⟩ := RL_get hv hu
    cases ts with
    | nil => simp [markTs] at he
    | cons t ts =>
      simp only [markTs, List.cons.injEq] at he
      obtain ⟨rfl, he⟩ := he
      simp only [nTs] at hb
      have hnk := nT_kids t
      obtain ⟨σ1, ws, rfl, hws⟩ := BT_shape hbt
      have q1 : (markT t k).1.kind = k := by cases t; rfl
      have q2 : (markT t k).1.name = mkT (k + 1) := by cases t; rfl
      have q3 : (markT t k).1.num = k + 2 := by cases t; rfl
      have q4 : (markT t k).1.kids = (markTs t.kids (k + 3)).1 := by cases t; rfl
      have kk : (markT t k).2 = (markTs t.kids (k + 3)).2 := by cases t; rfl
      rw [q4] at hws
      rw [q1, q2, q3] at gv hbt
      have hcc := hc t (by simp) (k + 3) (by omega) (by omega) σ1 ws hws
      have a1 := fun T => addr_i (τ := τ) (T := T) gv (BT_cells hbt)
      have e1 : w64 ((i : Int) + 1) = ((i + 1 : Nat) : Int) := by rw [w64_id] <;> omega
      have f1 : w64 (k + 1) = k + 1 := by rw [w64_id] <;> omega
      have f2 : w64 (k + 1 + 1) = k + 2 := by rw [w64_id] <;> omega
      have f3 : w64 (k + 2 + 1) = k + 3 := by rw [w64_id] <;> omega
      have mt := mkT_ok (k + 1) (by omega)
      have hm := markTs_k t.kids (k + 3)
      have neg : ¬ (markTs t.kids (k + 3)).2 < 0 := by omega
      have i1 := ih (i + 1) ts (markT t k).2 (by omega) (by rw [markT_k]; omega) (by rw [markT_k]; omega) he (fun t' ht' => hc t' (by simp [ht']))
      rw [markTs]
      rw [kk] at i1 ⊢
      simp only [go_sem, Nat.reduceAdd, Nat.reduceSub, Nat.reduceMul, Nat.reduceEqDiff, Nat.reduceLeDiff, Nat.reduceBEq, reduceCtorEq, LB.laws_heldTermS_0, hlt, hn, a1, gv, hcc, e1, f1, f2, f3, mt, neg]
      exact i1
theorem heldTermS_all : ∀ (t : Tm), WT t → ∀ k : Int, 0 ≤ k → k + 3 * nTs t.kids < 3000000000000000000 → ∀ τ vs, RL BT (markTs t.kids k).1 vs → cr progA F.laws_heldTermS [.i τ vs, I k] = some (I (markTs t.kids k).2) := by
  refine Tm.ind ?_
  intro k0 s n ks ih hw k hk hb τ vs hv
  have ml := markTs_len ks k
  have h := heldTermS_loop τ vs (markTs ks k).1 ks.length ml hv (WT_len hw) ks.length 0 ks k (by omega) hk hb (by rw [List.drop_zero]) (fun t ht => ih t ht (WT_kids hw t ht))
  rw [cr_fn pA_laws_heldTermS rfl]
  simp only [Int.natCast_zero] at h
  simp only [go_sem, Nat.reduceAdd, Nat.reduceSub, Nat.reduceMul, Nat.reduceEqDiff, Nat.reduceLeDiff, Nat.reduceBEq, reduceCtorEq, A.laws_heldTermS, h]
end Go.Vm

set_option autoImplicit false
set_option maxRecDepth 100000
set_option linter.unusedSimpArgs false
set_option linter.unusedVariables false
namespace Go.Vm
/-- a struct handed by value: its kids alone are marked -/
noncomputable def markK (t : Tm) (k : Int) : Tm := .mk t.kind t.name t.num (markTs t.kids k).1
theorem markTerm_ok (t : Tm) (hw : WT t) (k : Int) (hk : 0 ≤ k) (hb : k + 3 * nTs t.kids < 3000000000000000000) :
    cw progA F.laws_markTerm [oT t, I k] = some (I (markTs t.kids k).2, [oT (markK t k), I k]) := by
  have h := markTermS_all t hw k hk hb
  have ml := markTs_len t.kids k
  have tk : (((markTs t.kids k).1).map oT).take t.kids.length = ((markTs t.kids k).1).map oT := List.take_of_length_le (by rw [List.length_map, ml]; exact Nat.le_refl _)
  rw [cw_fn pA_laws_markTerm (by rfl), oT_mk, oT_mk (markK t k), markK]
  simp only [go_sem, Nat.reduceAdd, Nat.reduceSub, Nat.reduceMul, Nat.reduceEqDiff, Nat.reduceLeDiff, Nat.reduceBEq, reduceCtorEq, A.laws_markTerm, finish, h, ml, tk]
theorem heldTerm_ok (t : Tm) (hw : WT t) (k : Int) (hk : 0 ≤ k) (hb : k + 3 * nTs t.kids < 3000000000000000000) (v : V) (hv : BT (markK t k) v) :
    cr progA F.laws_heldTerm [v, I k] = some (I (markTs t.kids k).2) := by
  obtain ⟨τ, vs, rfl, hvs⟩ := BT_shape hv
  have h := heldTermS_all t hw k hk hb τ vs hvs
  have neg : ¬ (markTs t.kids k).2 < 0 := by rw [markTs_k]; omega
  rw [cr_fn pA_laws_heldTerm rfl]
  simp only [go_sem, Nat.reduceAdd, Nat.reduceSub, Nat.reduceMul, Nat.reduceEqDiff, Nat.reduceLeDiff, Nat.reduceBEq, reduceCtorEq, A.laws_heldTerm, h, neg]
end Go.Vm

set_option autoImplicit false
set_option maxRecDepth 100000
set_option linter.unusedSimpArgs false
set_option linter.unusedVariables false
namespace Go.Vm
noncomputable def markCk (c : Cl) (k : Int) : Int := (markTs c.body.kids (markTs c.head.kids k).2).2
noncomputable def markC (c : Cl) (k : Int) : Cl := ⟨markK c.head k, markK c.body (markTs c.head.kids k).2, c.file⟩
theorem markClause_ok (c : Cl) (w1 : WT c.head) (w2 : WT c.body) (k : Int) (hk : 0 ≤ k) (hb : k + 3 * nTs c.head.kids + 3 * nTs c.body.kids < 3000000000000000000) :
    cw progA F.laws_markClause [oCl c, I k] = some (I (markCk c k), [oCl (markC c k), I k]) := by
  have e1 := markTerm_ok c.head w1 k hk (by omega)
  have hm := markTs_k c.head.kids k
  have e2 := markTerm_ok c.body w2 (markTs c.head.kids k).2 (by omega) (by omega)
  have ml1 := markTs_len c.head.kids k
  have ml2 := markTs_len c.body.kids (markTs c.head.kids k).2
  rw [oT_mk, oT_mk (markK _ _)] at e1 e2
  simp only [markK, Tm.kind_mk, Tm.name_mk, Tm.num_mk, Tm.kids_mk] at e1 e2
  have tk1 : (((markTs c.head.kids k).1).map oT).take c.head.kids.length = ((markTs c.head.kids k).1).map oT := List.take_of_length_le (by rw [List.length_map, ml1]; exact Nat.le_refl _)
  have tk2 : (((markTs c.body.kids (markTs c.head.kids k).2).1).map oT).take c.body.kids.length = ((markTs c.body.kids (markTs c.head.kids k).2).1).map oT := List.take_of_length_le (by rw [List.length_map, ml2]; exact Nat.le_refl _)
  rw [cw_fn pA_laws_markClause (by rfl), oCl, oCl, markCk]
  simp only [go_sem, Nat.reduceAdd, Nat.reduceSub, Nat.reduceMul, Nat.reduceEqDiff, Nat.reduceLeDiff, Nat.reduceBEq, reduceCtorEq, A.laws_markClause, finish, e1, e2, ml1, ml2, tk1, tk2, markC, markK]
theorem heldClause_ok (c : Cl) (w1 : WT c.head) (w2 : WT c.body) (k : Int) (hk : 0 ≤ k) (hb : k + 3 * nTs c.head.kids + 3 * nTs c.body.kids < 3000000000000000000) (v : V) (hv : bCl (markC c k) v) :
    cr progA F.laws_heldClause [v, I k] = some (I (markCk c k)) := by
  obtain ⟨τ0, va, τ1, vb, rfl, h0, h1⟩ := hv
  have hm := markTs_k c.head.kids k
  have e1 := heldTerm_ok c.head w1 k hk (by omega) _ (BT_of (τ := τ0) h0)
  have e2 := heldTerm_ok c.body w2 (markTs c.head.kids k).2 (by omega) (by omega) _ (BT_of (τ := τ1) h1)
  have n1 : ¬ (markTs c.head.kids k).2 < 0 := by omega
  have n2 : ¬ (markTs c.body.kids (markTs c.head.kids k).2).2 < 0 := by rw [markTs_k]; omega
  rw [cr_fn pA_laws_heldClause rfl, markCk]
  simp only [go_sem, Nat.reduceAdd, Nat.reduceSub, Nat.reduceMul, Nat.reduceEqDiff, Nat.reduceLeDiff, Nat.reduceBEq, reduceCtorEq, A.laws_heldClause, e1, e2, n1, n2, markC]
end Go.Vm

set_option autoImplicit false
set_option maxRecDepth 100000
set_option linter.unusedSimpArgs false
set_option linter.unusedVariables false
namespace Go.Vm
theorem w64_in (n : Int) : inI (w64 n) := by
  have h : ∀ m : Int, m = n % 18446744073709551616 → inI (if (true && decide (m ≥ 9223372036854775808)) = true then m - 18446744073709551616 else m) := by
    intro m hm
    unfold inI
    simp only [Bool.true_and, decide_eq_true_eq]
    split <;> omega
  exact h _ rfl
theorem WT_rnm (φ : Int → Int) (hφ : ∀ n, inI (φ n)) : ∀ (t : Tm), WT t → WT (rnm φ t) ∧ nT (rnm φ t) = nT t := by
  refine Tm.ind ?_
  intro k s n ks ih hw
  rw [rnm_mk]
  simp only [Tm.kind_mk, Tm.name_mk, Tm.num_mk, Tm.kids_mk]
  have hk := WT_kids hw
  simp only [Tm.kids_mk] at hk
  refine ⟨WT_mk (WT_kind hw) (WT_name hw) (by
    by_cases hk1 : k = 1
    · simp only [hk1, if_true]; exact hφ n
    · simp only [hk1, if_false]; exact WT_num hw) (by rw [List.length_map]; exact WT_len hw) ?_, ?_⟩
  · intro u hu
    obtain ⟨t, ht, rfl⟩ := List.mem_map.1 hu
    exact (ih t ht (hk t ht)).1
  · simp only [nT]
    congr 1
    clear hw
    induction ks with
    | nil => rfl
    | cons t ts ih' =>
      simp only [List.map_cons, nTs]
      rw [(ih t (by simp) (hk t (by simp))).2, ih' (fun u hu => ih u (by simp [hu])) (fun u hu => hk u (by simp [hu]))]
theorem wCl_neat (c : Cl) (hw : wCl c) : wCl (neat c) := by
  have h1 := WT_rnm (freshBy 0 (varsOf (clauseTerm c))) (fun n => w64_in _) c.head hw.1.1
  have h2 := WT_rnm (freshBy 0 (varsOf (clauseTerm c))) (fun n => w64_in _) c.body hw.2.1.1
  exact ⟨⟨h1.1, by unfold neat neatBy; rw [h1.2]; exact hw.1.2⟩, ⟨h2.1, by unfold neat neatBy; rw [h2.2]; exact hw.2.1.2⟩, hw.2.2⟩
end Go.Vm

set_option autoImplicit false
set_option maxRecDepth 100000
set_option linter.unusedSimpArgs false
set_option linter.unusedVariables false
namespace Go.Vm
theorem cr_true {f : Nat} {xs : List V} (hs : cr progA f xs = some (B true)) : ∃ outs, cw progA f xs = some (B true, outs) := by
  unfold cr at hs
  cases hc : cw progA f xs with
  | none => rw [hc] at hs; cases hs
  | some r => rw [hc] at hs; obtain ⟨a, b⟩ := r; simp only [Option.map_some, Option.some.injEq] at hs; subst hs; exact ⟨b, rfl⟩
structure NF (x y : Cl) (v : V) (m : Int) : Prop where
  hm : cr progA F.laws_szClause [v, I 1048576] = some (I m)
  hneg : ¬ m < 0
  ht : cr progA F.laws_toClause [v] = some (oCl x)
  hp1 : cr progA F.spec_NeatClause [iCl false x] = some (oCl y)
  hp2 : ∀ τ, cr progA F.impl_NeatClause [iCl τ x] = some (oCl y)
  he1 : ∀ τ τ', cr progA F.laws_eqClause [iCl τ x, iCl τ' x] = some (B true)
  he2 : ∀ τ τ', cr progA F.laws_eqClause [iCl τ y, iCl τ' y] = some (B true)
  hk1 : cw progA F.laws_markClause [oCl x, I 1] = some (I (markCk x 1), [oCl (markC x 1), I 1])
  hk2 : cw progA F.laws_markClause [oCl y, I 1] = some (I (markCk y 1), [oCl (markC y 1), I 1])
  hh : cr progA F.laws_heldClause [iCl true (markC y 1), I 1] = some (I (markCk y 1))
  n1 : ¬ markCk x 1 < 0
  n2 : ¬ markCk y 1 < 0
theorem laws_FnExactNeatClause_c0 (x y : Cl) (m : Int) (τ0 : Bool) (vs0 : List V) (τ1 : Bool) (vs1 : List V) (f : NF x y (.a [I x.head.kind, S x.head.name, I x.head.num, .i τ0 vs0, I x.body.kind, S x.body.name, I x.body.num, .i τ1 vs1, S x.file]) m)  : ∃ T', xw progA C.laws_FnExactNeatClause_0 (St.mk [(2, B true)] [((10, 0), 9, [V.a [I (Tm.kind y.head), S (Tm.name y.head), I (Tm.num y.head), V.i false (List.map (iT false) (Tm.kids y.head)), I (Tm.kind y.body), S (Tm.name y.body), I (Tm.num y.body), V.i false (List.map (iT false) (Tm.kids y.body)), S y.file]]), ((22, 0), 4, List.map oT (markTs (Tm.kids y.head) 1).fst), ((22, 1), 4, List.map oT (markTs (Tm.kids y.body) (markTs (Tm.kids y.head) 1).snd).fst), ((20, 0), 4, List.map oT (markTs (Tm.kids x.head) 1).fst), ((20, 1), 4, List.map oT (markTs (Tm.kids x.body) (markTs (Tm.kids x.head) 1).snd).fst), ((6, 0), 9, [V.a [I (Tm.kind y.head), S (Tm.name y.head), I (Tm.num y.head), V.s (22, 0) 0 (List.length (Tm.kids y.head)), I (Tm.kind y.body), S (Tm.name y.body), I (Tm.num y.body), V.s (22, 1) 0 (List.length (Tm.kids y.body)), S y.file]]), ((5, 0), 9, [V.a [I (Tm.kind x.head), S (Tm.name x.head), I (Tm.num x.head), V.s (20, 0) 0 (List.length (Tm.kids x.head)), I (Tm.kind x.body), S (Tm.name x.body), I (Tm.num x.body), V.s (20, 1) 0 (List.length (Tm.kids x.body)), S x.file]]), ((4, 0), 9, [V.a [I (Tm.kind y.head), S (Tm.name y.head), I (Tm.num y.head), V.i false (List.map (iT false) (Tm.kids y.head)), I (Tm.kind y.body), S (Tm.name y.body), I (Tm.num y.body), V.i false (List.map (iT false) (Tm.kids y.body)), S y.file]]), ((1, 0), 9, [V.a [I (Tm.kind x.head), S (Tm.name x.head), I (Tm.num x.head), V.i τ0 vs0, I (Tm.kind x.body), S (Tm.name x.body), I (Tm.num x.body), V.i τ1 vs1, S x.file]])]) = some (.ret, ⟨[(2, B true)], T'⟩) := by
  obtain ⟨hm, hneg, ht, hp1, hp2, he1, he2, hk1, hk2, hh, n1, n2⟩ := f
  have ml1 := fun k => markTs_len y.head.kids k
  have ml2 := fun k => markTs_len y.body.kids k
  have tk1 : ∀ k, (((markTs y.head.kids k).1).map oT).take y.head.kids.length = ((markTs y.head.kids k).1).map oT := fun k => List.take_of_length_le (by rw [List.length_map, ml1]; exact Nat.le_refl _)
  have tk2 : ∀ k, (((markTs y.body.kids k).1).map oT).take y.body.kids.length = ((markTs y.body.kids k).1).map oT := fun k => List.take_of_length_le (by rw [List.length_map, ml2]; exact Nat.le_refl _)
  simp only [iCl] at hp1 hp2 he1 he2 hh
  simp only [oCl] at ht hp1 hp2 hk1 hk2
  simp only [markC, markK, Tm.kind_mk, Tm.name_mk, Tm.num_mk, Tm.kids_mk] at hk1 hk2 hh
  simp only [go_sem, Nat.reduceAdd, Nat.reduceSub, Nat.reduceMul, Nat.reduceEqDiff, Nat.reduceLeDiff, Nat.reduceBEq, reduceCtorEq, C.laws_FnExactNeatClause_0, hm, hneg, ht, hp1, hp2, he1, he2, hk1, hk2, hh, n1, n2, ml1, ml2, tk1, tk2]
  exact ⟨_, rfl⟩
theorem laws_FnExactNeatClause_c1 (x y : Cl) (m : Int) (τ0 : Bool) (vs0 : List V) (τ1 : Bool) (vs1 : List V) (f : NF x y (.a [I x.head.kind, S x.head.name, I x.head.num, .i τ0 vs0, I x.body.kind, S x.body.name, I x.body.num, .i τ1 vs1, S x.file]) m)  : ∃ T', xw progA C.laws_FnExactNeatClause_1 (St.mk [(9, I (markCk y 1)), (63, I (markCk y 1)), (62, I 1), (61, V.a [I (Tm.kind y.head), S (Tm.name y.head), I (Tm.num y.head), V.s (22, 0) 0 (List.length (Tm.kids y.head)), I (Tm.kind y.body), S (Tm.name y.body), I (Tm.num y.body), V.s (22, 1) 0 (List.length (Tm.kids y.body)), S y.file]), (9, I 1), (6, V.p (6, 0) 0 0), (8, I (markCk y 1))] [((10, 0), 9, [V.a [I (Tm.kind y.head), S (Tm.name y.head), I (Tm.num y.head), V.i false (List.map (iT false) (Tm.kids y.head)), I (Tm.kind y.body), S (Tm.name y.body), I (Tm.num y.body), V.i false (List.map (iT false) (Tm.kids y.body)), S y.file]]), ((22, 0), 4, List.map oT (markTs (Tm.kids y.head) 1).fst), ((22, 1), 4, List.map oT (markTs (Tm.kids y.body) (markTs (Tm.kids y.head) 1).snd).fst), ((20, 0), 4, List.map oT (markTs (Tm.kids x.head) 1).fst), ((20, 1), 4, List.map oT (markTs (Tm.kids x.body) (markTs (Tm.kids x.head) 1).snd).fst), ((6, 0), 9, [V.a [I (Tm.kind y.head), S (Tm.name y.head), I (Tm.num y.head), V.s (22, 0) 0 (List.length (Tm.kids y.head)), I (Tm.kind y.body), S (Tm.name y.body), I (Tm.num y.body), V.s (22, 1) 0 (List.length (Tm.kids y.body)), S y.file]]), ((5, 0), 9, [V.a [I (Tm.kind x.head), S (Tm.name x.head), I (Tm.num x.head), V.s (20, 0) 0 (List.length (Tm.kids x.head)), I (Tm.kind x.body), S (Tm.name x.body), I (Tm.num x.body), V.s (20, 1) 0 (List.length (Tm.kids x.body)), S x.file]]), ((4, 0), 9, [V.a [I (Tm.kind y.head), S (Tm.name y.head), I (Tm.num y.head), V.i false (List.map (iT false) (Tm.kids y.head)), I (Tm.kind y.body), S (Tm.name y.body), I (Tm.num y.body), V.i false (List.map (iT false) (Tm.kids y.body)), S y.file]]), ((1, 0), 9, [V.a [I (Tm.kind x.head), S (Tm.name x.head), I (Tm.num x.head), V.i τ0 vs0, I (Tm.kind x.body), S (Tm.name x.body), I (Tm.num x.body), V.i τ1 vs1, S x.file]])]) = some (.ret, ⟨[(2, B true)], T'⟩) := by
  obtain ⟨T', hT⟩ := laws_FnExactNeatClause_c0 x y m τ0 vs0 τ1 vs1 f
  obtain ⟨hm, hneg, ht, hp1, hp2, he1, he2, hk1, hk2, hh, n1, n2⟩ := f
  have ml1 := fun k => markTs_len y.head.kids k
  have ml2 := fun k => markTs_len y.body.kids k
  have tk1 : ∀ k, (((markTs y.head.kids k).1).map oT).take y.head.kids.length = ((markTs y.head.kids k).1).map oT := fun k => List.take_of_length_le (by rw [List.length_map, ml1]; exact Nat.le_refl _)
  have tk2 : ∀ k, (((markTs y.body.kids k).1).map oT).take y.body.kids.length = ((markTs y.body.kids k).1).map oT := fun k => List.take_of_length_le (by rw [List.length_map, ml2]; exact Nat.le_refl _)
  simp only [iCl] at hp1 hp2 he1 he2 hh
  simp only [oCl] at ht hp1 hp2 hk1 hk2
  simp only [markC, markK, Tm.kind_mk, Tm.name_mk, Tm.num_mk, Tm.kids_mk] at hk1 hk2 hh
  refine ⟨T', ?_⟩
  simp only [go_sem, Nat.reduceAdd, Nat.reduceSub, Nat.reduceMul, Nat.reduceEqDiff, Nat.reduceLeDiff, Nat.reduceBEq, reduceCtorEq, C.laws_FnExactNeatClause_1, hm, hneg, ht, hp1, hp2, he1, he2, hk1, hk2, hh, n1, n2, ml1, ml2, tk1, tk2, hT]
theorem laws_FnExactNeatClause_c2 (x y : Cl) (m : Int) (τ0 : Bool) (vs0 : List V) (τ1 : Bool) (vs1 : List V) (f : NF x y (.a [I x.head.kind, S x.head.name, I x.head.num, .i τ0 vs0, I x.body.kind, S x.body.name, I x.body.num, .i τ1 vs1, S x.file]) m)  : ∃ T', xw progA C.laws_FnExactNeatClause_2 (St.mk [(10, V.p (10, 0) 0 0), (56, V.a [I (Tm.kind y.head), S (Tm.name y.head), I (Tm.num y.head), V.i false (List.map (iT false) (Tm.kids y.head)), I (Tm.kind y.body), S (Tm.name y.body), I (Tm.num y.body), V.i false (List.map (iT false) (Tm.kids y.body)), S y.file]), (55, V.a [I (Tm.kind x.head), S (Tm.name x.head), I (Tm.num x.head), V.i false (List.map (iT false) (Tm.kids x.head)), I (Tm.kind x.body), S (Tm.name x.body), I (Tm.num x.body), V.i false (List.map (iT false) (Tm.kids x.body)), S x.file]), (54, V.a [I (Tm.kind x.head), S (Tm.name x.head), I (Tm.num x.head), V.i τ0 vs0, I (Tm.kind x.body), S (Tm.name x.body), I (Tm.num x.body), V.i τ1 vs1, S x.file]), (1, V.p (1, 0) 0 0), (4, V.p (4, 0) 0 0), (6, V.p (6, 0) 0 0), (8, I (markCk y 1))] [((10, 0), 9, [V.a [I (Tm.kind y.head), S (Tm.name y.head), I (Tm.num y.head), V.i false (List.map (iT false) (Tm.kids y.head)), I (Tm.kind y.body), S (Tm.name y.body), I (Tm.num y.body), V.i false (List.map (iT false) (Tm.kids y.body)), S y.file]]), ((22, 0), 4, List.map oT (markTs (Tm.kids y.head) 1).fst), ((22, 1), 4, List.map oT (markTs (Tm.kids y.body) (markTs (Tm.kids y.head) 1).snd).fst), ((20, 0), 4, List.map oT (markTs (Tm.kids x.head) 1).fst), ((20, 1), 4, List.map oT (markTs (Tm.kids x.body) (markTs (Tm.kids x.head) 1).snd).fst), ((6, 0), 9, [V.a [I (Tm.kind y.head), S (Tm.name y.head), I (Tm.num y.head), V.s (22, 0) 0 (List.length (Tm.kids y.head)), I (Tm.kind y.body), S (Tm.name y.body), I (Tm.num y.body), V.s (22, 1) 0 (List.length (Tm.kids y.body)), S y.file]]), ((5, 0), 9, [V.a [I (Tm.kind x.head), S (Tm.name x.head), I (Tm.num x.head), V.s (20, 0) 0 (List.length (Tm.kids x.head)), I (Tm.kind x.body), S (Tm.name x.body), I (Tm.num x.body), V.s (20, 1) 0 (List.length (Tm.kids x.body)), S x.file]]), ((4, 0), 9, [V.a [I (Tm.kind y.head), S (Tm.name y.head), I (Tm.num y.head), V.i false (List.map (iT false) (Tm.kids y.head)), I (Tm.kind y.body), S (Tm.name y.body), I (Tm.num y.body), V.i false (List.map (iT false) (Tm.kids y.body)), S y.file]]), ((1, 0), 9, [V.a [I (Tm.kind x.head), S (Tm.name x.head), I (Tm.num x.head), V.i τ0 vs0, I (Tm.kind x.body), S (Tm.name x.body), I (Tm.num x.body), V.i τ1 vs1, S x.file]])]) = some (.ret, ⟨[(2, B true)], T'⟩) := by
  obtain ⟨T', hT⟩ := laws_FnExactNeatClause_c1 x y m τ0 vs0 τ1 vs1 f
  obtain ⟨hm, hneg, ht, hp1, hp2, he1, he2, hk1, hk2, hh, n1, n2⟩ := f
  have ml1 := fun k => markTs_len y.head.kids k
  have ml2 := fun k => markTs_len y.body.kids k
  have tk1 : ∀ k, (((markTs y.head.kids k).1).map oT).take y.head.kids.length = ((markTs y.head.kids k).1).map oT := fun k => List.take_of_length_le (by rw [List.length_map, ml1]; exact Nat.le_refl _)
  have tk2 : ∀ k, (((markTs y.body.kids k).1).map oT).take y.body.kids.length = ((markTs y.body.kids k).1).map oT := fun k => List.take_of_length_le (by rw [List.length_map, ml2]; exact Nat.le_refl _)
  simp only [iCl] at hp1 hp2 he1 he2 hh
  simp only [oCl] at ht hp1 hp2 hk1 hk2
  simp only [markC, markK, Tm.kind_mk, Tm.name_mk, Tm.num_mk, Tm.kids_mk] at hk1 hk2 hh
  refine ⟨T', ?_⟩
  simp only [go_sem, Nat.reduceAdd, Nat.reduceSub, Nat.reduceMul, Nat.reduceEqDiff, Nat.reduceLeDiff, Nat.reduceBEq, reduceCtorEq, C.laws_FnExactNeatClause_2, hm, hneg, ht, hp1, hp2, he1, he2, hk1, hk2, hh, n1, n2, ml1, ml2, tk1, tk2, hT]
theorem laws_FnExactNeatClause_c3 (x y : Cl) (m : Int) (τ0 : Bool) (vs0 : List V) (τ1 : Bool) (vs1 : List V) (f : NF x y (.a [I x.head.kind, S x.head.name, I x.head.num, .i τ0 vs0, I x.body.kind, S x.body.name, I x.body.num, .i τ1 vs1, S x.file]) m)  : ∃ T', xw progA C.laws_FnExactNeatClause_3 (St.mk [(9, I (markCk y 1)), (48, I (markCk y 1)), (47, I 1), (46, V.a [I (Tm.kind y.head), S (Tm.name y.head), I (Tm.num y.head), V.s (22, 0) 0 (List.length (Tm.kids y.head)), I (Tm.kind y.body), S (Tm.name y.body), I (Tm.num y.body), V.s (22, 1) 0 (List.length (Tm.kids y.body)), S y.file]), (9, I 1), (1, V.p (1, 0) 0 0), (4, V.p (4, 0) 0 0), (6, V.p (6, 0) 0 0), (8, I (markCk y 1))] [((22, 0), 4, List.map oT (markTs (Tm.kids y.head) 1).fst), ((22, 1), 4, List.map oT (markTs (Tm.kids y.body) (markTs (Tm.kids y.head) 1).snd).fst), ((20, 0), 4, List.map oT (markTs (Tm.kids x.head) 1).fst), ((20, 1), 4, List.map oT (markTs (Tm.kids x.body) (markTs (Tm.kids x.head) 1).snd).fst), ((6, 0), 9, [V.a [I (Tm.kind y.head), S (Tm.name y.head), I (Tm.num y.head), V.s (22, 0) 0 (List.length (Tm.kids y.head)), I (Tm.kind y.body), S (Tm.name y.body), I (Tm.num y.body), V.s (22, 1) 0 (List.length (Tm.kids y.body)), S y.file]]), ((5, 0), 9, [V.a [I (Tm.kind x.head), S (Tm.name x.head), I (Tm.num x.head), V.s (20, 0) 0 (List.length (Tm.kids x.head)), I (Tm.kind x.body), S (Tm.name x.body), I (Tm.num x.body), V.s (20, 1) 0 (List.length (Tm.kids x.body)), S x.file]]), ((4, 0), 9, [V.a [I (Tm.kind y.head), S (Tm.name y.head), I (Tm.num y.head), V.i false (List.map (iT false) (Tm.kids y.head)), I (Tm.kind y.body), S (Tm.name y.body), I (Tm.num y.body), V.i false (List.map (iT false) (Tm.kids y.body)), S y.file]]), ((1, 0), 9, [V.a [I (Tm.kind x.head), S (Tm.name x.head), I (Tm.num x.head), V.i τ0 vs0, I (Tm.kind x.body), S (Tm.name x.body), I (Tm.num x.body), V.i τ1 vs1, S x.file]])]) = some (.ret, ⟨[(2, B true)], T'⟩) := by
  obtain ⟨T', hT⟩ := laws_FnExactNeatClause_c2 x y m τ0 vs0 τ1 vs1 f
  obtain ⟨hm, hneg, ht, hp1, hp2, he1, he2, hk1, hk2, hh, n1, n2⟩ := f
  have ml1 := fun k => markTs_len y.head.kids k
  have ml2 := fun k => markTs_len y.body.kids k
  have tk1 : ∀ k, (((markTs y.head.kids k).1).map oT).take y.head.kids.length = ((markTs y.head.kids k).1).map oT := fun k => List.take_of_length_le (by rw [List.length_map, ml1]; exact Nat.le_refl _)
  have tk2 : ∀ k, (((markTs y.body.kids k).1).map oT).take y.body.kids.length = ((markTs y.body.kids k).1).map oT := fun k => List.take_of_length_le (by rw [List.length_map, ml2]; exact Nat.le_refl _)
  simp only [iCl] at hp1 hp2 he1 he2 hh
  simp only [oCl] at ht hp1 hp2 hk1 hk2
  simp only [markC, markK, Tm.kind_mk, Tm.name_mk, Tm.num_mk, Tm.kids_mk] at hk1 hk2 hh
  refine ⟨T', ?_⟩
  simp only [go_sem, Nat.reduceAdd, Nat.reduceSub, Nat.reduceMul, Nat.reduceEqDiff, Nat.reduceLeDiff, Nat.reduceBEq, reduceCtorEq, C.laws_FnExactNeatClause_3, hm, hneg, ht, hp1, hp2, he1, he2, hk1, hk2, hh, n1, n2, ml1, ml2, tk1, tk2, hT]
theorem laws_FnExactNeatClause_c4 (x y : Cl) (m : Int) (τ0 : Bool) (vs0 : List V) (τ1 : Bool) (vs1 : List V) (f : NF x y (.a [I x.head.kind, S x.head.name, I x.head.num, .i τ0 vs0, I x.body.kind, S x.body.name, I x.body.num, .i τ1 vs1, S x.file]) m)  : ∃ T', xw progA C.laws_FnExactNeatClause_4 (St.mk [(1, V.p (1, 0) 0 0), (4, V.p (4, 0) 0 0), (6, V.p (6, 0) 0 0), (42, B false)] [((20, 0), 4, List.map oT (markTs (Tm.kids x.head) 1).fst), ((20, 1), 4, List.map oT (markTs (Tm.kids x.body) (markTs (Tm.kids x.head) 1).snd).fst), ((6, 0), 9, [V.a [I (Tm.kind y.head), S (Tm.name y.head), I (Tm.num y.head), V.s (22, 0) 0 (List.length (Tm.kids y.head)), I (Tm.kind y.body), S (Tm.name y.body), I (Tm.num y.body), V.s (22, 1) 0 (List.length (Tm.kids y.body)), S y.file]]), ((22, 0), 4, List.map oT (Tm.kids y.head)), ((22, 1), 4, List.map oT (Tm.kids y.body)), ((5, 0), 9, [V.a [I (Tm.kind x.head), S (Tm.name x.head), I (Tm.num x.head), V.s (20, 0) 0 (List.length (Tm.kids x.head)), I (Tm.kind x.body), S (Tm.name x.body), I (Tm.num x.body), V.s (20, 1) 0 (List.length (Tm.kids x.body)), S x.file]]), ((4, 0), 9, [V.a [I (Tm.kind y.head), S (Tm.name y.head), I (Tm.num y.head), V.i false (List.map (iT false) (Tm.kids y.head)), I (Tm.kind y.body), S (Tm.name y.body), I (Tm.num y.body), V.i false (List.map (iT false) (Tm.kids y.body)), S y.file]]), ((1, 0), 9, [V.a [I (Tm.kind x.head), S (Tm.name x.head), I (Tm.num x.head), V.i τ0 vs0, I (Tm.kind x.body), S (Tm.name x.body), I (Tm.num x.body), V.i τ1 vs1, S x.file]])]) = some (.ret, ⟨[(2, B true)], T'⟩) := by
  obtain ⟨T', hT⟩ := laws_FnExactNeatClause_c3 x y m τ0 vs0 τ1 vs1 f
  obtain ⟨hm, hneg, ht, hp1, hp2, he1, he2, hk1, hk2, hh, n1, n2⟩ := f
  have ml1 := fun k => markTs_len y.head.kids k
  have ml2 := fun k => markTs_len y.body.kids k
  have tk1 : ∀ k, (((markTs y.head.kids k).1).map oT).take y.head.kids.length = ((markTs y.head.kids k).1).map oT := fun k => List.take_of_length_le (by rw [List.length_map, ml1]; exact Nat.le_refl _)
  have tk2 : ∀ k, (((markTs y.body.kids k).1).map oT).take y.body.kids.length = ((markTs y.body.kids k).1).map oT := fun k => List.take_of_length_le (by rw [List.length_map, ml2]; exact Nat.le_refl _)
  simp only [iCl] at hp1 hp2 he1 he2 hh
  simp only [oCl] at ht hp1 hp2 hk1 hk2
  simp only [markC, markK, Tm.kind_mk, Tm.name_mk, Tm.num_mk, Tm.kids_mk] at hk1 hk2 hh
  refine ⟨T', ?_⟩
  simp only [go_sem, Nat.reduceAdd, Nat.reduceSub, Nat.reduceMul, Nat.reduceEqDiff, Nat.reduceLeDiff, Nat.reduceBEq, reduceCtorEq, C.laws_FnExactNeatClause_4, hm, hneg, ht, hp1, hp2, he1, he2, hk1, hk2, hh, n1, n2, ml1, ml2, tk1, tk2, hT]
theorem laws_FnExactNeatClause_c5 (x y : Cl) (m : Int) (τ0 : Bool) (vs0 : List V) (τ1 : Bool) (vs1 : List V) (f : NF x y (.a [I x.head.kind, S x.head.name, I x.head.num, .i τ0 vs0, I x.body.kind, S x.body.name, I x.body.num, .i τ1 vs1, S x.file]) m)  : ∃ T', xw progA C.laws_FnExactNeatClause_5 (St.mk [(1, V.p (1, 0) 0 0), (4, V.p (4, 0) 0 0), (5, V.p (5, 0) 0 0), (6, V.p (6, 0) 0 0), (31, B false)] [((6, 0), 9, [V.a [I (Tm.kind y.head), S (Tm.name y.head), I (Tm.num y.head), V.s (22, 0) 0 (List.length (Tm.kids y.head)), I (Tm.kind y.body), S (Tm.name y.body), I (Tm.num y.body), V.s (22, 1) 0 (List.length (Tm.kids y.body)), S y.file]]), ((22, 0), 4, List.map oT (Tm.kids y.head)), ((22, 1), 4, List.map oT (Tm.kids y.body)), ((5, 0), 9, [V.a [I (Tm.kind x.head), S (Tm.name x.head), I (Tm.num x.head), V.s (20, 0) 0 (List.length (Tm.kids x.head)), I (Tm.kind x.body), S (Tm.name x.body), I (Tm.num x.body), V.s (20, 1) 0 (List.length (Tm.kids x.body)), S x.file]]), ((20, 0), 4, List.map oT (Tm.kids x.head)), ((20, 1), 4, List.map oT (Tm.kids x.body)), ((4, 0), 9, [V.a [I (Tm.kind y.head), S (Tm.name y.head), I (Tm.num y.head), V.i false (List.map (iT false) (Tm.kids y.head)), I (Tm.kind y.body), S (Tm.name y.body), I (Tm.num y.body), V.i false (List.map (iT false) (Tm.kids y.body)), S y.file]]), ((1, 0), 9, [V.a [I (Tm.kind x.head), S (Tm.name x.head), I (Tm.num x.head), V.i τ0 vs0, I (Tm.kind x.body), S (Tm.name x.body), I (Tm.num x.body), V.i τ1 vs1, S x.file]])]) = some (.ret, ⟨[(2, B true)], T'⟩) := by
  obtain ⟨T', hT⟩ := laws_FnExactNeatClause_c4 x y m τ0 vs0 τ1 vs1 f
  obtain ⟨hm, hneg, ht, hp1, hp2, he1, he2, hk1, hk2, hh, n1, n2⟩ := f
  have ml1 := fun k => markTs_len y.head.kids k
  have ml2 := fun k => markTs_len y.body.kids k
  have tk1 : ∀ k, (((markTs y.head.kids k).1).map oT).take y.head.kids.length = ((markTs y.head.kids k).1).map oT := fun k => List.take_of_length_le (by rw [List.length_map, ml1]; exact Nat.le_refl _)
  have tk2 : ∀ k, (((markTs y.body.kids k).1).map oT).take y.body.kids.length = ((markTs y.body.kids k).1).map oT := fun k => List.take_of_length_le (by rw [List.length_map, ml2]; exact Nat.le_refl _)
  simp only [iCl] at hp1 hp2 he1 he2 hh
  simp only [oCl] at ht hp1 hp2 hk1 hk2
  simp only [markC, markK, Tm.kind_mk, Tm.name_mk, Tm.num_mk, Tm.kids_mk] at hk1 hk2 hh
  refine ⟨T', ?_⟩
  simp only [go_sem, Nat.reduceAdd, Nat.reduceSub, Nat.reduceMul, Nat.reduceEqDiff, Nat.reduceLeDiff, Nat.reduceBEq, reduceCtorEq, C.laws_FnExactNeatClause_5, hm, hneg, ht, hp1, hp2, he1, he2, hk1, hk2, hh, n1, n2, ml1, ml2, tk1, tk2, hT]
theorem laws_FnExactNeatClause_c6 (x y : Cl) (m : Int) (τ0 : Bool) (vs0 : List V) (τ1 : Bool) (vs1 : List V) (f : NF x y (.a [I x.head.kind, S x.head.name, I x.head.num, .i τ0 vs0, I x.body.kind, S x.body.name, I x.body.num, .i τ1 vs1, S x.file]) m)  : ∃ T', xw progA C.laws_FnExactNeatClause_6 (St.mk [(5, V.p (5, 0) 0 0), (20, V.a [I (Tm.kind x.head), S (Tm.name x.head), I (Tm.num x.head), V.s (20, 0) 0 (List.length (Tm.kids x.head)), I (Tm.kind x.body), S (Tm.name x.body), I (Tm.num x.body), V.s (20, 1) 0 (List.length (Tm.kids x.body)), S x.file]), (19, V.a [I (Tm.kind x.head), S (Tm.name x.head), I (Tm.num x.head), V.i τ0 vs0, I (Tm.kind x.body), S (Tm.name x.body), I (Tm.num x.body), V.i τ1 vs1, S x.file]), (1, V.p (1, 0) 0 0), (4, V.p (4, 0) 0 0)] [((5, 0), 9, [V.a [I (Tm.kind x.head), S (Tm.name x.head), I (Tm.num x.head), V.s (20, 0) 0 (List.length (Tm.kids x.head)), I (Tm.kind x.body), S (Tm.name x.body), I (Tm.num x.body), V.s (20, 1) 0 (List.length (Tm.kids x.body)), S x.file]]), ((20, 0), 4, List.map oT (Tm.kids x.head)), ((20, 1), 4, List.map oT (Tm.kids x.body)), ((4, 0), 9, [V.a [I (Tm.kind y.head), S (Tm.name y.head), I (Tm.num y.head), V.i false (List.map (iT false) (Tm.kids y.head)), I (Tm.kind y.body), S (Tm.name y.body), I (Tm.num y.body), V.i false (List.map (iT false) (Tm.kids y.body)), S y.file]]), ((1, 0), 9, [V.a [I (Tm.kind x.head), S (Tm.name x.head), I (Tm.num x.head), V.i τ0 vs0, I (Tm.kind x.body), S (Tm.name x.body), I (Tm.num x.body), V.i τ1 vs1, S x.file]])]) = some (.ret, ⟨[(2, B true)], T'⟩) := by
  obtain ⟨T', hT⟩ := laws_FnExactNeatClause_c5 x y m τ0 vs0 τ1 vs1 f
  obtain ⟨hm, hneg, ht, hp1, hp2, he1, he2, hk1, hk2, hh, n1, n2⟩ := f
  have ml1 := fun k => markTs_len y.head.kids k
  have ml2 := fun k => markTs_len y.body.kids k
  have tk1 : ∀ k, (((markTs y.head.kids k).1).map oT).take y.head.kids.length = ((markTs y.head.kids k).1).map oT := fun k => List.take_of_length_le (by rw [List.length_map, ml1]; exact Nat.le_refl _)
  have tk2 : ∀ k, (((markTs y.body.kids k).1).map oT).take y.body.kids.length = ((markTs y.body.kids k).1).map oT := fun k => List.take_of_length_le (by rw [List.length_map, ml2]; exact Nat.le_refl _)
  simp only [iCl] at hp1 hp2 he1 he2 hh
  simp only [oCl] at ht hp1 hp2 hk1 hk2
  simp only [markC, markK, Tm.kind_mk, Tm.name_mk, Tm.num_mk, Tm.kids_mk] at hk1 hk2 hh
  refine ⟨T', ?_⟩
  simp only [go_sem, Nat.reduceAdd, Nat.reduceSub, Nat.reduceMul, Nat.reduceEqDiff, Nat.reduceLeDiff, Nat.reduceBEq, reduceCtorEq, C.laws_FnExactNeatClause_6, hm, hneg, ht, hp1, hp2, he1, he2, hk1, hk2, hh, n1, n2, ml1, ml2, tk1, tk2, hT]
theorem laws_FnExactNeatClause_c7 (x y : Cl) (m : Int) (τ0 : Bool) (vs0 : List V) (τ1 : Bool) (vs1 : List V) (f : NF x y (.a [I x.head.kind, S x.head.name, I x.head.num, .i τ0 vs0, I x.body.kind, S x.body.name, I x.body.num, .i τ1 vs1, S x.file]) m)  : ∃ T', xw progA C.laws_FnExactNeatClause_7 (St.mk [(3, I m), (13, I m), (12, I 1048576), (11, V.a [I (Tm.kind x.head), S (Tm.name x.head), I (Tm.num x.head), V.i τ0 vs0, I (Tm.kind x.body), S (Tm.name x.body), I (Tm.num x.body), V.i τ1 vs1, S x.file]), (3, I 1048576), (2, B false), (1, V.p (1, 0) 0 0), (0, V.a [I (Tm.kind x.head), S (Tm.name x.head), I (Tm.num x.head), V.i τ0 vs0, I (Tm.kind x.body), S (Tm.name x.body), I (Tm.num x.body), V.i τ1 vs1, S x.file])] [((1, 0), 9, [V.a [I (Tm.kind x.head), S (Tm.name x.head), I (Tm.num x.head), V.i τ0 vs0, I (Tm.kind x.body), S (Tm.name x.body), I (Tm.num x.body), V.i τ1 vs1, S x.file]])]) = some (.ret, ⟨[(2, B true)], T'⟩) := by
  obtain ⟨T', hT⟩ := laws_FnExactNeatClause_c6 x y m τ0 vs0 τ1 vs1 f
  obtain ⟨hm, hneg, ht, hp1, hp2, he1, he2, hk1, hk2, hh, n1, n2⟩ := f
  have ml1 := fun k => markTs_len y.head.kids k
  have ml2 := fun k => markTs_len y.body.kids k
  have tk1 : ∀ k, (((markTs y.head.kids k).1).map oT).take y.head.kids.length = ((markTs y.head.kids k).1).map oT := fun k => List.take_of_length_le (by rw [List.length_map, ml1]; exact Nat.le_refl _)
  have tk2 : ∀ k, (((markTs y.body.kids k).1).map oT).take y.body.kids.length = ((markTs y.body.kids k).1).map oT := fun k => List.take_of_length_le (by rw [List.length_map, ml2]; exact Nat.le_refl _)
  simp only [iCl] at hp1 hp2 he1 he2 hh
  simp only [oCl] at ht hp1 hp2 hk1 hk2
  simp only [markC, markK, Tm.kind_mk, Tm.name_mk, Tm.num_mk, Tm.kids_mk] at hk1 hk2 hh
  refine ⟨T', ?_⟩
  simp only [go_sem, Nat.reduceAdd, Nat.reduceSub, Nat.reduceMul, Nat.reduceEqDiff, Nat.reduceLeDiff, Nat.reduceBEq, reduceCtorEq, C.laws_FnExactNeatClause_7, hm, hneg, ht, hp1, hp2, he1, he2, hk1, hk2, hh, n1, n2, ml1, ml2, tk1, tk2, hT]
theorem laws_FnExactNeatClause_ok (x y : Cl) (m : Int) (τ0 : Bool) (vs0 : List V) (τ1 : Bool) (vs1 : List V) (f : NF x y (.a [I x.head.kind, S x.head.name, I x.head.num, .i τ0 vs0, I x.body.kind, S x.body.name, I x.body.num, .i τ1 vs1, S x.file]) m) : ∃ outs, cw progA F.laws_FnExactNeatClause [.a [I x.head.kind, S x.head.name, I x.head.num, .i τ0 vs0, I x.body.kind, S x.body.name, I x.body.num, .i τ1 vs1, S x.file]] = some (B true, outs) := by
  obtain ⟨T', hT⟩ := laws_FnExactNeatClause_c7 x y m τ0 vs0 τ1 vs1 f
  obtain ⟨hm, hneg, ht, hp1, hp2, he1, he2, hk1, hk2, hh, n1, n2⟩ := f
  have ml1 := fun k => markTs_len y.head.kids k
  have ml2 := fun k => markTs_len y.body.kids k
  have tk1 : ∀ k, (((markTs y.head.kids k).1).map oT).take y.head.kids.length = ((markTs y.head.kids k).1).map oT := fun k => List.take_of_length_le (by rw [List.length_map, ml1]; exact Nat.le_refl _)
  have tk2 : ∀ k, (((markTs y.body.kids k).1).map oT).take y.body.kids.length = ((markTs y.body.kids k).1).map oT := fun k => List.take_of_length_le (by rw [List.length_map, ml2]; exact Nat.le_refl _)
  simp only [iCl] at hp1 hp2 he1 he2 hh
  simp only [oCl] at ht hp1 hp2 hk1 hk2
  simp only [markC, markK, Tm.kind_mk, Tm.name_mk, Tm.num_mk, Tm.kids_mk] at hk1 hk2 hh
  rw [cw_fn pA_laws_FnExactNeatClause rfl]
  simp only [go_sem, Nat.reduceAdd, Nat.reduceSub, Nat.reduceMul, Nat.reduceEqDiff, Nat.reduceLeDiff, Nat.reduceBEq, reduceCtorEq, A.laws_FnExactNeatClause, finish, hm, hneg, ht, hp1, hp2, he1, he2, hk1, hk2, hh, n1, n2, ml1, ml2, tk1, tk2, hT]
  exact ⟨_, rfl⟩
theorem law_NeatClause (x : Cl) (hw : wCl x) (v : V) (h : bCl x v) : ∃ outs, cw progA F.laws_FnExactNeatClause [v] = some (B true, outs) := by
  obtain ⟨m, hm⟩ := szClause_ok x hw v 1048576 h
  have ht := toClause_ok x hw v h
  have hp1 := spec_NeatClause_ok x hw _ (b_iCl false x) (noTag_iCl x)
  have hp2 := fun τ => impl_NeatClause_ok x hw _ (b_iCl τ x)
  have he1 := fun τ τ' => (eqClause_ok x hw x _ _ (b_iCl τ x) (b_iCl τ' x)).trans (by rw [decide_eq_true (rfl : x = x)])
  have wn := wCl_neat x hw
  have he2 := fun τ τ' => (eqClause_ok (neat x) wn (neat x) _ _ (b_iCl τ (neat x)) (b_iCl τ' (neat x))).trans (by rw [decide_eq_true (rfl : neat x = neat x)])
  have hb1 : (1 : Int) + 3 * nTs x.head.kids + 3 * nTs x.body.kids < 3000000000000000000 := by
    have h1 := hw.1.2; have h2 := hw.2.1.2; have := nT_kids x.head; have := nT_kids x.body; unfold Lm at h1 h2; omega
  have hb2 : (1 : Int) + 3 * nTs (neat x).head.kids + 3 * nTs (neat x).body.kids < 3000000000000000000 := by
    have h1 := wn.1.2; have h2 := wn.2.1.2; have := nT_kids (neat x).head; have := nT_kids (neat x).body; unfold Lm at h1 h2; omega
  have hk1 := markClause_ok x hw.1.1 hw.2.1.1 1 (by decide) hb1
  have hk2 := markClause_ok (neat x) wn.1.1 wn.2.1.1 1 (by decide) hb2
  have hh := heldClause_ok (neat x) wn.1.1 wn.2.1.1 1 (by decide) hb2 _ (b_iCl true (markC (neat x) 1))
  have n1 : ¬ markCk x 1 < 0 := by unfold markCk; rw [markTs_k, markTs_k]; omega
  have n2 : ¬ markCk (neat x) 1 < 0 := by unfold markCk; rw [markTs_k, markTs_k]; omega
  obtain ⟨τ0, vs0, τ1, vs1, rfl, h0, h1⟩ := h
  by_cases hneg : m < 0
  · apply cr_true
    rw [cr_fn pA_laws_FnExactNeatClause rfl]
    simp only [go_sem, Nat.reduceAdd, Nat.reduceSub, Nat.reduceMul, Nat.reduceEqDiff, Nat.reduceLeDiff, Nat.reduceBEq, reduceCtorEq, A.laws_FnExactNeatClause, C.laws_FnExactNeatClause_7, hm, hneg]
  · exact laws_FnExactNeatClause_ok x (neat x) m τ0 vs0 τ1 vs1 ⟨hm, hneg, ht, hp1, hp2, he1, he2, hk1, hk2, hh, n1, n2⟩
end Go.Vm
