import Derived.Test.YtbbcakmmbnikjaaGreatDoorT03
import Derived.Test.YtbbcakmmbnikjaaGreatDoorT04
import Derived.Lib.ItoaNum

set_option autoImplicit false
set_option maxRecDepth 100000
set_option linter.unusedSimpArgs false
set_option linter.unusedVariables false
namespace Go.Vm
theorem BT_flat (t : Tm) (v : V) (h : BT t v) : FlatA 4 v := by
  obtain ⟨τ, vs, rfl, -⟩ := BT_shape h; exact ⟨_, rfl, rfl, rfl⟩
theorem eqTermS_of (τ τ' : Bool) (vs vs' : List V) (ts ts' : List Tm) (hv : RL BT ts vs) (hv' : RL BT ts' vs') (hw : ts.length ≤ Lm)
    (hc : ∀ t ∈ ts, ∀ t' v v', BT t v → BT t' v' → cr progA F.laws_eqTerm [v, v'] = some (B (decide (t = t')))) :
    cr progA F.laws_eqTermS [.i τ vs, .i τ' vs'] = some (B (decide (ts = ts'))) := by
  have := eqS_ok (prog := progA) F.laws_eqTermS F.laws_eqTerm 4 rfl BT_flat τ τ' vs vs' ts ts' hv hv' hw (fun t ht t' v v' h h' => by rw [hc t ht t' v v' h h'])
  rw [this]
theorem eqTerm_ok : ∀ (t : Tm), WT t → ∀ t' v v', BT t v → BT t' v' → cr progA F.laws_eqTerm [v, v'] = some (B (decide (t = t'))) := by
  refine Tm.ind ?_
  intro k s n ks ih hw t' v v' hb hb'
  obtain ⟨k', s', n', ks'⟩ := t'
  obtain ⟨τ, vs, rfl, hv⟩ := BT_shape hb
  obtain ⟨τ', vs', rfl, hv'⟩ := BT_shape hb'
  have h := eqTermS_of τ τ' vs vs' ks ks' hv hv' (WT_len hw) (fun t ht => ih t ht (WT_kids hw t ht))
  rw [cr_fn pA_laws_eqTerm rfl]
  simp only [go_sem, Nat.reduceAdd, Nat.reduceSub, Nat.reduceMul, Nat.reduceEqDiff, Nat.reduceLeDiff, Nat.reduceBEq, reduceCtorEq, A.laws_eqTerm, h, Tm.mk.injEq]
  by_cases e1 : k = k' <;> by_cases e2 : s = s' <;> by_cases e3 : n = n' <;> by_cases e4 : ks = ks' <;> simp [e1, e2, e3, e4]
theorem eqTermS_ok (τ τ' : Bool) (vs vs' : List V) (ts ts' : List Tm) (hv : RL BT ts vs) (hv' : RL BT ts' vs') (hw : ts.length ≤ Lm) (hw' : ∀ t ∈ ts, WT t) :
    cr progA F.laws_eqTermS [.i τ vs, .i τ' vs'] = some (B (decide (ts = ts'))) :=
  eqTermS_of τ τ' vs vs' ts ts' hv hv' hw fun t ht => eqTerm_ok t (hw' t ht)
theorem szTerm_ok : ∀ (t : Tm), WT t → ∀ v left, BT t v → ∃ m, cr progA F.laws_szTerm [v, I left] = some (I m) := by
  refine Tm.ind ?_
  intro k s n ks ih hw v left hb
  obtain ⟨τ, vs, rfl, hv⟩ := BT_shape hb
  rw [cr_fn pA_laws_szTerm rfl]
  by_cases h1 : w64 (left - s.length) < 0
  · simp only [go_sem, Nat.reduceAdd, Nat.reduceSub, Nat.reduceMul, Nat.reduceEqDiff, Nat.reduceLeDiff, Nat.reduceBEq, reduceCtorEq, A.laws_szTerm, h1]; exact ⟨_, rfl⟩
  · obtain ⟨m, hm⟩ := szS_ok (prog := progA) F.laws_szTermS F.laws_szTerm 4 rfl BT_flat τ vs ks hv (WT_len hw) (fun t ht v left h => ih t ht (WT_kids hw t ht) v left h) (w64 (left - s.length))
    by_cases h2 : m < 0
    · simp only [go_sem, Nat.reduceAdd, Nat.reduceSub, Nat.reduceMul, Nat.reduceEqDiff, Nat.reduceLeDiff, Nat.reduceBEq, reduceCtorEq, A.laws_szTerm, h1, hm, h2]; exact ⟨_, rfl⟩
    · simp only [go_sem, Nat.reduceAdd, Nat.reduceSub, Nat.reduceMul, Nat.reduceEqDiff, Nat.reduceLeDiff, Nat.reduceBEq, reduceCtorEq, A.laws_szTerm, h1, hm, h2]; exact ⟨_, rfl⟩
theorem szTermS_ok (τ : Bool) (vs : List V) (ts : List Tm) (hv : RL BT ts vs) (hw : ts.length ≤ Lm) (hw' : ∀ t ∈ ts, WT t) (left : Int) : ∃ m, cr progA F.laws_szTermS [.i τ vs, I left] = some (I m) :=
  szS_ok (prog := progA) F.laws_szTermS F.laws_szTerm 4 rfl BT_flat τ vs ts hv hw (fun t ht v left h => szTerm_ok t (hw' t ht) v left h) left
end Go.Vm

set_option autoImplicit false
set_option maxRecDepth 100000
set_option linter.unusedSimpArgs false
set_option linter.unusedVariables false
namespace Go.Vm
theorem toTermS_loop (τ : Bool) (vs : List V) (ts : List Tm) (n : Nat) (hl : ts.length = n) (hv : RL BT ts vs) (hlim : n ≤ Lm)
    (hc : ∀ t ∈ ts, ∀ v, BT t v → cr progA F.laws_toTerm [v] = some (oT t)) (m : Nat) : ∀ i, i + m = n →
    lw progA L.laws_toTermS_0 ⟨[(0, .i τ vs), (3, .s (100000, 0) 0 n), (4, I i)], [((100000, 0), 4, (ts.take i).map oT ++ List.replicate m (.a [I 0, S [], I 0, .n 4]))]⟩ =
      some (.exit 0, ⟨[(3, .s (100000, 0) 0 n)], [((100000, 0), 4, ts.map oT)]⟩) := by
  unfold Lm at hlim
  have hn := RL_length hv
  rw [hl] at hn
  induction m with
  | zero =>
    intro i hi
    obtain rfl : i = n := by omega
    rw [lw_eq]
    have h1 : ¬ (i : Int) < (i : Int) := by omega
    have h2 : (ts.take i).map oT ++ List.replicate 0 (V.a [I 0, S [], I 0, .n 4]) = ts.map oT := by simp [List.take_of_length_le (Nat.le_of_eq hl)]
    rw [h2]
    simp only [go_sem, Nat.reduceAdd, Nat.reduceSub, Nat.reduceMul, Nat.reduceEqDiff, Nat.reduceLeDiff, Nat.reduceBEq, reduceCtorEq, LB.laws_toTermS_0, hn, h1]
  | succ m ih =>
    intro i hi
    rw [lw_eq]
    have hlt : (i : Int) < (n : Int) := by omega
    obtain ⟨t, ht⟩ := get_some' (l := ts) (i := i) (by omega)
    obtain ⟨v, g, hb⟩ := RL_get hv ht
    have hcc := hc t (List.mem_of_getElem? ht) v hb
    have a1 := addr_i (τ := τ) (T := [((100000, 0), 4, (ts.take i).map oT ++ List.replicate (m + 1) (V.a [I 0, S [], I 0, .n 4]))]) g (BT_cells hb)
    have e1 : w64 ((i : Int) + 1) = ((i + 1 : Nat) : Int) := by rw [w64_id] <;> omega
    have r1 := row_len (f := oT) (z := V.a [I 0, S [], I 0, .n 4]) ts i (m + 1) n hi hl
    have r2 := row_get (f := oT) (z := V.a [I 0, S [], I 0, .n 4]) ts i m (by omega)
    have r3 := fun x => row_set (f := oT) (z := V.a [I 0, S [], I 0, .n 4]) (x := x) ts i m (by omega)
    have r4 := row_next (f := oT) ht (List.replicate m (V.a [I 0, S [], I 0, .n 4]))
    have i1 := ih (i + 1) (by omega)
    obtain ⟨σ1, ks, rfl, -⟩ := BT_shape hb
    rw [oT_mk] at hcc r4
    have kl : ∀ d, killL d ((ts.take i).map oT ++ List.replicate (m + 1) (V.a [I 0, S [], I 0, .n 4])) = (ts.take i).map oT ++ List.replicate (m + 1) (V.a [I 0, S [], I 0, .n 4]) := fun d => by
      rw [killL_app, killL_mT, killL_rep]; rfl
    have ix := ixO_some (k := (100000, 0)) (e := 4) (xs := (ts.take i).map oT ++ List.replicate (m + 1) (V.a [I 0, S [], I 0, .n 4])) (i := i) (len := n) (by omega) (by omega)
    have rp := fun k ob (y : V) (ys : List V) => repEs_app k ob ((ts.take i).map oT) (y :: ys) (clEs_mT _)
    simp only [go_sem, Nat.reduceAdd, Nat.reduceSub, Nat.reduceMul, Nat.reduceEqDiff, Nat.reduceLeDiff, Nat.reduceBEq, reduceCtorEq, LB.laws_toTermS_0, hn, hlt, a1, g, hcc, e1, kl, ix, r1, r2, r3, rp, Option.map_some, r4]
    exact i1
theorem toTermS_of (τ : Bool) (vs : List V) (ts : List Tm) (hv : RL BT ts vs) (hlim : ts.length ≤ Lm)
    (hc : ∀ t ∈ ts, ∀ v, BT t v → cr progA F.laws_toTerm [v] = some (oT t)) : cr progA F.laws_toTermS [.i τ vs] = some (.o 4 (ts.map oT)) := by
  rw [cr_fn pA_laws_toTermS rfl]
  have h := toTermS_loop τ vs ts ts.length rfl hv hlim hc ts.length 0 (by omega)
  simp only [Int.natCast_zero, List.take_zero, List.map_nil, List.nil_append] at h
  unfold Lm at hlim
  have mk := fun σ T => mkK_nat (σ := σ) (T := T) (e := 4) (bytes := 56) (z := V.a [I 0, S [], I 0, .n 4]) (n := ts.length) (d := 7) (by rw [lim_val]; omega) (by rw [lim_val]; omega) rfl rfl rfl
  simp only [go_sem, Nat.reduceAdd, Nat.reduceSub, Nat.reduceMul, Nat.reduceEqDiff, Nat.reduceLeDiff, Nat.reduceBEq, reduceCtorEq, A.laws_toTermS, RL_length hv, mk, h]
theorem toTerm_ok : ∀ (t : Tm), WT t → ∀ v, BT t v → cr progA F.laws_toTerm [v] = some (oT t) := by
  refine Tm.ind ?_
  intro k s n ks ih hw v hb
  obtain ⟨τ, vs, rfl, hv⟩ := BT_shape hb
  have h := toTermS_of τ vs ks hv (WT_len hw) (fun t ht => ih t ht (WT_kids hw t ht))
  rw [cr_fn pA_laws_toTerm rfl, oT_mk]
  simp only [go_sem, Nat.reduceAdd, Nat.reduceSub, Nat.reduceMul, Nat.reduceEqDiff, Nat.reduceLeDiff, Nat.reduceBEq, reduceCtorEq, A.laws_toTerm, h]
theorem toTermS_ok (τ : Bool) (vs : List V) (ts : List Tm) (hv : RL BT ts vs) (hlim : ts.length ≤ Lm) (hw' : ∀ t ∈ ts, WT t) : cr progA F.laws_toTermS [.i τ vs] = some (.o 4 (ts.map oT)) :=
  toTermS_of τ vs ts hv hlim fun t ht v h => toTerm_ok t (hw' t ht) v h
end Go.Vm

set_option autoImplicit false
set_option maxRecDepth 100000
set_option linter.unusedSimpArgs false
set_option linter.unusedVariables false
namespace Go.Vm
theorem getmap {α : Type} {f : α → V} {l : List α} {i : Nat} {x : α} (h : l[i]? = some x) : (l.map f)[i]? = some (f x) := by simp [h]
theorem szStringS_loop (τ : Bool) (ss : List Str) (hlim : ss.length ≤ Lm) : ∀ left,
    (∃ r, lw progA L.laws_szStringS_0 ⟨[(0, .i τ (ss.map S)), (1, I left), (5, I 0)], []⟩ = some (.exit 0, ⟨[(1, I r)], []⟩)) ∨
    lw progA L.laws_szStringS_0 ⟨[(0, .i τ (ss.map S)), (1, I left), (5, I 0)], []⟩ = some (.ret, ⟨[(4, I (-1))], []⟩) := by
  refine for_ind ss (fun i r => ∀ left, (∃ r, lw progA L.laws_szStringS_0 ⟨[(0, .i τ (ss.map S)), (1, I left), (5, I i)], []⟩ = some (.exit 0, ⟨[(1, I r)], []⟩)) ∨
    lw progA L.laws_szStringS_0 ⟨[(0, .i τ (ss.map S)), (1, I left), (5, I i)], []⟩ = some (.ret, ⟨[(4, I (-1))], []⟩)) (by unfold Lm at hlim; omega) ?_ ?_
  · intro left
    refine .inl ⟨left, ?_⟩
    rw [lw_eq]
    simp only [go_sem, Nat.reduceAdd, Nat.reduceSub, Nat.reduceMul, Nat.reduceEqDiff, Nat.reduceLeDiff, Nat.reduceBEq, reduceCtorEq, LB.laws_szStringS_0]
  · intro i t r ht hi hlt e1 hir hm hr ih left
    have g := getmap (f := S) ht
    have a1 := addr_i (τ := τ) (T := []) (e := 1) g rfl
    rw [lw_eq]
    by_cases hneg : w64 (left - t.length) < 0
    · right; simp only [go_sem, Nat.reduceAdd, Nat.reduceSub, Nat.reduceMul, Nat.reduceEqDiff, Nat.reduceLeDiff, Nat.reduceBEq, reduceCtorEq, LB.laws_szStringS_0, hlt, a1, g, e1, hneg]
    · have := ih (w64 (left - t.length))
      simp only [go_sem, Nat.reduceAdd, Nat.reduceSub, Nat.reduceMul, Nat.reduceEqDiff, Nat.reduceLeDiff, Nat.reduceBEq, reduceCtorEq, LB.laws_szStringS_0, hlt, a1, g, e1, hneg]
      exact this
theorem szStringS_ok (τ : Bool) (ss : List Str) (hw : ss.length ≤ Lm) (left : Int) : ∃ m, cr progA F.laws_szStringS [.i τ (ss.map S), I left] = some (I m) := by
  rw [cr_fn pA_laws_szStringS rfl]
  by_cases hneg : w64 (left - ss.length) < 0
  · simp only [go_sem, Nat.reduceAdd, Nat.reduceSub, Nat.reduceMul, Nat.reduceEqDiff, Nat.reduceLeDiff, Nat.reduceBEq, reduceCtorEq, A.laws_szStringS, hneg]
    exact ⟨_, rfl⟩
  · rcases szStringS_loop τ ss hw (w64 (left - ss.length)) with ⟨r, h⟩ | h
    · simp only [go_sem, Nat.reduceAdd, Nat.reduceSub, Nat.reduceMul, Nat.reduceEqDiff, Nat.reduceLeDiff, Nat.reduceBEq, reduceCtorEq, A.laws_szStringS, hneg, h]
      exact ⟨_, rfl⟩
    · simp only [go_sem, Nat.reduceAdd, Nat.reduceSub, Nat.reduceMul, Nat.reduceEqDiff, Nat.reduceLeDiff, Nat.reduceBEq, reduceCtorEq, A.laws_szStringS, hneg, h]
      exact ⟨_, rfl⟩
theorem toStringS_loop (τ : Bool) (ts : List Str) (n : Nat) (hl : ts.length = n) (hlim : n ≤ Lm) (m : Nat) : ∀ i, i + m = n →
    lw progA L.laws_toStringS_0 ⟨[(0, .i τ (ts.map S)), (3, .s (100000, 0) 0 n), (4, I i)], [((100000, 0), 1, (ts.take i).map S ++ List.replicate m (S []))]⟩ =
      some (.exit 0, ⟨[(3, .s (100000, 0) 0 n)], [((100000, 0), 1, ts.map S)]⟩) := by
  unfold Lm at hlim
  induction m with
  | zero =>
    intro i hi
    obtain rfl : i = n := by omega
    rw [lw_eq]
    have h1 : ¬ (i : Int) < (i : Int) := by omega
    have h2 : (ts.take i).map S ++ List.replicate 0 (S []) = ts.map S := by simp [List.take_of_length_le (Nat.le_of_eq hl)]
    rw [h2]
    simp only [go_sem, Nat.reduceAdd, Nat.reduceSub, Nat.reduceMul, Nat.reduceEqDiff, Nat.reduceLeDiff, Nat.reduceBEq, reduceCtorEq, LB.laws_toStringS_0, hl, h1]
  | succ m ih =>
    intro i hi
    rw [lw_eq]
    have hlt : (i : Int) < (n : Int) := by omega
    obtain ⟨t, ht⟩ := get_some' (l := ts) (i := i) (by omega)
    have g := getmap (f := S) ht
    have a1 := addr_i (τ := τ) (e := 1) (T := [((100000, 0), 1, (ts.take i).map S ++ List.replicate (m + 1) (S []))]) g rfl
    have e1 : w64 ((i : Int) + 1) = ((i + 1 : Nat) : Int) := by rw [w64_id] <;> omega
    have r1 := row_len (f := S) (z := S []) ts i (m + 1) n hi hl
    have r2 := row_get (f := S) (z := S []) ts i m (by omega)
    have r3 := fun x => row_set (f := S) (z := S []) (x := x) ts i m (by omega)
    have r4 := row_next (f := S) ht (List.replicate m (S []))
    have i1 := ih (i + 1) (by omega)
    have kl : ∀ d, killL d ((ts.take i).map S ++ List.replicate (m + 1) (S [])) = (ts.take i).map S ++ List.replicate (m + 1) (S []) := fun d => by
      rw [killL_app, killL_S, killL_rep]; rfl
    have ix := ixO_some (k := (100000, 0)) (e := 1) (xs := (ts.take i).map S ++ List.replicate (m + 1) (S [])) (i := i) (len := n) (by omega) (by omega)
    simp only [go_sem, Nat.reduceAdd, Nat.reduceSub, Nat.reduceMul, Nat.reduceEqDiff, Nat.reduceLeDiff, Nat.reduceBEq, reduceCtorEq, LB.laws_toStringS_0, hl, hlt, a1, g, e1, kl, ix, r1, r2, r3, Option.map_some, r4]
    exact i1
theorem toStringS_ok (τ : Bool) (ts : List Str) (hlim : ts.length ≤ Lm) : cr progA F.laws_toStringS [.i τ (ts.map S)] = some (.o 1 (ts.map S)) := by
  rw [cr_fn pA_laws_toStringS rfl]
  have h := toStringS_loop τ ts ts.length rfl hlim ts.length 0 (by omega)
  simp only [Int.natCast_zero, List.take_zero, List.map_nil, List.nil_append] at h
  unfold Lm at hlim
  have mk := fun σ T => mkK_nat (σ := σ) (T := T) (e := 1) (bytes := 16) (z := S []) (n := ts.length) (d := 7) (by rw [lim_val]; omega) (by rw [lim_val]; omega) rfl rfl rfl
  simp only [go_sem, Nat.reduceAdd, Nat.reduceSub, Nat.reduceMul, Nat.reduceEqDiff, Nat.reduceLeDiff, Nat.reduceBEq, reduceCtorEq, A.laws_toStringS, mk, h]
theorem eqStringS_loop (τ τ' : Bool) (ts ts' : List Str) (hl : ts'.length = ts.length) (hlim : ts.length ≤ Lm) :
    lw progA L.laws_eqStringS_0 ⟨[(0, .i τ (ts.map S)), (1, .i τ' (ts'.map S)), (5, I 0)], []⟩ = if ts = ts' then some (.exit 0, ⟨[], []⟩) else some (.ret, ⟨[(4, B false)], []⟩) := by
  refine for_ind ts (fun i r => lw progA L.laws_eqStringS_0 ⟨[(0, .i τ (ts.map S)), (1, .i τ' (ts'.map S)), (5, I i)], []⟩ = if r = ts'.drop i then some (.exit 0, ⟨[], []⟩) else some (.ret, ⟨[(4, B false)], []⟩)) (by unfold Lm at hlim; omega) ?_ ?_
  · rw [List.drop_eq_nil_of_le (by omega), if_pos rfl, lw_eq]
    simp only [go_sem, Nat.reduceAdd, Nat.reduceSub, Nat.reduceMul, Nat.reduceEqDiff, Nat.reduceLeDiff, Nat.reduceBEq, reduceCtorEq, LB.laws_eqStringS_0]
  · intro i t r ht hi hlt e1 hir hm hr ih
    obtain ⟨t', ht'⟩ := get_some' (l := ts') (i := i) (by omega)
    have g := getmap (f := S) ht
    have g' := getmap (f := S) ht'
    have a1 := addr_i (τ := τ) (T := []) (e := 1) g rfl
    have a2 := addr_i (τ := τ') (T := []) (e := 1) g' rfl
    rw [drop_cons' ht', lw_eq]
    by_cases he : t = t'
    · subst he
      have : (t :: r = t :: ts'.drop (i + 1)) = (r = ts'.drop (i + 1)) := by simp
      simp only [this]
      rw [← ih]
      simp only [go_sem, Nat.reduceAdd, Nat.reduceSub, Nat.reduceMul, Nat.reduceEqDiff, Nat.reduceLeDiff, Nat.reduceBEq, reduceCtorEq, LB.laws_eqStringS_0, hlt, a1, a2, g, g', e1]
    · rw [if_neg (fun h => he (by cases h; rfl))]
      simp only [go_sem, Nat.reduceAdd, Nat.reduceSub, Nat.reduceMul, Nat.reduceEqDiff, Nat.reduceLeDiff, Nat.reduceBEq, reduceCtorEq, LB.laws_eqStringS_0, hlt, a1, a2, g, g', e1, he]
theorem eqStringS_ok (τ τ' : Bool) (ts ts' : List Str) (hw : ts.length ≤ Lm) :
    cr progA F.laws_eqStringS [.i τ (ts.map S), .i τ' (ts'.map S)] = some (B (decide (ts = ts'))) := by
  rw [cr_fn pA_laws_eqStringS rfl]
  by_cases hl : ts'.length = ts.length
  · have h := eqStringS_loop τ τ' ts ts' hl hw
    by_cases he : ts = ts'
    · rw [if_pos he] at h
      subst he
      simp only [go_sem, Nat.reduceAdd, Nat.reduceSub, Nat.reduceMul, Nat.reduceEqDiff, Nat.reduceLeDiff, Nat.reduceBEq, reduceCtorEq, A.laws_eqStringS, h]
    · rw [if_neg he] at h
      simp only [go_sem, Nat.reduceAdd, Nat.reduceSub, Nat.reduceMul, Nat.reduceEqDiff, Nat.reduceLeDiff, Nat.reduceBEq, reduceCtorEq, A.laws_eqStringS, hl, h, he]
  · have he : ¬ ts = ts' := fun h => hl (by rw [h])
    have hne : ¬ (ts.length : Int) = ts'.length := by omega
    simp only [go_sem, Nat.reduceAdd, Nat.reduceSub, Nat.reduceMul, Nat.reduceEqDiff, Nat.reduceLeDiff, Nat.reduceBEq, reduceCtorEq, A.laws_eqStringS, hne, he]
/-- terms -/
theorem termS_dummy : True := trivial
end Go.Vm

set_option autoImplicit false
set_option maxRecDepth 100000
set_option linter.unusedSimpArgs false
set_option linter.unusedVariables false
namespace Go.Vm
theorem szClause_ok (x : Cl) (hw : wCl x) (v : V) (left : Int) (h : bCl x v) : ∃ m, cr progA F.laws_szClause [v, I left] = some (I m) := by
  obtain ⟨τ0, vs0, τ1, vs1, rfl, h0, h1⟩ := h
  rw [cr_fn pA_laws_szClause rfl]
  obtain ⟨m1, e1⟩ := szTerm_ok x.head (hw.1).1 _ left (BT_of (τ := τ0) h0)
  by_cases n1 : m1 < 0
  · simp only [go_sem, Nat.reduceAdd, Nat.reduceSub, Nat.reduceMul, Nat.reduceEqDiff, Nat.reduceLeDiff, Nat.reduceBEq, reduceCtorEq, A.laws_szClause, e1, n1]; exact ⟨_, rfl⟩
  obtain ⟨m2, e2⟩ := szTerm_ok x.body (hw.2.1).1 _ m1 (BT_of (τ := τ1) h1)
  by_cases n2 : m2 < 0
  · simp only [go_sem, Nat.reduceAdd, Nat.reduceSub, Nat.reduceMul, Nat.reduceEqDiff, Nat.reduceLeDiff, Nat.reduceBEq, reduceCtorEq, A.laws_szClause, e1, n1, e2, n2]; exact ⟨_, rfl⟩
  by_cases n3 : w64 (m2 - x.file.length) < 0
  · simp only [go_sem, Nat.reduceAdd, Nat.reduceSub, Nat.reduceMul, Nat.reduceEqDiff, Nat.reduceLeDiff, Nat.reduceBEq, reduceCtorEq, A.laws_szClause, e1, n1, e2, n2, n3]; exact ⟨_, rfl⟩
  simp only [go_sem, Nat.reduceAdd, Nat.reduceSub, Nat.reduceMul, Nat.reduceEqDiff, Nat.reduceLeDiff, Nat.reduceBEq, reduceCtorEq, A.laws_szClause, e1, n1, e2, n2, n3]; exact ⟨_, rfl⟩
theorem toClause_ok (x : Cl) (hw : wCl x) (v : V) (h : bCl x v) : cr progA F.laws_toClause [v] = some (oCl x) := by
  obtain ⟨τ0, vs0, τ1, vs1, rfl, h0, h1⟩ := h
  have e1 := toTerm_ok x.head (hw.1).1 _ (BT_of (τ := τ0) h0)
  rw [oT_mk] at e1
  have e2 := toTerm_ok x.body (hw.2.1).1 _ (BT_of (τ := τ1) h1)
  rw [oT_mk] at e2
  rw [cr_fn pA_laws_toClause rfl, oCl]
  simp only [go_sem, Nat.reduceAdd, Nat.reduceSub, Nat.reduceMul, Nat.reduceEqDiff, Nat.reduceLeDiff, Nat.reduceBEq, reduceCtorEq, A.laws_toClause, e1, e2]
theorem eqClause_ok (x : Cl) (hw : wCl x) (y : Cl) (v v' : V) (h : bCl x v) (h' : bCl y v') : cr progA F.laws_eqClause [v, v'] = some (B (decide (x = y))) := by
  obtain ⟨τ0, vs0, τ1, vs1, rfl, h0, h1⟩ := h
  obtain ⟨τ0', vs0', τ1', vs1', rfl, h0', h1'⟩ := h'
  have e1 := eqTerm_ok x.head (hw.1).1 y.head _ _ (BT_of (τ := τ0) h0) (BT_of (τ := τ0') h0')
  have e2 := eqTerm_ok x.body (hw.2.1).1 y.body _ _ (BT_of (τ := τ1) h1) (BT_of (τ := τ1') h1')
  rw [cr_fn pA_laws_eqClause rfl]
  by_cases c0 : x.head = y.head
  case neg =>
    have d0 : decide (x.head = y.head) = false := decide_eq_false c0
    have hf : decide (x = y) = false := decide_eq_false fun h => c0 (by rw [h])
    simp only [go_sem, Nat.reduceAdd, Nat.reduceSub, Nat.reduceMul, Nat.reduceEqDiff, Nat.reduceLeDiff, Nat.reduceBEq, reduceCtorEq, A.laws_eqClause, e1, e2, d0, hf]
  have d0 : decide (x.head = y.head) = true := decide_eq_true c0
  by_cases c1 : x.body = y.body
  case neg =>
    have d1 : decide (x.body = y.body) = false := decide_eq_false c1
    have hf : decide (x = y) = false := decide_eq_false fun h => c1 (by rw [h])
    simp only [go_sem, Nat.reduceAdd, Nat.reduceSub, Nat.reduceMul, Nat.reduceEqDiff, Nat.reduceLeDiff, Nat.reduceBEq, reduceCtorEq, A.laws_eqClause, e1, e2, d0, d1, hf]
  have d1 : decide (x.body = y.body) = true := decide_eq_true c1
  by_cases c2 : x.file = y.file
  case neg =>
    have d2 : decide (x.file = y.file) = false := decide_eq_false c2
    have hf : decide (x = y) = false := decide_eq_false fun h => c2 (by rw [h])
    simp only [go_sem, Nat.reduceAdd, Nat.reduceSub, Nat.reduceMul, Nat.reduceEqDiff, Nat.reduceLeDiff, Nat.reduceBEq, reduceCtorEq, A.laws_eqClause, e1, e2, d0, d1, d2, hf]
  have d2 : decide (x.file = y.file) = true := decide_eq_true c2
  have hf : decide (x = y) = true := decide_eq_true (by cases x; cases y; simp only at c0 c1 c2; simp only [Cl.mk.injEq]; exact ⟨c0, c1, c2⟩)
  simp only [go_sem, Nat.reduceAdd, Nat.reduceSub, Nat.reduceMul, Nat.reduceEqDiff, Nat.reduceLeDiff, Nat.reduceBEq, reduceCtorEq, A.laws_eqClause, e1, e2, d0, d1, d2, hf]
theorem szClauseS_ok (τ : Bool) (vs : List V) (ts : List Cl) (hv : RL bCl ts vs) (hw : ts.length ≤ Lm) (hw' : ∀ t ∈ ts, wCl t) (left : Int) : ∃ m, cr progA F.laws_szClauseS [.i τ vs, I left] = some (I m) :=
  szS_ok (prog := progA) F.laws_szClauseS F.laws_szClause 9 rfl Cl_flat τ vs ts hv hw (fun t ht v left h => szClause_ok t (hw' t ht) v left h) left
theorem eqClauseS_ok (τ τ' : Bool) (vs vs' : List V) (ts ts' : List Cl) (hv : RL bCl ts vs) (hv' : RL bCl ts' vs') (hw : ts.length ≤ Lm) (hw' : ∀ t ∈ ts, wCl t) :
    cr progA F.laws_eqClauseS [.i τ vs, .i τ' vs'] = some (B (decide (ts = ts'))) := by
  have := eqS_ok (prog := progA) F.laws_eqClauseS F.laws_eqClause 9 rfl Cl_flat τ τ' vs vs' ts ts' hv hv' hw (fun t ht t' v v' h h' => by rw [eqClause_ok t (hw' t ht) t' v v' h h'])
  rw [this]
theorem toClauseS_loop (τ : Bool) (vs : List V) (ts : List Cl) (n : Nat) (hl : ts.length = n) (hv : RL bCl ts vs) (hlim : n ≤ Lm)
    (hc : ∀ t ∈ ts, ∀ v, bCl t v → cr progA F.laws_toClause [v] = some (oCl t)) (m : Nat) : ∀ i, i + m = n →
    lw progA L.laws_toClauseS_0 ⟨[(0, .i τ vs), (3, .s (100000, 0) 0 n), (4, I i)], [((100000, 0), 9, (ts.take i).map oCl ++ List.replicate m (V.a [I 0, S [], I 0, .n 4, I 0, S [], I 0, .n 4, S []]))]⟩ =
      some (.exit 0, ⟨[(3, .s (100000, 0) 0 n)], [((100000, 0), 9, ts.map oCl)]⟩) := by
  unfold Lm at hlim
  have hn := RL_length hv
  rw [hl] at hn
  induction m with
  | zero =>
    intro i hi
    obtain rfl : i = n := by omega
    rw [lw_eq]
    have h1 : ¬ (i : Int) < (i : Int) := by omega
    have h2 : (ts.take i).map oCl ++ List.replicate 0 (V.a [I 0, S [], I 0, .n 4, I 0, S [], I 0, .n 4, S []]) = ts.map oCl := by simp [List.take_of_length_le (Nat.le_of_eq hl)]
    rw [h2]
    simp only [go_sem, Nat.reduceAdd, Nat.reduceSub, Nat.reduceMul, Nat.reduceEqDiff, Nat.reduceLeDiff, Nat.reduceBEq, reduceCtorEq, LB.laws_toClauseS_0, hn, h1]
  | succ m ih =>
    intro i hi
    rw [lw_eq]
    have hlt : (i : Int) < (n : Int) := by omega
    obtain ⟨t, ht⟩ := get_some' (l := ts) (i := i) (by omega)
    obtain ⟨v, g, hb⟩ := RL_get hv ht
    have hcc := hc t (List.mem_of_getElem? ht) v hb
    have a1 := addr_i (τ := τ) (T := [((100000, 0), 9, (ts.take i).map oCl ++ List.replicate (m + 1) (V.a [I 0, S [], I 0, .n 4, I 0, S [], I 0, .n 4, S []]))]) g (Cl_flat _ _ hb).cells
    have e1 : w64 ((i : Int) + 1) = ((i + 1 : Nat) : Int) := by rw [w64_id] <;> omega
    have r1 := row_len (f := oCl) (z := V.a [I 0, S [], I 0, .n 4, I 0, S [], I 0, .n 4, S []]) ts i (m + 1) n hi hl
    have r2 := row_get (f := oCl) (z := V.a [I 0, S [], I 0, .n 4, I 0, S [], I 0, .n 4, S []]) ts i m (by omega)
    have r3 := fun x => row_set (f := oCl) (z := V.a [I 0, S [], I 0, .n 4, I 0, S [], I 0, .n 4, S []]) (x := x) ts i m (by omega)
    have r4 := row_next (f := oCl) ht (List.replicate m (V.a [I 0, S [], I 0, .n 4, I 0, S [], I 0, .n 4, S []]))
    have i1 := ih (i + 1) (by omega)
    obtain ⟨τ0, vs0, τ1, vs1, rfl, -, -⟩ := hb
    rw [oCl] at hcc r4
    have kl : ∀ d, killL d ((ts.take i).map oCl ++ List.replicate (m + 1) (V.a [I 0, S [], I 0, .n 4, I 0, S [], I 0, .n 4, S []])) = (ts.take i).map oCl ++ List.replicate (m + 1) (V.a [I 0, S [], I 0, .n 4, I 0, S [], I 0, .n 4, S []]) := fun d => by
      rw [killL_app, killL_mCl, killL_rep]; rfl
    have ix := ixO_some (k := (100000, 0)) (e := 9) (xs := (ts.take i).map oCl ++ List.replicate (m + 1) (V.a [I 0, S [], I 0, .n 4, I 0, S [], I 0, .n 4, S []])) (i := i) (len := n) (by omega) (by omega)
    have rp := fun k ob (y : V) (ys : List V) => repEs_app k ob ((ts.take i).map oCl) (y :: ys) (clEs_mCl _)
    simp only [go_sem, Nat.reduceAdd, Nat.reduceSub, Nat.reduceMul, Nat.reduceEqDiff, Nat.reduceLeDiff, Nat.reduceBEq, reduceCtorEq, LB.laws_toClauseS_0, hn, hlt, a1, g, hcc, e1, kl, ix, r1, r2, r3, rp, Option.map_some, r4]
    exact i1
theorem toClauseS_ok (τ : Bool) (vs : List V) (ts : List Cl) (hv : RL bCl ts vs) (hlim : ts.length ≤ Lm) (hw' : ∀ t ∈ ts, wCl t) : cr progA F.laws_toClauseS [.i τ vs] = some (.o 9 (ts.map oCl)) := by
  rw [cr_fn pA_laws_toClauseS rfl]
  have h := toClauseS_loop τ vs ts ts.length rfl hv hlim (fun t ht v h => toClause_ok t (hw' t ht) v h) ts.length 0 (by omega)
  simp only [Int.natCast_zero, List.take_zero, List.map_nil, List.nil_append] at h
  unfold Lm at hlim
  have mk := fun σ T => mkK_nat (σ := σ) (T := T) (e := 9) (bytes := 128) (z := V.a [I 0, S [], I 0, .n 4, I 0, S [], I 0, .n 4, S []]) (n := ts.length) (d := 7) (by rw [lim_val]; omega) (by rw [lim_val]; omega) rfl rfl rfl
  simp only [go_sem, Nat.reduceAdd, Nat.reduceSub, Nat.reduceMul, Nat.reduceEqDiff, Nat.reduceLeDiff, Nat.reduceBEq, reduceCtorEq, A.laws_toClauseS, RL_length hv, mk, h]
theorem szDb_ok (x : Db) (hw : wDb x) (v : V) (left : Int) (h : bDb x v) : ∃ m, cr progA F.laws_szDb [v, I left] = some (I m) := by
  obtain ⟨τ0, vs0, τ1, rfl, h0⟩ := h
  rw [cr_fn pA_laws_szDb rfl]
  obtain ⟨m1, e1⟩ := szClauseS_ok τ0 vs0 x.clauses h0 (hw.1).1 (hw.1).2 left
  by_cases n1 : m1 < 0
  · simp only [go_sem, Nat.reduceAdd, Nat.reduceSub, Nat.reduceMul, Nat.reduceEqDiff, Nat.reduceLeDiff, Nat.reduceBEq, reduceCtorEq, A.laws_szDb, e1, n1]; exact ⟨_, rfl⟩
  obtain ⟨m2, e2⟩ := szStringS_ok τ1 x.opn (hw.2).1 m1
  by_cases n2 : m2 < 0
  · simp only [go_sem, Nat.reduceAdd, Nat.reduceSub, Nat.reduceMul, Nat.reduceEqDiff, Nat.reduceLeDiff, Nat.reduceBEq, reduceCtorEq, A.laws_szDb, e1, n1, e2, n2]; exact ⟨_, rfl⟩
  simp only [go_sem, Nat.reduceAdd, Nat.reduceSub, Nat.reduceMul, Nat.reduceEqDiff, Nat.reduceLeDiff, Nat.reduceBEq, reduceCtorEq, A.laws_szDb, e1, n1, e2, n2]; exact ⟨_, rfl⟩
theorem toDb_ok (x : Db) (hw : wDb x) (v : V) (h : bDb x v) : cr progA F.laws_toDb [v] = some (oDb x) := by
  obtain ⟨τ0, vs0, τ1, rfl, h0⟩ := h
  have e1 := toClauseS_ok τ0 vs0 x.clauses h0 (hw.1).1 (hw.1).2
  have e2 := toStringS_ok τ1 x.opn (hw.2).1
  rw [cr_fn pA_laws_toDb rfl, oDb]
  simp only [go_sem, Nat.reduceAdd, Nat.reduceSub, Nat.reduceMul, Nat.reduceEqDiff, Nat.reduceLeDiff, Nat.reduceBEq, reduceCtorEq, A.laws_toDb, e1, e2]
theorem eqDb_ok (x : Db) (hw : wDb x) (y : Db) (v v' : V) (h : bDb x v) (h' : bDb y v') : cr progA F.laws_eqDb [v, v'] = some (B (decide (x = y))) := by
  obtain ⟨τ0, vs0, τ1, rfl, h0⟩ := h
  obtain ⟨τ0', vs0', τ1', rfl, h0'⟩ := h'
  have e1 := eqClauseS_ok τ0 τ0' vs0 vs0' x.clauses y.clauses h0 h0' (hw.1).1 (hw.1).2
  have e2 := eqStringS_ok τ1 τ1' x.opn y.opn (hw.2).1
  rw [cr_fn pA_laws_eqDb rfl]
  by_cases c0 : x.clauses = y.clauses
  case neg =>
    have d0 : decide (x.clauses = y.clauses) = false := decide_eq_false c0
    have hf : decide (x = y) = false := decide_eq_false fun h => c0 (by rw [h])
    simp only [go_sem, Nat.reduceAdd, Nat.reduceSub, Nat.reduceMul, Nat.reduceEqDiff, Nat.reduceLeDiff, Nat.reduceBEq, reduceCtorEq, A.laws_eqDb, e1, e2, d0, hf]
  have d0 : decide (x.clauses = y.clauses) = true := decide_eq_true c0
  by_cases c1 : x.opn = y.opn
  case neg =>
    have d1 : decide (x.opn = y.opn) = false := decide_eq_false c1
    have hf : decide (x = y) = false := decide_eq_false fun h => c1 (by rw [h])
    simp only [go_sem, Nat.reduceAdd, Nat.reduceSub, Nat.reduceMul, Nat.reduceEqDiff, Nat.reduceLeDiff, Nat.reduceBEq, reduceCtorEq, A.laws_eqDb, e1, e2, d0, d1, hf]
  have d1 : decide (x.opn = y.opn) = true := decide_eq_true c1
  have hf : decide (x = y) = true := decide_eq_true (by cases x; cases y; simp only at c0 c1; simp only [Db.mk.injEq]; exact ⟨c0, c1⟩)
  simp only [go_sem, Nat.reduceAdd, Nat.reduceSub, Nat.reduceMul, Nat.reduceEqDiff, Nat.reduceLeDiff, Nat.reduceBEq, reduceCtorEq, A.laws_eqDb, e1, e2, d0, d1, hf]
end Go.Vm

set_option autoImplicit false
set_option maxRecDepth 100000
set_option linter.unusedSimpArgs false
set_option linter.unusedVariables false
namespace Go.Vm
/-! ### the place of a number in a list -/
def idxFrom (n : Int) : Nat → List Int → Int
  | _, [] => -1
  | i, x :: xs => if n = x then (i : Int) else idxFrom n (i + 1) xs
theorem idxFrom_ge (n : Int) : ∀ (l : List Int) (i : Nat), (n ∈ l → (i : Int) ≤ idxFrom n i l ∧ idxFrom n i l < i + l.length) ∧ (n ∉ l → idxFrom n i l = -1)
  | [], i => ⟨fun h => (by cases h), fun _ => rfl⟩
  | x :: xs, i => by
    obtain ⟨h1, h2⟩ := idxFrom_ge n xs (i + 1)
    by_cases h : n = x
    · subst h; simp [idxFrom]; omega
    · simp only [idxFrom, if_neg h, List.mem_cons, h, false_or, List.length_cons]
      exact ⟨fun hm => by have := h1 hm; omega, h2⟩
theorem idxFrom_mem (n : Int) (l : List Int) : 0 ≤ idxFrom n 0 l ↔ n ∈ l := by
  obtain ⟨h1, h2⟩ := idxFrom_ge n l 0
  by_cases h : n ∈ l
  · simp only [h, iff_true]; have := h1 h; omega
  · simp only [h, iff_false, h2 h]; omega
theorem Index_loop (τ : Bool) (l : List Int) (n : Int) (hlim : l.length ≤ 2^40) :
    lw progA L.slices_Index_int_int_0 ⟨[(0, .i τ (l.map I)), (1, I n), (7, I l.length), (8, I (0 : Nat))], []⟩ = if n ∈ l then some (.ret, ⟨[(4, I (idxFrom n 0 l))], []⟩) else some (.exit 0, ⟨[], []⟩) := by
  refine for_ind l (fun i r => lw progA L.slices_Index_int_int_0 ⟨[(0, .i τ (l.map I)), (1, I n), (7, I l.length), (8, I i)], []⟩ = if n ∈ r then some (.ret, ⟨[(4, I (idxFrom n i r))], []⟩) else some (.exit 0, ⟨[], []⟩)) (by omega) ?_ ?_
  · rw [lw_eq]
    simp only [go_sem, Nat.reduceAdd, Nat.reduceSub, Nat.reduceMul, Nat.reduceEqDiff, Nat.reduceLeDiff, Nat.reduceBEq, reduceCtorEq, LB.slices_Index_int_int_0, List.not_mem_nil]
  · intro i t r ht hi hlt e1 hir hm hr ih
    have g := getmap (f := I) ht
    have a1 := addr_i (τ := τ) (T := []) (e := 1) g rfl
    rw [lw_eq]
    by_cases he : n = t
    · subst he
      simp only [go_sem, Nat.reduceAdd, Nat.reduceSub, Nat.reduceMul, Nat.reduceEqDiff, Nat.reduceLeDiff, Nat.reduceBEq, reduceCtorEq, LB.slices_Index_int_int_0, hlt, a1, g, e1, List.mem_cons, true_or, idxFrom]
    · have he' : ¬ t = n := fun h => he h.symm
      simp only [go_sem, Nat.reduceAdd, Nat.reduceSub, Nat.reduceMul, Nat.reduceEqDiff, Nat.reduceLeDiff, Nat.reduceBEq, reduceCtorEq, LB.slices_Index_int_int_0, hlt, a1, g, e1, he, he', List.mem_cons, false_or, idxFrom]
      exact ih
theorem Index_ok (τ : Bool) (l : List Int) (n : Int) (hlim : l.length ≤ 2^40) : cr progA F.slices_Index_int_int [.i τ (l.map I), I n] = some (I (idxFrom n 0 l)) := by
  rw [cr_fn pA_slices_Index_int_int rfl]
  have h := Index_loop τ l n hlim
  simp only [Int.natCast_zero] at h
  by_cases hm : n ∈ l
  · rw [if_pos hm] at h
    simp only [go_sem, Nat.reduceAdd, Nat.reduceSub, Nat.reduceMul, Nat.reduceEqDiff, Nat.reduceLeDiff, Nat.reduceBEq, reduceCtorEq, A.slices_Index_int_int, h]
  · rw [if_neg hm] at h
    simp only [go_sem, Nat.reduceAdd, Nat.reduceSub, Nat.reduceMul, Nat.reduceEqDiff, Nat.reduceLeDiff, Nat.reduceBEq, reduceCtorEq, A.slices_Index_int_int, h, (idxFrom_ge n l 0).2 hm]
theorem Contains_ok (τ : Bool) (l : List Int) (n : Int) (hlim : l.length ≤ 2^40) : cr progA F.slices_Contains_int_int [.i τ (l.map I), I n] = some (B (decide (n ∈ l))) := by
  rw [cr_fn pA_slices_Contains_int_int rfl]
  have h := Index_ok τ l n hlim
  have hm : decide (0 ≤ idxFrom n 0 l) = decide (n ∈ l) := decide_eq_decide.2 (idxFrom_mem n l)
  simp only [go_sem, Nat.reduceAdd, Nat.reduceSub, Nat.reduceMul, Nat.reduceEqDiff, Nat.reduceLeDiff, Nat.reduceBEq, reduceCtorEq, A.slices_Contains_int_int, h, hm]
theorem l03At_loop (τ : Bool) (l : List Int) (n : Int) (hlim : l.length ≤ 2^40) :
    lw progA L.spec_l03At_0 ⟨[(0, .i τ (l.map I)), (1, I n), (5, I (0 : Nat))], []⟩ = if n ∈ l then some (.ret, ⟨[(4, I (idxFrom n 0 l))], []⟩) else some (.exit 0, ⟨[], []⟩) := by
  refine for_ind l (fun i r => lw progA L.spec_l03At_0 ⟨[(0, .i τ (l.map I)), (1, I n), (5, I i)], []⟩ = if n ∈ r then some (.ret, ⟨[(4, I (idxFrom n i r))], []⟩) else some (.exit 0, ⟨[], []⟩)) (by omega) ?_ ?_
  · rw [lw_eq]
    simp only [go_sem, Nat.reduceAdd, Nat.reduceSub, Nat.reduceMul, Nat.reduceEqDiff, Nat.reduceLeDiff, Nat.reduceBEq, reduceCtorEq, LB.spec_l03At_0, List.not_mem_nil]
  · intro i t r ht hi hlt e1 hir hm hr ih
    have g := getmap (f := I) ht
    have a1 := addr_i (τ := τ) (T := []) (e := 1) g rfl
    rw [lw_eq]
    by_cases he : n = t
    · subst he
      simp only [go_sem, Nat.reduceAdd, Nat.reduceSub, Nat.reduceMul, Nat.reduceEqDiff, Nat.reduceLeDiff, Nat.reduceBEq, reduceCtorEq, LB.spec_l03At_0, hlt, a1, g, e1, List.mem_cons, true_or, idxFrom]
    · have he' : ¬ t = n := fun h => he h.symm
      simp only [go_sem, Nat.reduceAdd, Nat.reduceSub, Nat.reduceMul, Nat.reduceEqDiff, Nat.reduceLeDiff, Nat.reduceBEq, reduceCtorEq, LB.spec_l03At_0, hlt, a1, g, e1, he, he', List.mem_cons, false_or, idxFrom]
      exact ih
theorem l03At_ok (τ : Bool) (l : List Int) (n : Int) (hlim : l.length ≤ 2^40) : cr progA F.spec_l03At [.i τ (l.map I), I n] = some (I (idxFrom n 0 l)) := by
  rw [cr_fn pA_spec_l03At rfl]
  have h := l03At_loop τ l n hlim
  simp only [Int.natCast_zero] at h
  by_cases hm : n ∈ l
  · rw [if_pos hm] at h
    simp only [go_sem, Nat.reduceAdd, Nat.reduceSub, Nat.reduceMul, Nat.reduceEqDiff, Nat.reduceLeDiff, Nat.reduceBEq, reduceCtorEq, A.spec_l03At, h]
  · rw [if_neg hm] at h
    simp only [go_sem, Nat.reduceAdd, Nat.reduceSub, Nat.reduceMul, Nat.reduceEqDiff, Nat.reduceLeDiff, Nat.reduceBEq, reduceCtorEq, A.spec_l03At, h, (idxFrom_ge n l 0).2 hm]
theorem l03Has_loop (τ : Bool) (l : List Int) (n : Int) (hlim : l.length ≤ 2^40) :
    lw progA L.spec_l03Has_0 ⟨[(0, .i τ (l.map I)), (1, I n), (5, I (0 : Nat))], []⟩ = if n ∈ l then some (.ret, ⟨[(4, B true)], []⟩) else some (.exit 0, ⟨[], []⟩) := by
  refine for_ind l (fun i r => lw progA L.spec_l03Has_0 ⟨[(0, .i τ (l.map I)), (1, I n), (5, I i)], []⟩ = if n ∈ r then some (.ret, ⟨[(4, B true)], []⟩) else some (.exit 0, ⟨[], []⟩)) (by omega) ?_ ?_
  · rw [lw_eq]
    simp only [go_sem, Nat.reduceAdd, Nat.reduceSub, Nat.reduceMul, Nat.reduceEqDiff, Nat.reduceLeDiff, Nat.reduceBEq, reduceCtorEq, LB.spec_l03Has_0, List.not_mem_nil]
  · intro i t r ht hi hlt e1 hir hm hr ih
    have g := getmap (f := I) ht
    have a1 := addr_i (τ := τ) (T := []) (e := 1) g rfl
    rw [lw_eq]
    by_cases he : n = t
    · subst he
      simp only [go_sem, Nat.reduceAdd, Nat.reduceSub, Nat.reduceMul, Nat.reduceEqDiff, Nat.reduceLeDiff, Nat.reduceBEq, reduceCtorEq, LB.spec_l03Has_0, hlt, a1, g, e1, List.mem_cons, true_or]
    · have he' : ¬ t = n := fun h => he h.symm
      simp only [go_sem, Nat.reduceAdd, Nat.reduceSub, Nat.reduceMul, Nat.reduceEqDiff, Nat.reduceLeDiff, Nat.reduceBEq, reduceCtorEq, LB.spec_l03Has_0, hlt, a1, g, e1, he, he', List.mem_cons, false_or]
      exact ih
theorem l03Has_ok (τ : Bool) (l : List Int) (n : Int) (hlim : l.length ≤ 2^40) : cr progA F.spec_l03Has [.i τ (l.map I), I n] = some (B (decide (n ∈ l))) := by
  rw [cr_fn pA_spec_l03Has rfl]
  have h := l03Has_loop τ l n hlim
  simp only [Int.natCast_zero] at h
  by_cases hm : n ∈ l
  · rw [if_pos hm] at h
    simp only [go_sem, Nat.reduceAdd, Nat.reduceSub, Nat.reduceMul, Nat.reduceEqDiff, Nat.reduceLeDiff, Nat.reduceBEq, reduceCtorEq, A.spec_l03Has, h, hm]
  · rw [if_neg hm] at h
    simp only [go_sem, Nat.reduceAdd, Nat.reduceSub, Nat.reduceMul, Nat.reduceEqDiff, Nat.reduceLeDiff, Nat.reduceBEq, reduceCtorEq, A.spec_l03Has, h, hm]
end Go.Vm

set_option autoImplicit false
set_option maxRecDepth 100000
set_option linter.unusedSimpArgs false
set_option linter.unusedVariables false
namespace Go.Vm
/-! ### the numbers of a term's variables -/
mutual
def addVars (l : List Int) : Tm → List Int
  | .mk k _ n ks => addVarsL (if k = 1 ∧ n ∉ l then l ++ [n] else l) ks
def addVarsL (l : List Int) : List Tm → List Int
  | [] => l
  | t :: ts => addVarsL (addVars l t) ts
end
def varsOf (t : Tm) : List Int := addVars [] t
mutual
theorem addVars_len : ∀ (t : Tm) (l : List Int), (addVars l t).length ≤ l.length + nT t
  | .mk k s n ks, l => by
    simp only [addVars, nT]
    have := addVarsL_len ks (if k = 1 ∧ n ∉ l then l ++ [n] else l)
    have h2 : (if k = 1 ∧ n ∉ l then l ++ [n] else l).length ≤ l.length + 1 := by split <;> simp
    omega
theorem addVarsL_len : ∀ (ts : List Tm) (l : List Int), (addVarsL l ts).length ≤ l.length + nTs ts
  | [], l => by simp [addVarsL, nTs]
  | t :: ts, l => by
    simp only [addVarsL, nTs]
    have := addVars_len t l
    have := addVarsL_len ts (addVars l t)
    omega
end
theorem addVars_mk (t : Tm) (l : List Int) : addVars l t = addVarsL (if t.kind = 1 ∧ t.num ∉ l then l ++ [t.num] else l) t.kids := by cases t; rfl
theorem addVars_loop (τ : Bool) (vs : List V) (ts : List Tm) (n : Nat) (hl : ts.length = n) (hv : RL BT ts vs) (hlim : n ≤ Lm)
    (hc : ∀ t ∈ ts, ∀ (l : List Int) v, l.length + nT t ≤ 2^32 → BT t v → cw progA F.impl_addVars [.o 1 (l.map I), v] = some (.o 1 ((addVars l t).map I), [.d, v])) (m : Nat) : ∀ i (l : List Int), i + m = n →
    l.length + nTs (ts.drop i) ≤ 2^32 →
    lw progA L.impl_addVars_0 ⟨[(0, .s (100000, 0) 0 l.length), (23, .i τ vs), (24, I n), (25, I i)], [((100000, 0), 1, l.map I)]⟩ =
      some (.exit 0, ⟨[(0, .s (100000, 0) 0 (addVarsL l (ts.drop i)).length)], [((100000, 0), 1, (addVarsL l (ts.drop i)).map I)]⟩) := by
  have hn := RL_length hv
  rw [hl] at hn
  induction m with
  | zero =>
    intro i l hi hb
    obtain rfl : i = n := by omega
    rw [lw_eq]
    have h1 : ¬ (i : Int) < (i : Int) := by omega
    rw [List.drop_eq_nil_of_le (by omega), addVarsL]
    simp only [go_sem, Nat.reduceAdd, Nat.reduceSub, Nat.reduceMul, Nat.reduceEqDiff, Nat.reduceLeDiff, Nat.reduceBEq, reduceCtorEq, LB.impl_addVars_0, h1]
  | succ m ih =>
    intro i l hi hb
    rw [lw_eq]
    have hlt : (i : Int) < (n : Int) := by omega
    obtain ⟨t, ht⟩ := get_some' (l := ts) (i := i) (by omega)
    obtain ⟨v, g, hbt⟩ := RL_get hv ht
    rw [drop_cons' ht, addVarsL]
    rw [drop_cons' ht, nTs] at hb
    have hcc := hc t (List.mem_of_getElem? ht) l v (by omega) hbt
    have hlen := addVars_len t l
    have a1 := fun T => addr_i (τ := τ) (T := T) g (BT_cells hbt)
    unfold Lm at hlim
    have e1 : w64 ((i : Int) + 1) = ((i + 1 : Nat) : Int) := by rw [w64_id] <;> omega
    have i1 := ih (i + 1) (addVars l t) (by omega) (by omega)
    obtain ⟨σ1, ks, rfl, -⟩ := BT_shape hbt
    simp only [go_sem, Nat.reduceAdd, Nat.reduceSub, Nat.reduceMul, Nat.reduceEqDiff, Nat.reduceLeDiff, Nat.reduceBEq, reduceCtorEq, LB.impl_addVars_0, hlt, a1, g, hcc, e1]
    exact i1
theorem impl_addVars_ok : ∀ (t : Tm), WT t → ∀ (l : List Int) v, l.length + nT t ≤ 2^32 → BT t v → cw progA F.impl_addVars [.o 1 (l.map I), v] = some (.o 1 ((addVars l t).map I), [.d, v]) := by
  refine Tm.ind ?_
  intro k s n ks ih hw l v hb hbt
  obtain ⟨τ, vs, rfl, hv⟩ := BT_shape hbt
  rw [cw_fn pA_impl_addVars rfl]
  simp only [nT] at hb
  have hlp := fun l hb => addVars_loop τ vs ks ks.length rfl hv (WT_len hw) (fun t ht => ih t ht (WT_kids hw t ht)) ks.length 0 l (by omega) hb
  simp only [List.drop_zero, Int.natCast_zero] at hlp
  rw [addVars]
  by_cases h1 : k = 1
  · subst h1
    by_cases h2 : n ∈ l
    · have h := hlp l (by omega)
      have hco := Contains_ok true l n (by omega)
      rw [if_neg (fun h => h.2 h2)]
      simp only [go_sem, Nat.reduceAdd, Nat.reduceSub, Nat.reduceMul, Nat.reduceEqDiff, Nat.reduceLeDiff, Nat.reduceBEq, reduceCtorEq, A.impl_addVars, hco, h2, finish, RL_length hv, h]
    · have h := hlp (l ++ [n]) (by simp only [List.length_append, List.length_cons, List.length_nil]; omega)
      have hco := Contains_ok true l n (by omega)
      rw [if_pos ⟨rfl, h2⟩]
      have b1 : (l.length + 1) * 8 ≤ lim := by rw [lim_val]; omega
      have b2 : l.length + 1 ≤ lim := by rw [lim_val]; omega
      simp only [List.length_append, List.length_cons, List.length_nil, Nat.zero_add] at h
      simp only [go_sem, Nat.reduceAdd, Nat.reduceSub, Nat.reduceMul, Nat.reduceEqDiff, Nat.reduceLeDiff, Nat.reduceBEq, reduceCtorEq, A.impl_addVars, hco, h2, finish, RL_length hv, b1, b2, h]
  · have h := hlp l (by omega)
    rw [if_neg (fun h => h1 h.1)]
    simp only [go_sem, Nat.reduceAdd, Nat.reduceSub, Nat.reduceMul, Nat.reduceEqDiff, Nat.reduceLeDiff, Nat.reduceBEq, reduceCtorEq, A.impl_addVars, h1, finish, RL_length hv, h]
theorem impl_VarsOf_ok (t : Tm) (hw : WT t) (hn : nT t ≤ 2^32) (v : V) (hb : BT t v) : cr progA F.impl_VarsOf [v] = some (.o 1 ((varsOf t).map I)) := by
  have h := impl_addVars_ok t hw [] v (by simpa using hn) hb
  obtain ⟨τ, vs, rfl, -⟩ := BT_shape hb
  simp only [List.map_nil] at h
  rw [cr_fn pA_impl_VarsOf rfl, varsOf]
  simp only [go_sem, Nat.reduceAdd, Nat.reduceSub, Nat.reduceMul, Nat.reduceEqDiff, Nat.reduceLeDiff, Nat.reduceBEq, reduceCtorEq, A.impl_VarsOf, h]
theorem l03Vars_loop (τ : Bool) (t0 : Tm) (vs : List V) (n : Nat) (hl : t0.kids.length = n) (hv : RL BT t0.kids vs) (hlim : n ≤ Lm)
    (hc : ∀ t ∈ t0.kids, ∀ (l : List Int) v, l.length + nT t ≤ 2^32 → BT t v → cw progA F.spec_l03Vars [v, .o 1 (l.map I)] = some (.o 1 ((addVars l t).map I), [v, .d])) (m : Nat) : ∀ i (l : List Int), i + m = n →
    l.length + nTs (t0.kids.drop i) ≤ 2^32 →
    lw progA L.spec_l03Vars_0 ⟨[(1, .s (100000, 0) 0 l.length), (2, .p (100000, 1) 0 0), (5, I i)], [((100000, 0), 1, l.map I), ((100000, 1), 4, [.a [I t0.kind, S t0.name, I t0.num, .i τ vs]])]⟩ =
      some (.exit 0, ⟨[(1, .s (100000, 0) 0 (addVarsL l (t0.kids.drop i)).length)], [((100000, 0), 1, (addVarsL l (t0.kids.drop i)).map I), ((100000, 1), 4, [.a [I t0.kind, S t0.name, I t0.num, .i τ vs]])]⟩) := by
  have hn := RL_length hv
  rw [hl] at hn
  induction m with
  | zero =>
    intro i l hi hb
    obtain rfl : i = n := by omega
    rw [lw_eq]
    have h1 : ¬ (i : Int) < (i : Int) := by omega
    rw [List.drop_eq_nil_of_le (by omega), addVarsL]
    simp only [go_sem, Nat.reduceAdd, Nat.reduceSub, Nat.reduceMul, Nat.reduceEqDiff, Nat.reduceLeDiff, Nat.reduceBEq, reduceCtorEq, LB.spec_l03Vars_0, h1, hn]
  | succ m ih =>
    intro i l hi hb
    rw [lw_eq]
    have hlt : (i : Int) < (n : Int) := by omega
    obtain ⟨t, ht⟩ := get_some' (l := t0.kids) (i := i) (by omega)
    obtain ⟨v, g, hbt⟩ := RL_get hv ht
    rw [drop_cons' ht, addVarsL]
    rw [drop_cons' ht, nTs] at hb
    have hcc := hc t (List.mem_of_getElem? ht) l v (by omega) hbt
    have hlen := addVars_len t l
    have a1 := fun T => addr_i (τ := τ) (T := T) g (BT_cells hbt)
    unfold Lm at hlim
    have e1 : w64 ((i : Int) + 1) = ((i + 1 : Nat) : Int) := by rw [w64_id] <;> omega
    have i1 := ih (i + 1) (addVars l t) (by omega) (by omega)
    obtain ⟨σ1, ks, rfl, -⟩ := BT_shape hbt
    simp only [go_sem, Nat.reduceAdd, Nat.reduceSub, Nat.reduceMul, Nat.reduceEqDiff, Nat.reduceLeDiff, Nat.reduceBEq, reduceCtorEq, LB.spec_l03Vars_0, hlt, a1, g, hcc, e1, hn]
    exact i1
theorem spec_l03Vars_ok : ∀ (t : Tm), WT t → ∀ (l : List Int) v, l.length + nT t ≤ 2^32 → BT t v → cw progA F.spec_l03Vars [v, .o 1 (l.map I)] = some (.o 1 ((addVars l t).map I), [v, .d]) := by
  refine Tm.ind ?_
  intro k s n ks ih hw l v hb hbt
  obtain ⟨τ, vs, rfl, hv⟩ := BT_shape hbt
  rw [cw_fn pA_spec_l03Vars rfl]
  simp only [nT] at hb
  have hlp := fun l hb => l03Vars_loop τ (.mk k s n ks) vs ks.length rfl hv (WT_len hw) (fun t ht => ih t ht (WT_kids hw t ht)) ks.length 0 l (by omega) hb
  simp only [List.drop_zero, Int.natCast_zero, Tm.kids_mk, Tm.kind_mk, Tm.name_mk, Tm.num_mk] at hlp
  rw [addVars]
  by_cases h1 : k = 1
  · subst h1
    by_cases h2 : n ∈ l
    · have h := hlp l (by omega)
      have hco := l03Has_ok true l n (by omega)
      rw [if_neg (fun h => h.2 h2)]
      simp only [go_sem, Nat.reduceAdd, Nat.reduceSub, Nat.reduceMul, Nat.reduceEqDiff, Nat.reduceLeDiff, Nat.reduceBEq, reduceCtorEq, A.spec_l03Vars, hco, h2, finish, RL_length hv, h]
    · have h := hlp (l ++ [n]) (by simp only [List.length_append, List.length_cons, List.length_nil]; omega)
      have hco := l03Has_ok true l n (by omega)
      rw [if_pos ⟨rfl, h2⟩]
      have b1 : (l.length + 1) * 8 ≤ lim := by rw [lim_val]; omega
      have b2 : l.length + 1 ≤ lim := by rw [lim_val]; omega
      simp only [List.length_append, List.length_cons, List.length_nil, Nat.zero_add] at h
      simp only [go_sem, Nat.reduceAdd, Nat.reduceSub, Nat.reduceMul, Nat.reduceEqDiff, Nat.reduceLeDiff, Nat.reduceBEq, reduceCtorEq, A.spec_l03Vars, hco, h2, finish, RL_length hv, b1, b2, h]
  · have h := hlp l (by omega)
    rw [if_neg (fun h => h1 h.1)]
    simp only [go_sem, Nat.reduceAdd, Nat.reduceSub, Nat.reduceMul, Nat.reduceEqDiff, Nat.reduceLeDiff, Nat.reduceBEq, reduceCtorEq, A.spec_l03Vars, h1, finish, RL_length hv, h]
theorem spec_VarsOf_ok (t : Tm) (hw : WT t) (hn : nT t ≤ 2^32) (v : V) (hb : BT t v) : cr progA F.spec_VarsOf [v] = some (.o 1 ((varsOf t).map I)) := by
  have h := spec_l03Vars_ok t hw [] v (by simpa using hn) hb
  obtain ⟨τ, vs, rfl, -⟩ := BT_shape hb
  simp only [List.map_nil] at h
  rw [cr_fn pA_spec_VarsOf rfl, varsOf]
  simp only [go_sem, Nat.reduceAdd, Nat.reduceSub, Nat.reduceMul, Nat.reduceEqDiff, Nat.reduceLeDiff, Nat.reduceBEq, reduceCtorEq, A.spec_VarsOf, h]
end Go.Vm

set_option autoImplicit false
set_option maxRecDepth 100000
set_option linter.unusedSimpArgs false
set_option linter.unusedVariables false
namespace Go.Vm
/-! ### what a function value has caught, read only -/
def Snap (caps : List V) : Prop := ∀ c ∈ caps, ∃ xs i o, c = .q true xs i o
theorem snap_close {caps : List V} (h : Snap caps) (m : Nat) (T : Mem) : mapT (closeV (m + 1)) T caps = (caps, T) := by
  induction caps with
  | nil => rfl
  | cons c cs ih =>
    obtain ⟨xs, i, o, rfl⟩ := h c (by simp)
    simp only [mapT, closeV_q, ih fun u hu => h u (by simp [hu])]
theorem snap_conv {caps : List V} (h : Snap caps) (τ : Bool) : convL τ caps = caps := by
  induction caps with
  | nil => rfl
  | cons c cs ih =>
    obtain ⟨xs, i, o, rfl⟩ := h c (by simp)
    simp only [convL, conv, ih fun u hu => h u (by simp [hu])]
theorem snap_zero {caps : List V} (h : Snap caps) : zeroBL caps = true := by
  induction caps with
  | nil => rfl
  | cons c cs ih =>
    obtain ⟨xs, i, o, rfl⟩ := h c (by simp)
    simp only [zeroBL, zeroB, ih fun u hu => h u (by simp [hu]), Bool.and_self]
theorem snap_kill {caps : List V} (h : Snap caps) (d : Nat) : killL d caps = caps := by
  induction caps with
  | nil => rfl
  | cons c cs ih =>
    obtain ⟨xs, i, o, rfl⟩ := h c (by simp)
    simp only [killL, killV, ih fun u hu => h u (by simp [hu])]
theorem snap_dir {caps : List V} (h : Snap caps) : dirL caps = [] := by
  induction caps with
  | nil => rfl
  | cons c cs ih =>
    obtain ⟨xs, i, o, rfl⟩ := h c (by simp)
    simp only [dirL, dirV, ih fun u hu => h u (by simp [hu]), List.append_nil]
theorem snap_nil {caps : List V} (h : Snap caps) (d i : Nat) (nm : Bool) : nilL d i nm caps = caps := by
  induction caps generalizing i with
  | nil => rfl
  | cons c cs ih =>
    obtain ⟨xs, a, o, rfl⟩ := h c (by simp)
    simp only [nilL, nilV_q, ih (fun u hu => h u (by simp [hu]))]
theorem snap_ren {caps : List V} (h : Snap caps) (tb : List Key) : renL tb caps = caps := by
  induction caps with
  | nil => rfl
  | cons c cs ih =>
    obtain ⟨xs, i, o, rfl⟩ := h c (by simp)
    simp only [renL, renV_q, ih fun u hu => h u (by simp [hu])]
theorem snap_open {caps : List V} (h : Snap caps) (d j : Nat) : openL d j caps = (caps, j, []) := by
  induction caps generalizing j with
  | nil => rfl
  | cons c cs ih =>
    obtain ⟨xs, i, o, rfl⟩ := h c (by simp)
    simp only [openL, openX_q, ih (fun u hu => h u (by simp [hu])), List.append_nil]

theorem snap_args {caps : List V} (h : Snap caps) (T : Mem) : snapArgs T caps = caps := by
  induction caps with
  | nil => rfl
  | cons c cs ih =>
    obtain ⟨xs, i, o, rfl⟩ := h c (by simp)
    simp only [snapArgs, closeV_q, conv, ih fun u hu => h u (by simp [hu])]
@[go_sem] theorem take_map2 {α β : Type} {f : α → β} {g : β → V} {l : List α} : ((l.map f).map g).take l.length = (l.map f).map g := by
  apply List.take_of_length_le; simp
/-! ### a term with other numbers -/
mutual
def rnm (φ : Int → Int) : Tm → Tm
  | .mk k s n ks => .mk k s (if k = 1 then φ n else n) (rnms φ ks)
def rnms (φ : Int → Int) : List Tm → List Tm
  | [] => []
  | t :: ts => rnm φ t :: rnms φ ts
end
theorem rnms_eq (φ : Int → Int) : ∀ (ts : List Tm), rnms φ ts = ts.map (rnm φ)
  | [] => rfl
  | t :: ts => by simp only [rnms, List.map_cons, rnms_eq φ ts]
theorem rnm_mk (φ : Int → Int) (t : Tm) : rnm φ t = .mk t.kind t.name (if t.kind = 1 then φ t.num else t.num) (t.kids.map (rnm φ)) := by
  cases t; simp only [rnm, rnms_eq]; rfl
theorem mapSnoc {α β : Type} (f : α → β) {ts : List α} {i : Nat} {t : α} (h : ts[i]? = some t) : (ts.take i).map f ++ [f t] = (ts.take (i + 1)).map f := by
  rw [List.take_succ_eq_append_getElem (List.getElem?_eq_some_iff.1 h).1]
  simp [(List.getElem?_eq_some_iff.1 h).2]
theorem _root_.List.map_map' {α β γ : Type} {f : α → β} {g : β → γ} {l : List α} : (l.map f).map g = l.map fun x => g (f x) := by simp
theorem renamed_loop (g : Nat) (caps : List V) (hs : Snap caps) (φ : Int → Int) (τ : Bool) (vs : List V) (ts : List Tm) (hv : RL BT ts vs) (hlim : ts.length ≤ Lm) (k num : Int) (s : Str)
    (hc : ∀ t ∈ ts, ∀ v, BT t v → cr progA F.impl_renamed [v, .f (.func g) [] caps] = some (oT (rnm φ t))) :
    lw progA L.impl_renamed_0 ⟨[(1, .f (.func g) [] caps), (4, .p (100000, 0) 0 0), (5, .p (100000, 1) 0 0), (19, .i τ vs), (20, I ts.length), (21, I 0)],
        [((100000, 0), 4, [.a [I 0, S [], I 0, .s (100000, 2) 0 0]]), ((100000, 1), 4, [.a [I k, S s, I num, .s (100000, 3) 0 0]]), ((100000, 2), 4, []), ((100000, 3), 4, [])]⟩ =
      some (.exit 0, ⟨[(4, .p (100000, 0) 0 0), (5, .p (100000, 1) 0 0)],
        [((100000, 0), 4, [.a [I 0, S [], I 0, .s (100000, 2) 0 0]]), ((100000, 1), 4, [.a [I k, S s, I num, .s (100000, 3) 0 ts.length]]), ((100000, 2), 4, []), ((100000, 3), 4, (ts.map (rnm φ)).map oT)]⟩) := by
  unfold Lm at hlim
  refine for_ind ts (fun i r => ∀ acc : List Tm, acc.length = i → lw progA L.impl_renamed_0 ⟨[(1, .f (.func g) [] caps), (4, .p (100000, 0) 0 0), (5, .p (100000, 1) 0 0), (19, .i τ vs), (20, I ts.length), (21, I i)],
        [((100000, 0), 4, [.a [I 0, S [], I 0, .s (100000, 2) 0 0]]), ((100000, 1), 4, [.a [I k, S s, I num, .s (100000, 3) 0 acc.length]]), ((100000, 2), 4, []), ((100000, 3), 4, acc.map oT)]⟩ =
      some (.exit 0, ⟨[(4, .p (100000, 0) 0 0), (5, .p (100000, 1) 0 0)],
        [((100000, 0), 4, [.a [I 0, S [], I 0, .s (100000, 2) 0 0]]), ((100000, 1), 4, [.a [I k, S s, I num, .s (100000, 3) 0 ts.length]]), ((100000, 2), 4, []), ((100000, 3), 4, (acc ++ r.map (rnm φ)).map oT)]⟩)) (by omega) ?_ ?_ [] rfl
  · intro acc ha
    rw [lw_eq]
    simp only [go_sem, Nat.reduceAdd, Nat.reduceSub, Nat.reduceMul, Nat.reduceEqDiff, Nat.reduceLeDiff, Nat.reduceBEq, reduceCtorEq, LB.impl_renamed_0, ha, List.map_nil]
  · intro i t r ht hi hlt e1 hir hm hr ih acc ha
    obtain ⟨v, gv, hbt⟩ := RL_get hv ht
    have hcc := hc t hm v hbt
    have a1 := fun T => addr_i (τ := τ) (T := T) gv (BT_cells hbt)
    have i1 := ih (acc ++ [rnm φ t]) (by simp; omega)
    obtain ⟨σ1, ks, rfl, -⟩ := BT_shape hbt
    rw [oT_mk] at hcc
    have b1 : (acc.length + 1) * 56 ≤ lim := by rw [lim_val]; omega
    have b2 : acc.length + 1 ≤ lim := by rw [lim_val]; omega
    have rp := fun k ob (y : V) (ys : List V) => repEs_app k ob (acc.map oT) (y :: ys) (clEs_mT _)
    simp only [List.length_append, List.length_cons, List.length_nil, Nat.zero_add] at i1
    rw [lw_eq]
    simp only [go_sem, Nat.reduceAdd, Nat.reduceSub, Nat.reduceMul, Nat.reduceEqDiff, Nat.reduceLeDiff, Nat.reduceBEq, reduceCtorEq, LB.impl_renamed_0, hlt, a1, gv, rp, hcc, e1, snap_close hs, snap_conv hs, snap_zero hs, snap_kill hs, snap_dir hs, snap_nil hs, snap_ren hs, snap_open hs, b1, b2, List.map_cons]
    rw [i1]
    simp
theorem renamed_ok (g : Nat) (caps : List V) (hs : Snap caps) (φ : Int → Int) (hg : ∀ n, cr progA g ([I n] ++ caps) = some (I (φ n))) :
    ∀ (t : Tm), WT t → ∀ v, BT t v → cr progA F.impl_renamed [v, .f (.func g) [] caps] = some (oT (rnm φ t)) := by
  refine Tm.ind ?_
  intro k s n ks ih hw v hbt
  obtain ⟨τ, vs, rfl, hv⟩ := BT_shape hbt
  rw [cr_fn pA_impl_renamed rfl, rnm_mk, oT_mk]
  have hlp := fun num => renamed_loop g caps hs φ τ vs ks hv (WT_len hw) k num s (fun t ht v hb => ih t ht (WT_kids hw t ht) v hb)
  have hg' := hg n
  simp only [List.cons_append, List.nil_append] at hg'
  by_cases h1 : k = 1
  · subst h1
    have h := hlp (φ n)
    simp only [go_sem, Nat.reduceAdd, Nat.reduceSub, Nat.reduceMul, Nat.reduceEqDiff, Nat.reduceLeDiff, Nat.reduceBEq, reduceCtorEq, A.impl_renamed, RL_length hv, h, hg', snap_close hs, snap_conv hs, snap_zero hs, snap_kill hs, snap_dir hs, snap_nil hs, snap_ren hs, snap_open hs, snap_args hs]
  · have h := hlp n
    simp only [go_sem, Nat.reduceAdd, Nat.reduceSub, Nat.reduceMul, Nat.reduceEqDiff, Nat.reduceLeDiff, Nat.reduceBEq, reduceCtorEq, A.impl_renamed, RL_length hv, h, h1, snap_close hs, snap_conv hs, snap_zero hs, snap_kill hs, snap_dir hs, snap_nil hs, snap_ren hs, snap_open hs, snap_args hs]
end Go.Vm

set_option autoImplicit false
set_option maxRecDepth 100000
set_option linter.unusedSimpArgs false
set_option linter.unusedVariables false
namespace Go.Vm
theorem map_id' {α : Type} {f : α → α} : ∀ {l : List α}, (∀ x ∈ l, f x = x) → l.map f = l
  | [], _ => rfl
  | x :: l, h => by rw [List.map_cons, h x (by simp), map_id' fun u hu => h u (by simp [hu])]
theorem rnm_id : ∀ (t : Tm), rnm (fun n => n) t = t := by
  refine Tm.ind ?_
  intro k s n ks ih
  simp only [rnm, rnms_eq, map_id' ih, ite_self]
theorem copyTerm1_ok (n : Int) : cr progA F.impl_copyTerm_1 [I n] = some (I n) := by
  rw [cr_fn pA_impl_copyTerm_1 rfl]
  simp only [go_sem, Nat.reduceAdd, Nat.reduceSub, Nat.reduceMul, Nat.reduceEqDiff, Nat.reduceLeDiff, Nat.reduceBEq, reduceCtorEq, A.impl_copyTerm_1]
theorem copyTerm_ok (t : Tm) (hw : WT t) (v : V) (hb : BT t v) : cr progA F.impl_copyTerm [v] = some (oT t) := by
  have h := renamed_ok F.impl_copyTerm_1 [] (fun _ h => by cases h) (fun n => n) (fun n => copyTerm1_ok n) t hw v hb
  rw [rnm_id] at h
  have h' : cr progA F.impl_renamed [v, Fc F.impl_copyTerm_1] = some (oT t) := h
  obtain ⟨τ, vs, rfl, hv⟩ := BT_shape hb
  rw [cr_fn pA_impl_copyTerm rfl, oT_mk]
  rw [oT_mk] at h'
  simp only [go_sem, Nat.reduceAdd, Nat.reduceSub, Nat.reduceMul, Nat.reduceEqDiff, Nat.reduceLeDiff, Nat.reduceBEq, reduceCtorEq, A.impl_copyTerm, h']
theorem fresh1_ok (n fr : Int) (l : List Int) (hl : l.length ≤ 2^40) : cr progA F.impl_fresh_1 [I n, .q true [I fr] 0 0, .q true [.i true (l.map I)] 0 0] = some (I (w64 (fr + idxFrom n 0 l))) := by
  have h := Index_ok true l n hl
  rw [cr_fn pA_impl_fresh_1 rfl]
  simp only [go_sem, Nat.reduceAdd, Nat.reduceSub, Nat.reduceMul, Nat.reduceEqDiff, Nat.reduceLeDiff, Nat.reduceBEq, reduceCtorEq, A.impl_fresh_1, h]
def freshBy (fr : Int) (l : List Int) : Int → Int := fun n => w64 (fr + idxFrom n 0 l)
theorem fresh_ok (t : Tm) (hw : WT t) (hn : nT t ≤ 2^32) (fr : Int) (v : V) (hb : BT t v) : cr progA F.impl_fresh [v, I fr] = some (oT (rnm (freshBy fr (varsOf t)) t)) := by
  have hlen : (varsOf t).length ≤ 2^40 := by have := addVars_len t []; simp only [List.length_nil, Nat.zero_add] at this; unfold varsOf; omega
  have hv := impl_VarsOf_ok t hw hn v hb
  have h := renamed_ok F.impl_fresh_1 [.q true [I fr] 0 0, .q true [.i true ((varsOf t).map I)] 0 0] (fun c hc => by
    simp only [List.mem_cons, List.not_mem_nil, or_false] at hc
    rcases hc with rfl | rfl <;> exact ⟨_, _, _, rfl⟩) (freshBy fr (varsOf t)) (fun n => fresh1_ok n fr (varsOf t) hlen) t hw v hb
  obtain ⟨τ, vs, rfl, hvs⟩ := BT_shape hb
  rw [cr_fn pA_impl_fresh rfl, oT_mk]
  rw [oT_mk] at h
  simp only [go_sem, Nat.reduceAdd, Nat.reduceSub, Nat.reduceMul, Nat.reduceEqDiff, Nat.reduceLeDiff, Nat.reduceBEq, reduceCtorEq, A.impl_fresh, hv, h]
def clauseTerm (c : Cl) : Tm := .mk 4 [58, 45] 0 [c.head, c.body]
theorem structure_ok (s : Str) (xs : List V) (hc : clEs xs = true) : cw progA F.impl_structure [S s, .o 4 xs] = some (.a [I 4, S s, I 0, .o 4 xs], [S s, .d]) := by
  rw [cw_fn pA_impl_structure rfl]
  have hk : ∀ d, killL d xs = xs := fun d => killLc d xs hc
  simp only [go_sem, Nat.reduceAdd, Nat.reduceSub, Nat.reduceMul, Nat.reduceEqDiff, Nat.reduceLeDiff, Nat.reduceBEq, reduceCtorEq, A.impl_structure, finish, hc, hk]
theorem impl_ClauseTerm_ok (c : Cl) (hw : wCl c) (v : V) (h : bCl c v) : cr progA F.impl_ClauseTerm [v] = some (oT (clauseTerm c)) := by
  obtain ⟨τ0, vs0, τ1, vs1, rfl, h0, h1⟩ := h
  have e1 := copyTerm_ok c.head hw.1.1 _ (BT_of (τ := τ0) h0)
  have e2 := copyTerm_ok c.body hw.2.1.1 _ (BT_of (τ := τ1) h1)
  rw [oT_mk] at e1 e2
  rw [cr_fn pA_impl_ClauseTerm rfl]
  have e3 := structure_ok [58, 45] [oT c.head, oT c.body] (by simp only [clEs, clE_oT, Bool.and_self])
  rw [oT_mk c.head, oT_mk c.body] at e3
  simp only [go_sem, Nat.reduceAdd, Nat.reduceSub, Nat.reduceMul, Nat.reduceEqDiff, Nat.reduceLeDiff, Nat.reduceBEq, reduceCtorEq, A.impl_ClauseTerm, e1, e2, e3]
  rw [oT_mk (clauseTerm c)]
  simp only [clauseTerm, Tm.kind_mk, Tm.name_mk, Tm.num_mk, Tm.kids_mk, List.map_cons, List.map_nil, oT_mk c.head, oT_mk c.body]
def neatBy (φ : Int → Int) (c : Cl) : Cl := ⟨rnm φ c.head, rnm φ c.body, c.file⟩
def neat (c : Cl) : Cl := neatBy (freshBy 0 (varsOf (clauseTerm c))) c
theorem clauseTerm_ok (c : Cl) (hw : wCl c) : WT (clauseTerm c) ∧ nT (clauseTerm c) ≤ 2^32 := by
  refine ⟨WT_mk ⟨by decide, by decide⟩ (by decide) ⟨by decide, by decide⟩ (by show 2 ≤ Lm; decide) ?_, ?_⟩
  · intro u hu
    simp only [List.mem_cons, List.not_mem_nil, or_false] at hu
    rcases hu with rfl | rfl
    · exact hw.1.1
    · exact hw.2.1.1
  · have h1 := hw.1.2
    have h2 := hw.2.1.2
    unfold Lm at h1 h2
    simp only [clauseTerm, nT, nTs]
    omega
theorem impl_NeatClause_ok (c : Cl) (hw : wCl c) (v : V) (h : bCl c v) : cr progA F.impl_NeatClause [v] = some (oCl (neat c)) := by
  have e1 := impl_ClauseTerm_ok c hw v h
  obtain ⟨w1, w2⟩ := clauseTerm_ok c hw
  have e2 := fresh_ok (clauseTerm c) w1 w2 0 _ (BT_iT true (clauseTerm c))
  have e3 : rnm (freshBy 0 (varsOf (clauseTerm c))) (clauseTerm c) = .mk 4 [58, 45] 0 [rnm (freshBy 0 (varsOf (clauseTerm c))) c.head, rnm (freshBy 0 (varsOf (clauseTerm c))) c.body] := by
    simp only [clauseTerm, rnm, rnms, if_neg (show ¬ (4 : Int) = 1 by decide)]
  rw [e3] at e2
  unfold neat neatBy
  generalize rnm (freshBy 0 (varsOf (clauseTerm c))) c.head = th at e2 ⊢
  generalize rnm (freshBy 0 (varsOf (clauseTerm c))) c.body = tb at e2 ⊢
  rw [oT_mk] at e1
  rw [iT_mk, oT_mk] at e2
  simp only [Tm.kind_mk, Tm.name_mk, Tm.num_mk, Tm.kids_mk, List.map_cons, List.map_nil] at e2
  rw [oT_mk th, oT_mk tb] at e2
  obtain ⟨τ0, vs0, τ1, vs1, rfl, h0, h1⟩ := h
  rw [cr_fn pA_impl_NeatClause rfl, oCl]
  simp only [go_sem, Nat.reduceAdd, Nat.reduceSub, Nat.reduceMul, Nat.reduceEqDiff, Nat.reduceLeDiff, Nat.reduceBEq, reduceCtorEq, A.impl_NeatClause, e1, e2]
end Go.Vm

set_option autoImplicit false
set_option maxRecDepth 100000
set_option linter.unusedSimpArgs false
set_option linter.unusedVariables false
namespace Go.Vm
theorem l34Terms_loop (τ : Bool) (vs : List V) (ts : List Tm) (n : Nat) (hl : ts.length = n) (hv : RL BT ts vs) (hlim : n ≤ Lm)
    (hc : ∀ t ∈ ts, ∀ v, BT t v → cr progA F.spec_l34Term [v] = some (oT t)) (m : Nat) : ∀ i, i + m = n →
    lw progA L.spec_l34Terms_0 ⟨[(0, .i τ vs), (3, .s (100000, 0) 0 i), (4, I i)], [((100000, 0), 4, (ts.take i).map oT)]⟩ =
      some (.exit 0, ⟨[(3, .s (100000, 0) 0 n)], [((100000, 0), 4, ts.map oT)]⟩) := by
  unfold Lm at hlim
  have hn := RL_length hv
  rw [hl] at hn
  induction m with
  | zero =>
    intro i hi
    obtain rfl : i = n := by omega
    rw [lw_eq]
    have h1 : ¬ (i : Int) < (i : Int) := by omega
    rw [List.take_of_length_le (Nat.le_of_eq hl)]
    simp only [go_sem, Nat.reduceAdd, Nat.reduceSub, Nat.reduceMul, Nat.reduceEqDiff, Nat.reduceLeDiff, Nat.reduceBEq, reduceCtorEq, LB.spec_l34Terms_0, hn, h1]
  | succ m ih =>
    intro i hi
    rw [lw_eq]
    have hlt : (i : Int) < (n : Int) := by omega
    obtain ⟨t, ht⟩ := get_some' (l := ts) (i := i) (by omega)
    obtain ⟨v, gv, hbt⟩ := RL_get hv ht
    have hcc := hc t (List.mem_of_getElem? ht) v hbt
    have a1 := fun T => addr_i (τ := τ) (T := T) gv (BT_cells hbt)
    have e1 : w64 ((i : Int) + 1) = ((i + 1 : Nat) : Int) := by rw [w64_id] <;> omega
    have i1 := ih (i + 1) (by omega)
    obtain ⟨σ1, ks, rfl, -⟩ := BT_shape hbt
    rw [oT_mk] at hcc
    have b1 : (i + 1) * 56 ≤ lim := by rw [lim_val]; omega
    have b2 : i + 1 ≤ lim := by rw [lim_val]; omega
    have ln : (ts.take i).length = i := by simp; omega
    have tk : (ts.take i).map oT = ((ts.take i).map oT).take i :=
      (List.take_of_length_le (l := (ts.take i).map oT) (by rw [List.length_map, ln]; exact Nat.le_refl _)).symm
    have r4 : (ts.take i).map oT ++ [oT t] = (ts.take (i + 1)).map oT := mapSnoc oT ht
    rw [oT_mk t] at r4
    simp only [go_sem, Nat.reduceAdd, Nat.reduceSub, Nat.reduceMul, Nat.reduceEqDiff, Nat.reduceLeDiff, Nat.reduceBEq, reduceCtorEq, LB.spec_l34Terms_0, hn, hlt, a1, gv, hcc, e1, ← tk, r4, b1, b2, ln]
    exact i1
theorem l34Terms_of (τ : Bool) (vs : List V) (ts : List Tm) (hv : RL BT ts vs) (hlim : ts.length ≤ Lm)
    (hc : ∀ t ∈ ts, ∀ v, BT t v → cr progA F.spec_l34Term [v] = some (oT t)) : cr progA F.spec_l34Terms [.i τ vs] = some (.o 4 (ts.map oT)) := by
  rw [cr_fn pA_spec_l34Terms rfl]
  have h := l34Terms_loop τ vs ts ts.length rfl hv hlim hc ts.length 0 (by omega)
  simp only [Int.natCast_zero, List.take_zero, List.map_nil] at h
  simp only [go_sem, Nat.reduceAdd, Nat.reduceSub, Nat.reduceMul, Nat.reduceEqDiff, Nat.reduceLeDiff, Nat.reduceBEq, reduceCtorEq, A.spec_l34Terms, h]
theorem l34Term_ok : ∀ (t : Tm), WT t → ∀ v, BT t v → cr progA F.spec_l34Term [v] = some (oT t) := by
  refine Tm.ind ?_
  intro k s n ks ih hw v hb
  obtain ⟨τ, vs, rfl, hv⟩ := BT_shape hb
  have h := l34Terms_of τ vs ks hv (WT_len hw) (fun t ht => ih t ht (WT_kids hw t ht))
  rw [cr_fn pA_spec_l34Term rfl, oT_mk]
  simp only [go_sem, Nat.reduceAdd, Nat.reduceSub, Nat.reduceMul, Nat.reduceEqDiff, Nat.reduceLeDiff, Nat.reduceBEq, reduceCtorEq, A.spec_l34Term, h]
theorem l03Two_ok (s : Str) (a b : Tm) (va vb : List V) (ha : RL BT a.kids va) (hb : RL BT b.kids vb) (na : noTagL va = true) (nb : noTagL vb = true) :
    cr progA F.spec_l03Two [S s, .a [I a.kind, S a.name, I a.num, .i false va], .a [I b.kind, S b.name, I b.num, .i false vb]] =
      some (.a [I 4, S s, I 0, .o 4 [.a [I a.kind, S a.name, I a.num, .i false va], .a [I b.kind, S b.name, I b.num, .i false vb]]]) := by
  rw [cr_fn pA_spec_l03Two rfl]
  simp only [go_sem, Nat.reduceAdd, Nat.reduceSub, Nat.reduceMul, Nat.reduceEqDiff, Nat.reduceLeDiff, Nat.reduceBEq, reduceCtorEq, A.spec_l03Two, na, nb]
theorem spec_ClauseTermRaw_ok (c : Cl) (va vb : List V) (ha : RL BT c.head.kids va) (hb : RL BT c.body.kids vb) (na : noTagL va = true) (nb : noTagL vb = true) :
    cr progA F.spec_l08ClauseTermRaw [.a [I c.head.kind, S c.head.name, I c.head.num, .i false va, I c.body.kind, S c.body.name, I c.body.num, .i false vb, S c.file]] =
      some (.a [I 4, S [58, 45], I 0, .o 4 [.a [I c.head.kind, S c.head.name, I c.head.num, .i false va], .a [I c.body.kind, S c.body.name, I c.body.num, .i false vb]]]) := by
  have h := l03Two_ok [58, 45] c.head c.body va vb ha hb na nb
  rw [cr_fn pA_spec_l08ClauseTermRaw rfl]
  simp only [go_sem, Nat.reduceAdd, Nat.reduceSub, Nat.reduceMul, Nat.reduceEqDiff, Nat.reduceLeDiff, Nat.reduceBEq, reduceCtorEq, A.spec_l08ClauseTermRaw, h, na, nb]
end Go.Vm

set_option autoImplicit false
set_option maxRecDepth 100000
set_option linter.unusedSimpArgs false
set_option linter.unusedVariables false
namespace Go.Vm
theorem spec_ClauseTerm_ok (c : Cl) (hw : wCl c) (v : V) (h : bCl c v) (hn : noTag v = true) : cr progA F.spec_ClauseTerm [v] = some (oT (clauseTerm c)) := by
  obtain ⟨w1, w2⟩ := clauseTerm_ok c hw
  obtain ⟨τ0, va, τ1, vb, rfl, h0, h1⟩ := h
  simp only [noTag, noTagL, noTag_I, noTag_S, Bool.true_and, Bool.and_true, Bool.and_eq_true, Bool.not_eq_true'] at hn
  obtain ⟨⟨rfl, na⟩, ⟨rfl, nb⟩⟩ := hn
  have e1 := spec_ClauseTermRaw_ok c va vb h0 h1 na nb
  have e2 := l34Term_ok (clauseTerm c) w1 (.a [I 4, S [58, 45], I 0, .i true [.a [I c.head.kind, S c.head.name, I c.head.num, .i false va], .a [I c.body.kind, S c.body.name, I c.body.num, .i false vb]]])
    (BT_mk.2 ⟨true, _, rfl, _, _, rfl, BT_of h0, _, _, rfl, BT_of h1, rfl⟩)
  rw [oT_mk (clauseTerm c)] at e2 ⊢
  rw [cr_fn pA_spec_ClauseTerm rfl]
  simp only [go_sem, Nat.reduceAdd, Nat.reduceSub, Nat.reduceMul, Nat.reduceEqDiff, Nat.reduceLeDiff, Nat.reduceBEq, reduceCtorEq, A.spec_ClauseTerm, e1, e2, na, nb]
theorem l11Named_loop (vars : List Int) (base : Int) (τ τ0 : Bool) (t0 : Tm) (vs : List V) (hv : RL BT t0.kids vs) (hlim : t0.kids.length ≤ Lm) (k num : Int) (s : Str)
    (hc : ∀ t ∈ t0.kids, ∀ v τ', BT t v → cr progA F.spec_l11Named [v, .i τ' (vars.map I), I base] = some (oT (rnm (freshBy base vars) t))) :
    lw progA L.spec_l11Named_0 ⟨[(1, .i τ0 (vars.map I)), (2, I base), (3, .p (100000, 0) 0 0), (6, .p (100000, 1) 0 0), (7, .p (100000, 2) 0 0), (8, I 0)], [((100000, 0), 4, [.a [I t0.kind, S t0.name, I t0.num, .i τ vs]]), ((100000, 1), 4, [.a [I 0, S [], I 0, .s (100000, 3) 0 0]]), ((100000, 2), 4, [.a [I k, S s, I num, .s (100000, 4) 0 0]]), ((100000, 3), 4, []), ((100000, 4), 4, [])]⟩ = some (.exit 0, ⟨[(6, .p (100000, 1) 0 0), (7, .p (100000, 2) 0 0)], [((100000, 0), 4, [.a [I t0.kind, S t0.name, I t0.num, .i τ vs]]), ((100000, 1), 4, [.a [I 0, S [], I 0, .s (100000, 3) 0 0]]), ((100000, 2), 4, [.a [I k, S s, I num, .s (100000, 4) 0 t0.kids.length]]), ((100000, 3), 4, []), ((100000, 4), 4, (t0.kids.map (rnm (freshBy base vars))).map oT)]⟩) := by
  unfold Lm at hlim
  have hn := RL_length hv
  refine for_ind t0.kids (fun i r => ∀ acc : List Tm, acc.length = i → lw progA L.spec_l11Named_0 ⟨[(1, .i τ0 (vars.map I)), (2, I base), (3, .p (100000, 0) 0 0), (6, .p (100000, 1) 0 0), (7, .p (100000, 2) 0 0), (8, I i)], [((100000, 0), 4, [.a [I t0.kind, S t0.name, I t0.num, .i τ vs]]), ((100000, 1), 4, [.a [I 0, S [], I 0, .s (100000, 3) 0 0]]), ((100000, 2), 4, [.a [I k, S s, I num, .s (100000, 4) 0 acc.length]]), ((100000, 3), 4, []), ((100000, 4), 4, acc.map oT)]⟩ = some (.exit 0, ⟨[(6, .p (100000, 1) 0 0), (7, .p (100000, 2) 0 0)], [((100000, 0), 4, [.a [I t0.kind, S t0.name, I t0.num, .i τ vs]]), ((100000, 1), 4, [.a [I 0, S [], I 0, .s (100000, 3) 0 0]]), ((100000, 2), 4, [.a [I k, S s, I num, .s (100000, 4) 0 t0.kids.length]]), ((100000, 3), 4, []), ((100000, 4), 4, (acc ++ r.map (rnm (freshBy base vars))).map oT)]⟩)) (by omega) ?_ ?_ [] rfl
  · intro acc ha
    rw [lw_eq]
    simp only [go_sem, Nat.reduceAdd, Nat.reduceSub, Nat.reduceMul, Nat.reduceEqDiff, Nat.reduceLeDiff, Nat.reduceBEq, reduceCtorEq, LB.spec_l11Named_0, ha, hn, List.map_nil]
  · intro i t r ht hi hlt e1 hir hm hr ih acc ha
    obtain ⟨v, gv, hbt⟩ := RL_get hv ht
    have hcc := fun τ' => hc t hm v τ' hbt
    have a1 := fun T => addr_i (τ := τ) (T := T) gv (BT_cells hbt)
    have i1 := ih (acc ++ [rnm (freshBy base vars) t]) (by simp; omega)
    obtain ⟨σ1, ks, rfl, -⟩ := BT_shape hbt
    rw [oT_mk] at hcc
    have b1 : (acc.length + 1) * 56 ≤ lim := by rw [lim_val]; omega
    have b2 : acc.length + 1 ≤ lim := by rw [lim_val]; omega
    simp only [List.length_append, List.length_cons, List.length_nil, Nat.zero_add] at i1
    rw [lw_eq]
    simp only [go_sem, Nat.reduceAdd, Nat.reduceSub, Nat.reduceMul, Nat.reduceEqDiff, Nat.reduceLeDiff, Nat.reduceBEq, reduceCtorEq, LB.spec_l11Named_0, hlt, a1, gv, hcc, e1, hn, b1, b2, List.map_cons]
    rw [i1]
    simp
theorem l11Named_ok (vars : List Int) (base : Int) (hv : vars.length ≤ 2^40) : ∀ (t : Tm), WT t → ∀ v τ', BT t v → cr progA F.spec_l11Named [v, .i τ' (vars.map I), I base] = some (oT (rnm (freshBy base vars) t)) := by
  refine Tm.ind ?_
  intro k s n ks ih hw v τ0 hbt
  obtain ⟨τ, vs, rfl, hvs⟩ := BT_shape hbt
  rw [cr_fn pA_spec_l11Named rfl, rnm_mk, oT_mk]
  have hlp := fun num => l11Named_loop vars base τ τ0 (.mk k s n ks) vs hvs (WT_len hw) k num s (fun t ht v τ' hb => ih t ht (WT_kids hw t ht) v τ' hb)
  simp only [Tm.kids_mk, Tm.kind_mk, Tm.name_mk, Tm.num_mk] at hlp
  by_cases h1 : k = 1
  · subst h1
    have h := hlp (w64 (base + idxFrom n 0 vars))
    have e1 := fun τ => l03At_ok τ vars n hv
    simp only [go_sem, Nat.reduceAdd, Nat.reduceSub, Nat.reduceMul, Nat.reduceEqDiff, Nat.reduceLeDiff, Nat.reduceBEq, reduceCtorEq, A.spec_l11Named, RL_length hvs, h, e1, freshBy]
  · have h := hlp n
    simp only [go_sem, Nat.reduceAdd, Nat.reduceSub, Nat.reduceMul, Nat.reduceEqDiff, Nat.reduceLeDiff, Nat.reduceBEq, reduceCtorEq, A.spec_l11Named, RL_length hvs, h, h1]
theorem spec_NeatClause_ok (c : Cl) (hw : wCl c) (v : V) (h : bCl c v) (hn : noTag v = true) : cr progA F.spec_NeatClause [v] = some (oCl (neat c)) := by
  have e1 := spec_ClauseTerm_ok c hw v h hn
  obtain ⟨w1, w2⟩ := clauseTerm_ok c hw
  have e2 := spec_VarsOf_ok (clauseTerm c) w1 w2 _ (BT_iT true (clauseTerm c))
  have hlen : (varsOf (clauseTerm c)).length ≤ 2^40 := by have := addVars_len (clauseTerm c) []; simp only [List.length_nil, Nat.zero_add] at this; unfold varsOf; omega
  have e3 := l11Named_ok (varsOf (clauseTerm c)) 0 hlen c.head hw.1.1
  have e4 := l11Named_ok (varsOf (clauseTerm c)) 0 hlen c.body hw.2.1.1
  obtain ⟨τ0, va, τ1, vb, rfl, h0, h1⟩ := h
  have e3' := fun τ' => e3 _ τ' (BT_of (τ := τ0) h0)
  have e4' := fun τ' => e4 _ τ' (BT_of (τ := τ1) h1)
  unfold neat neatBy
  generalize freshBy 0 (varsOf (clauseTerm c)) = φ at e3' e4' ⊢
  rw [oT_mk (clauseTerm c)] at e1
  rw [iT_mk] at e2
  rw [oT_mk] at e3' e4'
  rw [cr_fn pA_spec_NeatClause rfl, oCl]
  simp only [go_sem, Nat.reduceAdd, Nat.reduceSub, Nat.reduceMul, Nat.reduceEqDiff, Nat.reduceLeDiff, Nat.reduceBEq, reduceCtorEq, A.spec_NeatClause, e1, e2, e3', e4']
end Go.Vm

set_option autoImplicit false
set_option maxRecDepth 100000
set_option linter.unusedSimpArgs false
set_option linter.unusedVariables false
namespace Go.Vm
theorem l01In_ok (x lo hi : Int) : cr progA F.spec_l01In [I x, I lo, I hi] = some (B (decide (lo ≤ x ∧ x ≤ hi))) := by
  rw [cr_fn pA_spec_l01In rfl]
  by_cases h1 : lo ≤ x <;> by_cases h2 : x ≤ hi <;> simp only [go_sem, Nat.reduceAdd, Nat.reduceSub, Nat.reduceMul, Nat.reduceEqDiff, Nat.reduceLeDiff, Nat.reduceBEq, reduceCtorEq, A.spec_l01In, h1, h2]
theorem within_ok (x lo hi : Int) : cr progA F.impl_within [I x, I lo, I hi] = some (B (decide (lo ≤ x ∧ x ≤ hi))) := by
  rw [cr_fn pA_impl_within rfl]
  by_cases h1 : lo ≤ x <;> by_cases h2 : x ≤ hi <;> simp only [go_sem, Nat.reduceAdd, Nat.reduceSub, Nat.reduceMul, Nat.reduceEqDiff, Nat.reduceLeDiff, Nat.reduceBEq, reduceCtorEq, A.impl_within, h1, h2]
def okByte (c : UInt8) : Bool := decide (33 ≤ c.toNat ∧ c.toNat ≤ 126 ∧ c.toNat ≠ 39 ∧ c.toNat ≠ 34)
def okBytes (s : Str) : Bool := s.all okByte
def nameOk (s : Str) : Bool := okBytes s && decide (1 ≤ s.length ∧ s.length ≤ 20)
theorem okByte_cases (c : UInt8) : (okByte c = true ∧ ¬ (c.toNat : Int) < 33 ∧ ¬ (126 : Int) < c.toNat ∧ decide ((c.toNat : Int) = 39) = false ∧ decide ((c.toNat : Int) = 34) = false) ∨ (okByte c = false ∧ ((c.toNat : Int) < 33 ∨ ¬ (c.toNat : Int) < 33 ∧ ((126 : Int) < c.toNat ∨ ¬ (126 : Int) < c.toNat ∧ (decide ((c.toNat : Int) = 39) = true ∨ decide ((c.toNat : Int) = 39) = false ∧ decide ((c.toNat : Int) = 34) = true)))) := by
  unfold okByte
  by_cases h : 33 ≤ c.toNat ∧ c.toNat ≤ 126 ∧ c.toNat ≠ 39 ∧ c.toNat ≠ 34
  · left; exact ⟨decide_eq_true h, by omega, by omega, decide_eq_false (by omega), decide_eq_false (by omega)⟩
  · right; refine ⟨decide_eq_false h, ?_⟩
    simp only [decide_eq_true_eq, decide_eq_false_iff_not]
    omega
theorem ok39 {c : UInt8} (h : decide ((c.toNat : Int) = 39) = true) : (c.toNat : Int) = 39 := of_decide_eq_true h
theorem l03Name_loop (s : Str) (hl : s.length ≤ 2^61) :
    lw progA L.spec_l03Name_0 ⟨[(0, S s), (3, I 0)], []⟩ = if okBytes s = true then some (.exit 0, ⟨[(0, S s)], []⟩) else some (.ret, ⟨[(2, B false)], []⟩) := by
  refine for_ind s (fun i r => lw progA L.spec_l03Name_0 ⟨[(0, S s), (3, I i)], []⟩ = if okBytes r = true then some (.exit 0, ⟨[(0, S s)], []⟩) else some (.ret, ⟨[(2, B false)], []⟩)) (by omega) ?_ ?_
  · rw [lw_eq]
    simp only [go_sem, Nat.reduceAdd, Nat.reduceSub, Nat.reduceMul, Nat.reduceEqDiff, Nat.reduceLeDiff, Nat.reduceBEq, reduceCtorEq, LB.spec_l03Name_0, okBytes, List.all_nil]
  · intro i c r ht hi hlt e1 hir hm hr ih
    have ix := ix_S (l := s) (i := (i : Int)) (c := c) (by omega) (by simpa using ht)
    rw [lw_eq]
    unfold okBytes at ih ⊢
    rcases okByte_cases c with ⟨h0, h1, h2, h3, h4⟩ | ⟨h0, h1 | ⟨h1, h2 | ⟨h2, h3 | ⟨h3, h4⟩⟩⟩⟩
    · rw [List.all_cons, h0, Bool.true_and, ← ih]
      simp only [go_sem, Nat.reduceAdd, Nat.reduceSub, Nat.reduceMul, Nat.reduceEqDiff, Nat.reduceLeDiff, Nat.reduceBEq, reduceCtorEq, LB.spec_l03Name_0, hlt, ix, e1, h1, h2, h3, h4]
    · simp only [go_sem, Nat.reduceAdd, Nat.reduceSub, Nat.reduceMul, Nat.reduceEqDiff, Nat.reduceLeDiff, Nat.reduceBEq, reduceCtorEq, LB.spec_l03Name_0, hlt, ix, e1, h1, List.all_cons, h0]
    · simp only [go_sem, Nat.reduceAdd, Nat.reduceSub, Nat.reduceMul, Nat.reduceEqDiff, Nat.reduceLeDiff, Nat.reduceBEq, reduceCtorEq, LB.spec_l03Name_0, hlt, ix, e1, h1, h2, List.all_cons, h0]
    · simp only [go_sem, Nat.reduceAdd, Nat.reduceSub, Nat.reduceMul, Nat.reduceEqDiff, Nat.reduceLeDiff, Nat.reduceBEq, reduceCtorEq, LB.spec_l03Name_0, hlt, ix, e1, h1, h2, h3, List.all_cons, h0]
    · simp only [go_sem, Nat.reduceAdd, Nat.reduceSub, Nat.reduceMul, Nat.reduceEqDiff, Nat.reduceLeDiff, Nat.reduceBEq, reduceCtorEq, LB.spec_l03Name_0, hlt, ix, e1, h1, h2, h3, h4, List.all_cons, h0]
theorem l03Name_ok (s : Str) (hl : s.length ≤ 2^61) : cr progA F.spec_l03Name [S s] = some (B (nameOk s)) := by
  rw [cr_fn pA_spec_l03Name rfl]
  have h := l03Name_loop s hl
  have h2 := l01In_ok s.length 1 20
  have h3 : decide ((1 : Int) ≤ s.length ∧ (s.length : Int) ≤ 20) = decide (1 ≤ s.length ∧ s.length ≤ 20) := decide_eq_decide.2 (by omega)
  rw [h3] at h2
  unfold nameOk
  cases hb : okBytes s with
  | true => rw [hb, if_pos rfl] at h; simp only [go_sem, Nat.reduceAdd, Nat.reduceSub, Nat.reduceMul, Nat.reduceEqDiff, Nat.reduceLeDiff, Nat.reduceBEq, reduceCtorEq, A.spec_l03Name, h, h2]
  | false => rw [hb] at h; simp only [go_sem, Nat.reduceAdd, Nat.reduceSub, Nat.reduceMul, Nat.reduceEqDiff, Nat.reduceLeDiff, Nat.reduceBEq, reduceCtorEq, A.spec_l03Name, h]
theorem impl_nameOk_loop (s : Str) (hl : s.length ≤ 2^61) :
    lw progA L.impl_nameOk_0 ⟨[(0, S s), (3, I 0)], []⟩ = if okBytes s = true then some (.exit 0, ⟨[(0, S s)], []⟩) else some (.ret, ⟨[(2, B false)], []⟩) := by
  refine for_ind s (fun i r => lw progA L.impl_nameOk_0 ⟨[(0, S s), (3, I i)], []⟩ = if okBytes r = true then some (.exit 0, ⟨[(0, S s)], []⟩) else some (.ret, ⟨[(2, B false)], []⟩)) (by omega) ?_ ?_
  · rw [lw_eq]
    simp only [go_sem, Nat.reduceAdd, Nat.reduceSub, Nat.reduceMul, Nat.reduceEqDiff, Nat.reduceLeDiff, Nat.reduceBEq, reduceCtorEq, LB.impl_nameOk_0, okBytes, List.all_nil]
  · intro i c r ht hi hlt e1 hir hm hr ih
    have ix := ix_S (l := s) (i := (i : Int)) (c := c) (by omega) (by simpa using ht)
    have hc := UInt8.toNat_lt c
    have hw : w64 (c.toNat : Int) = c.toNat := by rw [w64_id] <;> omega
    have hin := within_ok c.toNat 33 126
    rw [lw_eq]
    unfold okBytes at ih ⊢
    rcases okByte_cases c with ⟨h0, h1, h2, h3, h4⟩ | ⟨h0, h1 | ⟨h1, h2 | ⟨h2, h3 | ⟨h3, h4⟩⟩⟩⟩
    · rw [decide_eq_true (show (33 : Int) ≤ c.toNat ∧ (c.toNat : Int) ≤ 126 by first | omega | (simp only [decide_eq_true_eq, decide_eq_false_iff_not] at *; omega))] at hin
      rw [List.all_cons, h0, Bool.true_and, ← ih]
      simp only [go_sem, Nat.reduceAdd, Nat.reduceSub, Nat.reduceMul, Nat.reduceEqDiff, Nat.reduceLeDiff, Nat.reduceBEq, reduceCtorEq, LB.impl_nameOk_0, hlt, ix, e1, hw, hin, h1, h2, h3, h4]
    · rw [decide_eq_false (show ¬ ((33 : Int) ≤ c.toNat ∧ (c.toNat : Int) ≤ 126) by omega)] at hin
      simp only [go_sem, Nat.reduceAdd, Nat.reduceSub, Nat.reduceMul, Nat.reduceEqDiff, Nat.reduceLeDiff, Nat.reduceBEq, reduceCtorEq, LB.impl_nameOk_0, hlt, ix, e1, hw, hin, List.all_cons, h0]
    · rw [decide_eq_false (show ¬ ((33 : Int) ≤ c.toNat ∧ (c.toNat : Int) ≤ 126) by omega)] at hin
      simp only [go_sem, Nat.reduceAdd, Nat.reduceSub, Nat.reduceMul, Nat.reduceEqDiff, Nat.reduceLeDiff, Nat.reduceBEq, reduceCtorEq, LB.impl_nameOk_0, hlt, ix, e1, hw, hin, List.all_cons, h0]
    · rw [decide_eq_true (show (33 : Int) ≤ c.toNat ∧ (c.toNat : Int) ≤ 126 by first | omega | (simp only [decide_eq_true_eq, decide_eq_false_iff_not] at *; omega))] at hin
      simp only [go_sem, Nat.reduceAdd, Nat.reduceSub, Nat.reduceMul, Nat.reduceEqDiff, Nat.reduceLeDiff, Nat.reduceBEq, reduceCtorEq, LB.impl_nameOk_0, hlt, ix, e1, hw, hin, h3, List.all_cons, h0]
    · rw [decide_eq_true (show (33 : Int) ≤ c.toNat ∧ (c.toNat : Int) ≤ 126 by first | omega | (simp only [decide_eq_true_eq, decide_eq_false_iff_not] at *; omega))] at hin
      simp only [go_sem, Nat.reduceAdd, Nat.reduceSub, Nat.reduceMul, Nat.reduceEqDiff, Nat.reduceLeDiff, Nat.reduceBEq, reduceCtorEq, LB.impl_nameOk_0, hlt, ix, e1, hw, hin, h3, h4, List.all_cons, h0]
theorem impl_nameOk_ok (s : Str) (hl : s.length ≤ 2^61) : cr progA F.impl_nameOk [S s] = some (B (nameOk s)) := by
  rw [cr_fn pA_impl_nameOk rfl]
  have h := impl_nameOk_loop s hl
  have h2 := within_ok s.length 1 20
  have h3 : decide ((1 : Int) ≤ s.length ∧ (s.length : Int) ≤ 20) = decide (1 ≤ s.length ∧ s.length ≤ 20) := decide_eq_decide.2 (by omega)
  rw [h3] at h2
  unfold nameOk
  cases hb : okBytes s with
  | true => rw [hb, if_pos rfl] at h; simp only [go_sem, Nat.reduceAdd, Nat.reduceSub, Nat.reduceMul, Nat.reduceEqDiff, Nat.reduceLeDiff, Nat.reduceBEq, reduceCtorEq, A.impl_nameOk, h, h2]
  | false => rw [hb] at h; simp only [go_sem, Nat.reduceAdd, Nat.reduceSub, Nat.reduceMul, Nat.reduceEqDiff, Nat.reduceLeDiff, Nat.reduceBEq, reduceCtorEq, A.impl_nameOk, h]
end Go.Vm

set_option autoImplicit false
set_option maxRecDepth 100000
set_option linter.unusedSimpArgs false
set_option linter.unusedVariables false
namespace Go.Vm
/-! ### right terms -/
def okOne (t : Tm) : Bool :=
  if t.kind = 1 then decide (0 ≤ t.num ∧ t.num ≤ 99999) && (decide (t.name = []) && decide ((t.kids.length : Int) = 0))
  else if t.kind = 2 then nameOk t.name && (decide (t.num = 0) && decide ((t.kids.length : Int) = 0))
  else if t.kind = 3 then decide (-999999999 ≤ t.num ∧ t.num ≤ 999999999) && (decide (t.name = []) && decide ((t.kids.length : Int) = 0))
  else if t.kind = 4 then nameOk t.name && (decide (t.num = 0) && decide (1 ≤ (t.kids.length : Int) ∧ (t.kids.length : Int) ≤ 5))
  else false
mutual
def rightT : Int → Tm → Bool
  | d, .mk k s n ks => decide (d ≤ 40) && (okOne (.mk k s n ks) && rightTs (d + 1) ks)
def rightTs : Int → List Tm → Bool
  | _, [] => true
  | d, t :: ts => rightT d t && rightTs d ts
end
def termOk (t : Tm) : Bool := decide (nT t ≤ 400) && rightT 1 t
theorem l03One_ok (t : Tm) (hn : t.name.length ≤ 2^61) (v : V) (hb : BT t v) : cr progA F.spec_l03One [v] = some (B (okOne t)) := by
  obtain ⟨τ, vs, rfl, hv⟩ := BT_shape hb
  have hl := RL_length hv
  rw [cr_fn pA_spec_l03One rfl]
  have i1 := l01In_ok t.num 0 99999
  have i2 := l01In_ok t.num (-999999999) 999999999
  have i3 := l01In_ok t.kids.length 1 5
  have nm := l03Name_ok t.name hn
  unfold okOne
  by_cases k1 : t.kind = 1
  · have d1 : decide (t.kind = 1) = true := decide_eq_true k1
    rw [if_pos k1]
    cases c1 : decide (0 ≤ t.num ∧ t.num ≤ 99999) with
    | false => rw [c1] at i1; simp only [go_sem, Nat.reduceAdd, Nat.reduceSub, Nat.reduceMul, Nat.reduceEqDiff, Nat.reduceLeDiff, Nat.reduceBEq, reduceCtorEq, A.spec_l03One, d1, i1]
    | true =>
      rw [c1] at i1
      cases c2 : decide (t.name = []) with
      | false => simp only [go_sem, Nat.reduceAdd, Nat.reduceSub, Nat.reduceMul, Nat.reduceEqDiff, Nat.reduceLeDiff, Nat.reduceBEq, reduceCtorEq, A.spec_l03One, d1, i1, c2]
      | true => simp only [go_sem, Nat.reduceAdd, Nat.reduceSub, Nat.reduceMul, Nat.reduceEqDiff, Nat.reduceLeDiff, Nat.reduceBEq, reduceCtorEq, A.spec_l03One, d1, i1, c2, hl]
  rw [if_neg k1]
  have d1 : decide (t.kind = 1) = false := decide_eq_false k1
  by_cases k2 : t.kind = 2
  · have d2 : decide (t.kind = 2) = true := decide_eq_true k2
    rw [if_pos k2]
    cases c1 : nameOk t.name with
    | false => rw [c1] at nm; simp only [go_sem, Nat.reduceAdd, Nat.reduceSub, Nat.reduceMul, Nat.reduceEqDiff, Nat.reduceLeDiff, Nat.reduceBEq, reduceCtorEq, A.spec_l03One, d1, d2, nm]
    | true =>
      rw [c1] at nm
      cases c2 : decide (t.num = 0) with
      | false => simp only [go_sem, Nat.reduceAdd, Nat.reduceSub, Nat.reduceMul, Nat.reduceEqDiff, Nat.reduceLeDiff, Nat.reduceBEq, reduceCtorEq, A.spec_l03One, d1, d2, nm, c2]
      | true => simp only [go_sem, Nat.reduceAdd, Nat.reduceSub, Nat.reduceMul, Nat.reduceEqDiff, Nat.reduceLeDiff, Nat.reduceBEq, reduceCtorEq, A.spec_l03One, d1, d2, nm, c2, hl]
  rw [if_neg k2]
  have d2 : decide (t.kind = 2) = false := decide_eq_false k2
  by_cases k3 : t.kind = 3
  · have d3 : decide (t.kind = 3) = true := decide_eq_true k3
    rw [if_pos k3]
    cases c1 : decide (-999999999 ≤ t.num ∧ t.num ≤ 999999999) with
    | false => rw [c1] at i2; simp only [go_sem, Nat.reduceAdd, Nat.reduceSub, Nat.reduceMul, Nat.reduceEqDiff, Nat.reduceLeDiff, Nat.reduceBEq, reduceCtorEq, A.spec_l03One, d1, d2, d3, i2]
    | true =>
      rw [c1] at i2
      cases c2 : decide (t.name = []) with
      | false => simp only [go_sem, Nat.reduceAdd, Nat.reduceSub, Nat.reduceMul, Nat.reduceEqDiff, Nat.reduceLeDiff, Nat.reduceBEq, reduceCtorEq, A.spec_l03One, d1, d2, d3, i2, c2]
      | true => simp only [go_sem, Nat.reduceAdd, Nat.reduceSub, Nat.reduceMul, Nat.reduceEqDiff, Nat.reduceLeDiff, Nat.reduceBEq, reduceCtorEq, A.spec_l03One, d1, d2, d3, i2, c2, hl]
  rw [if_neg k3]
  have d3 : decide (t.kind = 3) = false := decide_eq_false k3
  by_cases k4 : t.kind = 4
  · have d4 : decide (t.kind = 4) = true := decide_eq_true k4
    rw [if_pos k4]
    cases c1 : nameOk t.name with
    | false => rw [c1] at nm; simp only [go_sem, Nat.reduceAdd, Nat.reduceSub, Nat.reduceMul, Nat.reduceEqDiff, Nat.reduceLeDiff, Nat.reduceBEq, reduceCtorEq, A.spec_l03One, d1, d2, d3, d4, nm]
    | true =>
      rw [c1] at nm
      cases c2 : decide (t.num = 0) with
      | false => simp only [go_sem, Nat.reduceAdd, Nat.reduceSub, Nat.reduceMul, Nat.reduceEqDiff, Nat.reduceLeDiff, Nat.reduceBEq, reduceCtorEq, A.spec_l03One, d1, d2, d3, d4, nm, c2]
      | true => simp only [go_sem, Nat.reduceAdd, Nat.reduceSub, Nat.reduceMul, Nat.reduceEqDiff, Nat.reduceLeDiff, Nat.reduceBEq, reduceCtorEq, A.spec_l03One, d1, d2, d3, d4, nm, c2, hl, i3]
  rw [if_neg k4]
  have d4 : decide (t.kind = 4) = false := decide_eq_false k4
  simp only [go_sem, Nat.reduceAdd, Nat.reduceSub, Nat.reduceMul, Nat.reduceEqDiff, Nat.reduceLeDiff, Nat.reduceBEq, reduceCtorEq, A.spec_l03One, d1, d2, d3, d4]
/-! how many terms -/
mutual
def cntT : Tm → Int → Int
  | .mk _ _ _ ks, r => cntTs ks (r - 1)
def cntTs : List Tm → Int → Int
  | [], r => r
  | t :: ts, r => if 0 ≤ r then cntTs ts (cntT t r) else r
end
mutual
theorem cntT_eq : ∀ (t : Tm) (r : Int), 0 ≤ r → (nT t ≤ r → cntT t r = r - nT t) ∧ (¬ (nT t : Int) ≤ r → cntT t r < 0 ∧ -1 ≤ cntT t r)
  | .mk k s n ks, r, h => by
    have := cntTs_eq ks (r - 1) (by omega)
    simp only [cntT, nT]
    refine ⟨fun h1 => ?_, fun h1 => ?_⟩
    · rw [this.1 (by omega)]; omega
    · exact this.2 (by omega)
theorem cntTs_eq : ∀ (ts : List Tm) (r : Int), -1 ≤ r → (nTs ts ≤ r → cntTs ts r = r - nTs ts) ∧ (¬ (nTs ts : Int) ≤ r → cntTs ts r < 0 ∧ -1 ≤ cntTs ts r)
  | [], r, h => by simp only [cntTs, nTs]; omega
  | t :: ts, r, h => by
    simp only [cntTs, nTs]
    by_cases h0 : 0 ≤ r
    · rw [if_pos h0]
      have h1 := cntT_eq t r h0
      have hp := nT_pos t
      by_cases h2 : (nT t : Int) ≤ r
      · rw [h1.1 h2]
        have h3 := cntTs_eq ts (r - nT t) (by omega)
        refine ⟨fun h4 => ?_, fun h4 => ?_⟩
        · rw [h3.1 (by omega)]; omega
        · exact h3.2 (by omega)
      · have h3 := h1.2 h2
        have h4 := cntTs_eq ts (cntT t r) h3.2
        refine ⟨fun h5 => by omega, fun h5 => ?_⟩
        exact h4.2 (by omega)
    · rw [if_neg h0]
      have := nT_pos t
      omega
end
theorem cntT_bd (t : Tm) (r : Int) (h : 0 ≤ r) : -1 ≤ cntT t r ∧ cntT t r ≤ r := by
  have h1 := cntT_eq t r h
  have := nT_pos t
  by_cases h2 : (nT t : Int) ≤ r
  · rw [h1.1 h2]; omega
  · have := h1.2 h2; omega
theorem l03Count_loop (t : Tm) (τ : Bool) (vs : List V) (hv : RL BT t.kids vs) (hlim : t.kids.length ≤ Lm)
    (hc : ∀ u ∈ t.kids, ∀ v r, BT u v → 0 ≤ r → r ≤ 2^40 → cr progA F.spec_l03Count [v, I r] = some (I (cntT u r))) : ∀ r : Int, -1 ≤ r → r ≤ 2^40 →
    lw progA L.spec_l03Count_0 ⟨[(1, I r), (2, .p (100000, 0) 0 0), (5, I 0)], [((100000, 0), 4, [.a [I t.kind, S t.name, I t.num, .i τ vs]])]⟩ = some (.exit 0, ⟨[(1, I (cntTs t.kids r))], [((100000, 0), 4, [.a [I t.kind, S t.name, I t.num, .i τ vs]])]⟩) := by
  unfold Lm at hlim
  have hn := RL_length hv
  refine for_ind t.kids (fun i ks => ∀ r : Int, -1 ≤ r → r ≤ 2^40 → lw progA L.spec_l03Count_0 ⟨[(1, I r), (2, .p (100000, 0) 0 0), (5, I i)], [((100000, 0), 4, [.a [I t.kind, S t.name, I t.num, .i τ vs]])]⟩ = some (.exit 0, ⟨[(1, I (cntTs ks r))], [((100000, 0), 4, [.a [I t.kind, S t.name, I t.num, .i τ vs]])]⟩)) (by omega) ?_ ?_
  · intro r h1 h2
    rw [lw_eq]
    simp only [go_sem, Nat.reduceAdd, Nat.reduceSub, Nat.reduceMul, Nat.reduceEqDiff, Nat.reduceLeDiff, Nat.reduceBEq, reduceCtorEq, LB.spec_l03Count_0, hn, cntTs]
  · intro i u ks ht hi hlt e1 hir hm hr ih r h1 h2
    obtain ⟨v, gv, hbt⟩ := RL_get hv ht
    have a1 := fun T => addr_i (τ := τ) (T := T) gv (BT_cells hbt)
    rw [lw_eq, cntTs]
    by_cases h0 : 0 ≤ r
    · have hcc := hc u hm v r hbt h0 h2
      have hb := cntT_bd u r h0
      have i1 := ih (cntT u r) hb.1 (by omega)
      obtain ⟨σ1, ws, rfl, -⟩ := BT_shape hbt
      simp only [go_sem, Nat.reduceAdd, Nat.reduceSub, Nat.reduceMul, Nat.reduceEqDiff, Nat.reduceLeDiff, Nat.reduceBEq, reduceCtorEq, LB.spec_l03Count_0, hn, hlt, h0, a1, gv, hcc, e1]
      exact i1
    · simp only [go_sem, Nat.reduceAdd, Nat.reduceSub, Nat.reduceMul, Nat.reduceEqDiff, Nat.reduceLeDiff, Nat.reduceBEq, reduceCtorEq, LB.spec_l03Count_0, hn, hlt, h0]
theorem l03Count_ok : ∀ (t : Tm), WT t → ∀ v r, BT t v → 0 ≤ r → r ≤ 2^40 → cr progA F.spec_l03Count [v, I r] = some (I (cntT t r)) := by
  refine Tm.ind ?_
  intro k s n ks ih hw v r hb h0 h1
  obtain ⟨τ, vs, rfl, hv⟩ := BT_shape hb
  have e1 : w64 (r - 1) = r - 1 := by rw [w64_id] <;> omega
  have h := l03Count_loop (.mk k s n ks) τ vs hv (WT_len hw) (fun u hu => ih u hu (WT_kids hw u hu)) (r - 1) (by omega) (by omega)
  simp only [Tm.kind_mk, Tm.name_mk, Tm.num_mk, Tm.kids_mk] at h
  rw [cr_fn pA_spec_l03Count rfl, cntT]
  simp only [go_sem, Nat.reduceAdd, Nat.reduceSub, Nat.reduceMul, Nat.reduceEqDiff, Nat.reduceLeDiff, Nat.reduceBEq, reduceCtorEq, A.spec_l03Count, e1, h]
theorem l03Right_loop (t : Tm) (τ : Bool) (vs : List V) (hv : RL BT t.kids vs) (hlim : t.kids.length ≤ Lm) (d : Int) (hd0 : 0 ≤ d) (hd : d ≤ 40)
    (hc : ∀ u ∈ t.kids, ∀ v, BT u v → cr progA F.spec_l03Right [v, I (d + 1)] = some (B (rightT (d + 1) u))) :
    lw progA L.spec_l03Right_0 ⟨[(1, I d), (2, .p (100000, 0) 0 0), (5, I 0)], [((100000, 0), 4, [.a [I t.kind, S t.name, I t.num, .i τ vs]])]⟩ = if rightTs (d + 1) t.kids = true then some (.exit 0, ⟨[], [((100000, 0), 4, [.a [I t.kind, S t.name, I t.num, .i τ vs]])]⟩) else some (.ret, ⟨[(4, B false)], [((100000, 0), 4, [.a [I t.kind, S t.name, I t.num, .i τ vs]])]⟩) := by
  unfold Lm at hlim
  have hn := RL_length hv
  refine for_ind t.kids (fun i ks => lw progA L.spec_l03Right_0 ⟨[(1, I d), (2, .p (100000, 0) 0 0), (5, I i)], [((100000, 0), 4, [.a [I t.kind, S t.name, I t.num, .i τ vs]])]⟩ = if rightTs (d + 1) ks = true then some (.exit 0, ⟨[], [((100000, 0), 4, [.a [I t.kind, S t.name, I t.num, .i τ vs]])]⟩) else some (.ret, ⟨[(4, B false)], [((100000, 0), 4, [.a [I t.kind, S t.name, I t.num, .i τ vs]])]⟩)) (by omega) ?_ ?_
  · rw [lw_eq]
    simp only [go_sem, Nat.reduceAdd, Nat.reduceSub, Nat.reduceMul, Nat.reduceEqDiff, Nat.reduceLeDiff, Nat.reduceBEq, reduceCtorEq, LB.spec_l03Right_0, hn, rightTs]
  · intro i u ks ht hi hlt e1 hir hm hr ih
    obtain ⟨v, gv, hbt⟩ := RL_get hv ht
    have a1 := fun T => addr_i (τ := τ) (T := T) gv (BT_cells hbt)
    have hcc := hc u hm v hbt
    have e2 : w64 (d + 1) = d + 1 := by rw [w64_id] <;> omega
    obtain ⟨σ1, ws, rfl, -⟩ := BT_shape hbt
    rw [lw_eq, rightTs]
    cases hr : rightT (d + 1) u with
    | true =>
      rw [hr] at hcc
      rw [Bool.true_and, ← ih]
      simp only [go_sem, Nat.reduceAdd, Nat.reduceSub, Nat.reduceMul, Nat.reduceEqDiff, Nat.reduceLeDiff, Nat.reduceBEq, reduceCtorEq, LB.spec_l03Right_0, hn, hlt, a1, gv, hcc, e1, e2]
    | false =>
      rw [hr] at hcc
      simp only [go_sem, Nat.reduceAdd, Nat.reduceSub, Nat.reduceMul, Nat.reduceEqDiff, Nat.reduceLeDiff, Nat.reduceBEq, reduceCtorEq, LB.spec_l03Right_0, hn, hlt, a1, gv, hcc, e1, e2]
theorem l03Right_ok : ∀ (t : Tm), WT t → ∀ (d : Int) v, 0 ≤ d → d ≤ 41 → BT t v → cr progA F.spec_l03Right [v, I d] = some (B (rightT d t)) := by
  refine Tm.ind ?_
  intro k s n ks ih hw d v h0 h1 hb
  have ho := l03One_ok (.mk k s n ks) (by have := WT_name hw; unfold Lm at this; omega) v hb
  obtain ⟨τ, vs, rfl, hv⟩ := BT_shape hb
  simp only [Tm.kind_mk, Tm.name_mk, Tm.num_mk, Tm.kids_mk] at ho
  rw [cr_fn pA_spec_l03Right rfl, rightT]
  by_cases hd : 40 < d
  · have : decide (d ≤ 40) = false := decide_eq_false (by omega)
    simp only [go_sem, Nat.reduceAdd, Nat.reduceSub, Nat.reduceMul, Nat.reduceEqDiff, Nat.reduceLeDiff, Nat.reduceBEq, reduceCtorEq, A.spec_l03Right, hd, this]
  · have hdt : decide (d ≤ 40) = true := decide_eq_true (by omega)
    cases h2 : okOne (.mk k s n ks) with
    | false =>
      rw [h2] at ho
      simp only [go_sem, Nat.reduceAdd, Nat.reduceSub, Nat.reduceMul, Nat.reduceEqDiff, Nat.reduceLeDiff, Nat.reduceBEq, reduceCtorEq, A.spec_l03Right, hd, hdt, ho]
    | true =>
      rw [h2] at ho
      have h := l03Right_loop (.mk k s n ks) τ vs hv (WT_len hw) d h0 (by omega) (fun u hu v hb => ih u hu (WT_kids hw u hu) (d + 1) v (by omega) (by omega) hb)
      simp only [Tm.kind_mk, Tm.name_mk, Tm.num_mk, Tm.kids_mk] at h
      cases h3 : rightTs (d + 1) ks with
      | true => rw [h3, if_pos rfl] at h; simp only [go_sem, Nat.reduceAdd, Nat.reduceSub, Nat.reduceMul, Nat.reduceEqDiff, Nat.reduceLeDiff, Nat.reduceBEq, reduceCtorEq, A.spec_l03Right, hd, hdt, ho, h]
      | false => rw [h3] at h; simp only [go_sem, Nat.reduceAdd, Nat.reduceSub, Nat.reduceMul, Nat.reduceEqDiff, Nat.reduceLeDiff, Nat.reduceBEq, reduceCtorEq, A.spec_l03Right, hd, hdt, ho, h]
theorem spec_TermOk_ok (t : Tm) (hw : WT t) (v : V) (hb : BT t v) : cr progA F.spec_TermOk [v] = some (B (termOk t)) := by
  have h1 := l03Count_ok t hw v 400 hb (by decide) (by decide)
  have h2 := l03Right_ok t hw 1 v (by decide) (by decide) hb
  have hc := cntT_eq t 400 (by decide)
  obtain ⟨τ, vs, rfl, hv⟩ := BT_shape hb
  rw [cr_fn pA_spec_TermOk rfl]
  unfold termOk
  by_cases h : nT t ≤ 400
  · have h3 : 0 ≤ cntT t 400 := by rw [hc.1 (by omega)]; omega
    have h4 : decide (nT t ≤ 400) = true := decide_eq_true h
    simp only [go_sem, Nat.reduceAdd, Nat.reduceSub, Nat.reduceMul, Nat.reduceEqDiff, Nat.reduceLeDiff, Nat.reduceBEq, reduceCtorEq, A.spec_TermOk, h1, h2, h3, h4]
  · have h3 : ¬ 0 ≤ cntT t 400 := by have := (hc.2 (by omega)).1; omega
    have h4 : decide (nT t ≤ 400) = false := decide_eq_false h
    simp only [go_sem, Nat.reduceAdd, Nat.reduceSub, Nat.reduceMul, Nat.reduceEqDiff, Nat.reduceLeDiff, Nat.reduceBEq, reduceCtorEq, A.spec_TermOk, h1, h3, h4]
end Go.Vm

set_option autoImplicit false
set_option maxHeartbeats 4000000
set_option maxRecDepth 100000
set_option linter.unusedSimpArgs false
set_option linter.unusedVariables false
namespace Go.Vm
/-! ### the program's TermOk -/
def szI (d : Int) (t : Tm) : Int := if rightT d t = true ∧ nT t ≤ 400 then nT t else 401
theorem szI_bd (d : Int) (t : Tm) : 1 ≤ szI d t ∧ szI d t ≤ 401 := by
  have := nT_pos t
  unfold szI
  split <;> omega
theorem sized_loop (t : Tm) (τ : Bool) (vs : List V) (hv : RL BT t.kids vs) (hlim : t.kids.length ≤ Lm) (d : Int) (hd0 : 0 ≤ d) (hd : d ≤ 40)
    (hc : ∀ u ∈ t.kids, ∀ v, BT u v → cr progA F.impl_sized [v, I (d + 1)] = some (I (szI (d + 1) u))) : ∀ n : Int, 0 ≤ n → n ≤ 400 →
    (rightTs (d + 1) t.kids = true ∧ n + (nTs t.kids : Int) ≤ 400 → lw progA L.impl_sized_0 ⟨[(1, I d), (5, I n), (82, .i τ vs), (83, I t.kids.length), (84, I 0)], []⟩ = some (.exit 1, ⟨[(5, I (n + (nTs t.kids : Int)))], []⟩)) ∧ (¬ (rightTs (d + 1) t.kids = true ∧ n + (nTs t.kids : Int) ≤ 400) → ∃ T, lw progA L.impl_sized_0 ⟨[(1, I d), (5, I n), (82, .i τ vs), (83, I t.kids.length), (84, I 0)], []⟩ = some (.ret, ⟨[(4, I 401)], T⟩)) := by
  unfold Lm at hlim
  have hn := RL_length hv
  refine for_ind t.kids (fun i ks => ∀ n : Int, 0 ≤ n → n ≤ 400 → (rightTs (d + 1) ks = true ∧ n + (nTs ks : Int) ≤ 400 → lw progA L.impl_sized_0 ⟨[(1, I d), (5, I n), (82, .i τ vs), (83, I t.kids.length), (84, I i)], []⟩ = some (.exit 1, ⟨[(5, I (n + (nTs ks : Int)))], []⟩)) ∧ (¬ (rightTs (d + 1) ks = true ∧ n + (nTs ks : Int) ≤ 400) → ∃ T, lw progA L.impl_sized_0 ⟨[(1, I d), (5, I n), (82, .i τ vs), (83, I t.kids.length), (84, I i)], []⟩ = some (.ret, ⟨[(4, I 401)], T⟩))) (by omega) ?_ ?_
  · intro n h0 h1
    have e0 : n + ((nTs [] : Nat) : Int) = n := by simp only [nTs]; omega
    refine ⟨fun _ => ?_, fun hx => absurd ⟨rfl, by rw [e0]; exact h1⟩ hx⟩
    rw [lw_eq, e0]
    simp only [go_sem, Nat.reduceAdd, Nat.reduceSub, Nat.reduceMul, Nat.reduceEqDiff, Nat.reduceLeDiff, Nat.reduceBEq, reduceCtorEq, LB.impl_sized_0, hn]
  · intro i u ks ht hi hlt e1 hir hm hr ih n h0 h1
    obtain ⟨v, gv, hbt⟩ := RL_get hv ht
    have a1 := fun T => addr_i (τ := τ) (T := T) gv (BT_cells hbt)
    have hcc := hc u hm v hbt
    have hb := szI_bd (d + 1) u
    have e2 : w64 (d + 1) = d + 1 := by rw [w64_id] <;> omega
    have e3 : w64 (n + szI (d + 1) u) = n + szI (d + 1) u := by rw [w64_id] <;> omega
    obtain ⟨σ1, ws, rfl, -⟩ := BT_shape hbt
    have hp := nT_pos u
    have e4 : ((nTs (u :: ks) : Nat) : Int) = (nT u : Int) + nTs ks := by simp only [nTs]; omega
    rw [e4]
    by_cases hbad : 400 < n + szI (d + 1) u
    · refine ⟨fun hy => ?_, fun _ => ⟨[((7, 0), 4, [.a [I u.kind, S u.name, I u.num, .i σ1 ws]])], ?_⟩⟩
      · simp only [rightTs, Bool.and_eq_true] at hy
        unfold szI at hbad
        rw [if_pos ⟨hy.1.1, by omega⟩] at hbad
        omega
      rw [lw_eq]
      simp only [go_sem, Nat.reduceAdd, Nat.reduceSub, Nat.reduceMul, Nat.reduceEqDiff, Nat.reduceLeDiff, Nat.reduceBEq, reduceCtorEq, LB.impl_sized_0, hn, hlt, a1, gv, hcc, e1, e2, e3, hbad]
    · have hr : rightT (d + 1) u = true ∧ nT u ≤ 400 := by
        apply Classical.byContradiction
        intro hx
        unfold szI at hbad
        rw [if_neg hx] at hbad
        omega
      have hs : szI (d + 1) u = nT u := by unfold szI; rw [if_pos hr]
      rw [hs] at hcc e3 hbad
      have i1 := ih (n + nT u) (by omega) (by omega)
      have e5 : n + ((nT u : Int) + nTs ks) = n + nT u + nTs ks := by omega
      have e6 : lw progA L.impl_sized_0 ⟨[(1, I d), (5, I n), (82, .i τ vs), (83, I t.kids.length), (84, I i)], []⟩ = lw progA L.impl_sized_0 ⟨[(1, I d), (5, I (n + nT u)), (82, .i τ vs), (83, I t.kids.length), (84, I (↑(i + 1)))], []⟩ := by
        rw [lw_eq]
        simp only [go_sem, Nat.reduceAdd, Nat.reduceSub, Nat.reduceMul, Nat.reduceEqDiff, Nat.reduceLeDiff, Nat.reduceBEq, reduceCtorEq, LB.impl_sized_0, hn, hlt, a1, gv, hcc, e1, e2, e3, hbad]
      rw [rightTs, hr.1, Bool.true_and, e5, e6]
      exact i1
theorem impl_sized_ok : ∀ (t : Tm), WT t → ∀ (d : Int) v, 0 ≤ d → d ≤ 41 → BT t v → cr progA F.impl_sized [v, I d] = some (I (szI d t)) := by
  refine Tm.ind ?_
  intro k s n ks ih hw d v h0 h1 hb
  have hnm := impl_nameOk_ok s (by have := WT_name hw; unfold Lm at this; exact Nat.le_trans this (by decide))
  have i1 := within_ok n 0 99999
  have i2 := within_ok n (-999999999) 999999999
  have i3 := within_ok ks.length 1 5
  have hlen := WT_len hw
  unfold Lm at hlen
  simp only [Tm.kids_mk] at hlen
  obtain ⟨τ, vs, rfl, hv⟩ := BT_shape hb
  have hn := RL_length hv
  simp only [Tm.kids_mk] at hn hv
  rw [cr_fn pA_impl_sized rfl]
  have hbad : okOne (.mk k s n ks) = false ∨ ¬ d ≤ 40 → szI d (.mk k s n ks) = 401 := by
    intro h
    unfold szI
    rw [if_neg]
    simp only [rightT, Bool.and_eq_true, decide_eq_true_eq]
    rcases h with h | h
    · rw [h]; simp
    · omega
  by_cases hd : 40 < d
  · rw [hbad (.inr (by omega))]
    simp only [go_sem, Nat.reduceAdd, Nat.reduceSub, Nat.reduceMul, Nat.reduceEqDiff, Nat.reduceLeDiff, Nat.reduceBEq, reduceCtorEq, A.impl_sized, hd]
  have h := sized_loop (.mk k s n ks) τ vs hv (WT_len hw) d h0 (by omega) (fun u hu v hb => ih u hu (WT_kids hw u hu) (d + 1) v (by omega) (by omega) hb) 1 (by decide) (by decide)
  simp only [Tm.kind_mk, Tm.name_mk, Tm.num_mk, Tm.kids_mk] at h
  have hgood : okOne (.mk k s n ks) = true → szI d (.mk k s n ks) = if rightTs (d + 1) ks = true ∧ (1 : Int) + (nTs ks : Int) ≤ 400 then 1 + (nTs ks : Int) else 401 := by
    intro ho
    unfold szI
    have hdt : decide (d ≤ 40) = true := decide_eq_true (by omega)
    rw [rightT, ho, hdt, Bool.true_and, Bool.true_and]
    have e : nT (.mk k s n ks) = nTs ks + 1 := by simp only [nT]
    by_cases hx : rightTs (d + 1) ks = true ∧ nT (.mk k s n ks) ≤ 400
    · rw [if_pos (show rightTs (d + 1) ks = true ∧ (1 : Int) + (nTs ks : Int) ≤ 400 from ⟨hx.1, by omega⟩), if_pos hx]; omega
    · rw [if_neg (show ¬ (rightTs (d + 1) ks = true ∧ (1 : Int) + (nTs ks : Int) ≤ 400) from fun hy => hx ⟨hy.1, by omega⟩), if_neg hx]
  have hz : ¬ (0 : Int) < ks.length → ks.length = 0 := by omega
  have p0 : (0 : Int) < ks.length ∨ ¬ (0 : Int) < ks.length := by omega
  unfold okOne at hbad hgood
  simp only [Tm.kind_mk, Tm.name_mk, Tm.num_mk, Tm.kids_mk] at hbad hgood
  by_cases k1 : k = 1
  · have d1 : decide (k = 1) = true := decide_eq_true k1
    rw [if_pos k1] at hbad hgood
    cases c2 : decide (s = []) with
    | false => rw [hbad (.inl (by rw [c2]; simp))]; simp only [go_sem, Nat.reduceAdd, Nat.reduceSub, Nat.reduceMul, Nat.reduceEqDiff, Nat.reduceLeDiff, Nat.reduceBEq, reduceCtorEq, A.impl_sized, hd, d1, c2]
    | true =>
    cases c1 : decide (0 ≤ n ∧ n ≤ 99999) with
    | false => rw [hbad (.inl (by rw [c1]; simp))]; rw [c1] at i1; simp only [go_sem, Nat.reduceAdd, Nat.reduceSub, Nat.reduceMul, Nat.reduceEqDiff, Nat.reduceLeDiff, Nat.reduceBEq, reduceCtorEq, A.impl_sized, hd, d1, c2, i1]
    | true =>
    rw [c1] at i1
    by_cases c3 : (0 : Int) < ks.length
    · rw [hbad (.inl (by rw [decide_eq_false (show ¬ (ks.length : Int) = 0 by omega)]; simp))]; simp only [go_sem, Nat.reduceAdd, Nat.reduceSub, Nat.reduceMul, Nat.reduceEqDiff, Nat.reduceLeDiff, Nat.reduceBEq, reduceCtorEq, A.impl_sized, hd, d1, c2, i1, hn, c3]
    · rw [hgood (by rw [c1, c2, decide_eq_true (show (ks.length : Int) = 0 by omega)]; rfl)]
      by_cases hx : rightTs (d + 1) ks = true ∧ (1 : Int) + (nTs ks : Int) ≤ 400
      · have h := h.1 hx; rw [if_pos hx]; simp only [go_sem, Nat.reduceAdd, Nat.reduceSub, Nat.reduceMul, Nat.reduceEqDiff, Nat.reduceLeDiff, Nat.reduceBEq, reduceCtorEq, A.impl_sized, hd, d1, c2, i1, hn, c3, h]
      · obtain ⟨T, h⟩ := h.2 hx; rw [if_neg hx]; simp only [go_sem, Nat.reduceAdd, Nat.reduceSub, Nat.reduceMul, Nat.reduceEqDiff, Nat.reduceLeDiff, Nat.reduceBEq, reduceCtorEq, A.impl_sized, hd, d1, c2, i1, hn, c3, h]
  rw [if_neg k1] at hbad hgood
  have d1 : decide (k = 1) = false := decide_eq_false k1
  by_cases k2 : k = 2
  · have d2 : decide (k = 2) = true := decide_eq_true k2
    rw [if_pos k2] at hbad hgood
    cases c1 : nameOk s with
    | false => rw [hbad (.inl (by rw [c1]; simp))]; rw [c1] at hnm; simp only [go_sem, Nat.reduceAdd, Nat.reduceSub, Nat.reduceMul, Nat.reduceEqDiff, Nat.reduceLeDiff, Nat.reduceBEq, reduceCtorEq, A.impl_sized, hd, d1, d2, hnm]
    | true =>
    rw [c1] at hnm
    cases c2 : decide (n = 0) with
    | false => rw [hbad (.inl (by rw [c2]; simp))]; simp only [go_sem, Nat.reduceAdd, Nat.reduceSub, Nat.reduceMul, Nat.reduceEqDiff, Nat.reduceLeDiff, Nat.reduceBEq, reduceCtorEq, A.impl_sized, hd, d1, d2, hnm, c2]
    | true =>
    by_cases c3 : (0 : Int) < ks.length
    · rw [hbad (.inl (by rw [decide_eq_false (show ¬ (ks.length : Int) = 0 by omega)]; simp))]; simp only [go_sem, Nat.reduceAdd, Nat.reduceSub, Nat.reduceMul, Nat.reduceEqDiff, Nat.reduceLeDiff, Nat.reduceBEq, reduceCtorEq, A.impl_sized, hd, d1, d2, hnm, c2, hn, c3]
    · rw [hgood (by rw [c1, c2, decide_eq_true (show (ks.length : Int) = 0 by omega)]; rfl)]
      by_cases hx : rightTs (d + 1) ks = true ∧ (1 : Int) + (nTs ks : Int) ≤ 400
      · have h := h.1 hx; rw [if_pos hx]; simp only [go_sem, Nat.reduceAdd, Nat.reduceSub, Nat.reduceMul, Nat.reduceEqDiff, Nat.reduceLeDiff, Nat.reduceBEq, reduceCtorEq, A.impl_sized, hd, d1, d2, hnm, c2, hn, c3, h]
      · obtain ⟨T, h⟩ := h.2 hx; rw [if_neg hx]; simp only [go_sem, Nat.reduceAdd, Nat.reduceSub, Nat.reduceMul, Nat.reduceEqDiff, Nat.reduceLeDiff, Nat.reduceBEq, reduceCtorEq, A.impl_sized, hd, d1, d2, hnm, c2, hn, c3, h]
  rw [if_neg k2] at hbad hgood
  have d2 : decide (k = 2) = false := decide_eq_false k2
  by_cases k3 : k = 3
  · have d3 : decide (k = 3) = true := decide_eq_true k3
    rw [if_pos k3] at hbad hgood
    cases c2 : decide (s = []) with
    | false => rw [hbad (.inl (by rw [c2]; simp))]; simp only [go_sem, Nat.reduceAdd, Nat.reduceSub, Nat.reduceMul, Nat.reduceEqDiff, Nat.reduceLeDiff, Nat.reduceBEq, reduceCtorEq, A.impl_sized, hd, d1, d2, d3, c2]
    | true =>
    cases c1 : decide (-999999999 ≤ n ∧ n ≤ 999999999) with
    | false => rw [hbad (.inl (by rw [c1]; simp))]; rw [c1] at i2; simp only [go_sem, Nat.reduceAdd, Nat.reduceSub, Nat.reduceMul, Nat.reduceEqDiff, Nat.reduceLeDiff, Nat.reduceBEq, reduceCtorEq, A.impl_sized, hd, d1, d2, d3, c2, i2]
    | true =>
    rw [c1] at i2
    by_cases c3 : (0 : Int) < ks.length
    · rw [hbad (.inl (by rw [decide_eq_false (show ¬ (ks.length : Int) = 0 by omega)]; simp))]; simp only [go_sem, Nat.reduceAdd, Nat.reduceSub, Nat.reduceMul, Nat.reduceEqDiff, Nat.reduceLeDiff, Nat.reduceBEq, reduceCtorEq, A.impl_sized, hd, d1, d2, d3, c2, i2, hn, c3]
    · rw [hgood (by rw [c1, c2, decide_eq_true (show (ks.length : Int) = 0 by omega)]; rfl)]
      by_cases hx : rightTs (d + 1) ks = true ∧ (1 : Int) + (nTs ks : Int) ≤ 400
      · have h := h.1 hx; rw [if_pos hx]; simp only [go_sem, Nat.reduceAdd, Nat.reduceSub, Nat.reduceMul, Nat.reduceEqDiff, Nat.reduceLeDiff, Nat.reduceBEq, reduceCtorEq, A.impl_sized, hd, d1, d2, d3, c2, i2, hn, c3, h]
      · obtain ⟨T, h⟩ := h.2 hx; rw [if_neg hx]; simp only [go_sem, Nat.reduceAdd, Nat.reduceSub, Nat.reduceMul, Nat.reduceEqDiff, Nat.reduceLeDiff, Nat.reduceBEq, reduceCtorEq, A.impl_sized, hd, d1, d2, d3, c2, i2, hn, c3, h]
  rw [if_neg k3] at hbad hgood
  have d3 : decide (k = 3) = false := decide_eq_false k3
  by_cases k4 : k = 4
  · have d4 : decide (k = 4) = true := decide_eq_true k4
    rw [if_pos k4] at hbad hgood
    cases c1 : nameOk s with
    | false => rw [hbad (.inl (by rw [c1]; simp))]; rw [c1] at hnm; simp only [go_sem, Nat.reduceAdd, Nat.reduceSub, Nat.reduceMul, Nat.reduceEqDiff, Nat.reduceLeDiff, Nat.reduceBEq, reduceCtorEq, A.impl_sized, hd, d1, d2, d3, d4, hnm]
    | true =>
    rw [c1] at hnm
    cases c2 : decide (n = 0) with
    | false => rw [hbad (.inl (by rw [c2]; simp))]; simp only [go_sem, Nat.reduceAdd, Nat.reduceSub, Nat.reduceMul, Nat.reduceEqDiff, Nat.reduceLeDiff, Nat.reduceBEq, reduceCtorEq, A.impl_sized, hd, d1, d2, d3, d4, hnm, c2]
    | true =>
    cases c3 : decide (1 ≤ (ks.length : Int) ∧ (ks.length : Int) ≤ 5) with
    | false => rw [hbad (.inl (by rw [c3]; simp))]; rw [c3] at i3; simp only [go_sem, Nat.reduceAdd, Nat.reduceSub, Nat.reduceMul, Nat.reduceEqDiff, Nat.reduceLeDiff, Nat.reduceBEq, reduceCtorEq, A.impl_sized, hd, d1, d2, d3, d4, hnm, c2, hn, i3]
    | true =>
      rw [c3] at i3
      rw [hgood (by rw [c1, c2, c3]; rfl)]
      by_cases hx : rightTs (d + 1) ks = true ∧ (1 : Int) + (nTs ks : Int) ≤ 400
      · have h := h.1 hx; rw [if_pos hx]; simp only [go_sem, Nat.reduceAdd, Nat.reduceSub, Nat.reduceMul, Nat.reduceEqDiff, Nat.reduceLeDiff, Nat.reduceBEq, reduceCtorEq, A.impl_sized, hd, d1, d2, d3, d4, hnm, c2, hn, i3, h]
      · obtain ⟨T, h⟩ := h.2 hx; rw [if_neg hx]; simp only [go_sem, Nat.reduceAdd, Nat.reduceSub, Nat.reduceMul, Nat.reduceEqDiff, Nat.reduceLeDiff, Nat.reduceBEq, reduceCtorEq, A.impl_sized, hd, d1, d2, d3, d4, hnm, c2, hn, i3, h]
  rw [if_neg k4] at hbad
  have d4 : decide (k = 4) = false := decide_eq_false k4
  rw [hbad (.inl rfl)]
  simp only [go_sem, Nat.reduceAdd, Nat.reduceSub, Nat.reduceMul, Nat.reduceEqDiff, Nat.reduceLeDiff, Nat.reduceBEq, reduceCtorEq, A.impl_sized, hd, d1, d2, d3, d4]
theorem impl_TermOk_ok (t : Tm) (hw : WT t) (v : V) (hb : BT t v) : cr progA F.impl_TermOk [v] = some (B (termOk t)) := by
  have h1 := impl_sized_ok t hw 1 v (by decide) (by decide) hb
  have hbd := szI_bd 1 t
  obtain ⟨τ, vs, rfl, hv⟩ := BT_shape hb
  rw [cr_fn pA_impl_TermOk rfl]
  by_cases h : rightT 1 t = true ∧ nT t ≤ 400
  · have h2 : szI 1 t ≤ 400 := by unfold szI; rw [if_pos h]; omega
    have h3 : termOk t = true := by unfold termOk; rw [h.1, decide_eq_true h.2]; rfl
    rw [h3]
    simp only [go_sem, Nat.reduceAdd, Nat.reduceSub, Nat.reduceMul, Nat.reduceEqDiff, Nat.reduceLeDiff, Nat.reduceBEq, reduceCtorEq, A.impl_TermOk, h1, h2]
  · have h2 : ¬ szI 1 t ≤ 400 := by unfold szI; rw [if_neg h]; omega
    have h3 : termOk t = false := by
      unfold termOk
      cases e1 : rightT 1 t with
      | false => rw [Bool.and_false]
      | true => rw [decide_eq_false (fun hx => h ⟨e1, hx⟩)]; rfl
    rw [h3]
    simp only [go_sem, Nat.reduceAdd, Nat.reduceSub, Nat.reduceMul, Nat.reduceEqDiff, Nat.reduceLeDiff, Nat.reduceBEq, reduceCtorEq, A.impl_TermOk, h1, h2]
end Go.Vm

set_option autoImplicit false
set_option maxRecDepth 100000
set_option linter.unusedSimpArgs false
set_option linter.unusedVariables false
namespace Go.Vm
open Go.Lib (itoa decDigits)
/-! ### decimal numerals -/
def digs (m : Nat) : Str := if m = 0 then [] else decDigits m
theorem digs_step {m : Nat} (h : m ≠ 0) : digs m = digs (m / 10) ++ [UInt8.ofNat (48 + m % 10)] := by
  unfold digs
  rw [if_neg h, decDigits]
  by_cases h1 : m < 10
  · rw [dif_pos h1, if_pos (by omega), Nat.mod_eq_of_lt h1]; rfl
  · rw [dif_neg h1, if_neg (by omega)]
theorem l01Figure_ok (d : Int) (h0 : 0 ≤ d) (h1 : d ≤ 9) : cr progA F.spec_l01Figure [I d] = some (U8 (48 + d)) := by
  rw [cr_fn pA_spec_l01Figure rfl]
  have h2 : d < 10 := by omega
  have e4 : w64 (48 + d) = 48 + d := by rw [w64_id] <;> omega
  have e5 : IntKind.u8.wrap (48 + d) = 48 + d := by
    have : (48 + d) % 256 = 48 + d := by omega
    exact this
  simp only [go_sem, Nat.reduceAdd, Nat.reduceSub, Nat.reduceMul, Nat.reduceEqDiff, Nat.reduceLeDiff, Nat.reduceBEq, reduceCtorEq, A.spec_l01Figure, h2, e4, e5]
theorem Decimal_loop (b : Bool) : ∀ (k : Nat) (n : Int) (s : Str), n.natAbs < 10^k → k ≤ 19 → -9223372036854775808 ≤ n → n ≤ 9223372036854775807 → s.length + k ≤ 100 →
    lw progA L.spec_Decimal_0 ⟨[(0, I n), (3, B b), (4, S s)], []⟩ = some (.exit 0, ⟨[(3, B b), (4, S (digs n.natAbs ++ s))], []⟩) := by
  intro k
  induction k with
  | zero =>
    intro n s h1 h2 h3 h4 h5
    obtain rfl : n = 0 := by omega
    rw [show digs (Int.natAbs 0) ++ s = s from rfl, lw_eq]
    simp only [go_sem, Nat.reduceAdd, Nat.reduceSub, Nat.reduceMul, Nat.reduceEqDiff, Nat.reduceLeDiff, Nat.reduceBEq, reduceCtorEq, LB.spec_Decimal_0]
  | succ k ih =>
    intro n s h1 h2 h3 h4 h5
    by_cases h0 : n = 0
    · subst h0
      rw [show digs (Int.natAbs 0) ++ s = s from rfl, lw_eq]
      simp only [go_sem, Nat.reduceAdd, Nat.reduceSub, Nat.reduceMul, Nat.reduceEqDiff, Nat.reduceLeDiff, Nat.reduceBEq, reduceCtorEq, LB.spec_Decimal_0]
    have d0 : decide (n = 0) = false := decide_eq_false h0
    have e1 : binV .rem (I n) (I 10) = _ := bin_rem (by decide)
    have e2 : binV .quo (I n) (I 10) = _ := bin_quo (by decide)
    have q1 : (n.tdiv 10).natAbs = n.natAbs / 10 := Int.natAbs_tdiv n 10
    have r1 : (n.tmod 10).natAbs = n.natAbs % 10 := Int.natAbs_tmod n 10
    have e3 : w64 (n.tdiv 10) = n.tdiv 10 := by rw [w64_id] <;> omega
    have e4 : w64 (n.tmod 10) = n.tmod 10 := by rw [w64_id] <;> omega
    have e5 : w64 (0 - n.tmod 10) = 0 - n.tmod 10 := by rw [w64_id] <;> omega
    have e6 : bytesOf [U8 (48 + ((n.natAbs % 10 : Nat) : Int))] = some [UInt8.ofNat (48 + ((n.natAbs % 10 : Nat) : Int)).toNat] := rfl
    have e8 : (48 + ((n.natAbs % 10 : Nat) : Int)).toNat = 48 + n.natAbs % 10 := by omega
    rw [e8] at e6
    have e7 : binV .add (S [UInt8.ofNat (48 + n.natAbs % 10)]) (S s) = _ := binS_add (by simp only [List.length_cons, List.length_nil]; omega)
    have hp : n.natAbs / 10 < 10^k := by rw [Nat.pow_succ] at h1; omega
    have ih1 := ih (n.tdiv 10) ([UInt8.ofNat (48 + n.natAbs % 10)] ++ s) (by omega) (by omega) (by omega) (by omega) (by simp only [List.length_append, List.length_cons, List.length_nil]; omega)
    rw [q1, ← List.append_assoc, ← digs_step (show n.natAbs ≠ 0 by omega)] at ih1
    have f := l01Figure_ok ((n.natAbs % 10 : Nat) : Int) (by omega) (by omega)
    rw [lw_eq]
    by_cases hneg : n.tmod 10 < 0
    · have e9 : 0 - n.tmod 10 = ((n.natAbs % 10 : Nat) : Int) := by omega
      rw [e9] at e5
      simp only [go_sem, Nat.reduceAdd, Nat.reduceSub, Nat.reduceMul, Nat.reduceEqDiff, Nat.reduceLeDiff, Nat.reduceBEq, reduceCtorEq, LB.spec_Decimal_0, d0, e1, e2, e3, e4, hneg, e9, e5, f, e6, e7] at ih1 ⊢
      exact ih1
    · have e9 : n.tmod 10 = ((n.natAbs % 10 : Nat) : Int) := by omega
      have e10 : ¬ ((n.natAbs % 10 : Nat) : Int) < 0 := by omega
      rw [e9] at e1 e4
      simp only [go_sem, Nat.reduceAdd, Nat.reduceSub, Nat.reduceMul, Nat.reduceEqDiff, Nat.reduceLeDiff, Nat.reduceBEq, reduceCtorEq, LB.spec_Decimal_0, d0, e1, e2, e3, e4, e10, f, e6, e7] at ih1 ⊢
      exact ih1
theorem digs_pos {m : Nat} (h : m ≠ 0) : digs m = decDigits m := if_neg h
theorem spec_Decimal_ok (n : Int) (h0 : -9223372036854775808 ≤ n) (h1 : n ≤ 9223372036854775807) : cr progA F.spec_Decimal [I n] = some (S (itoa n)) := by
  rw [cr_fn pA_spec_Decimal rfl]
  by_cases hz : n = 0
  · subst hz
    have : itoa 0 = [48] := by unfold itoa; rw [if_neg (by decide), decDigits]; rfl
    rw [this]
    simp only [go_sem, Nat.reduceAdd, Nat.reduceSub, Nat.reduceMul, Nat.reduceEqDiff, Nat.reduceLeDiff, Nat.reduceBEq, reduceCtorEq, A.spec_Decimal]
  have d0 : decide (n = 0) = false := decide_eq_false hz
  by_cases hneg : n < 0
  · have h := Decimal_loop true 19 n [] (by omega) (by decide) h0 h1 (by decide)
    rw [List.append_nil, digs_pos (by omega)] at h
    have hl : (decDigits n.natAbs).length < 2^62 := by
      have : ∀ (k m : Nat), m < 10^(k+1) → (decDigits m).length ≤ k + 1 := by
        intro k
        induction k with
        | zero => intro m hm; rw [decDigits, dif_pos (by omega)]; simp
        | succ k ih =>
          intro m hm
          rw [decDigits]
          split
          · simp
          · rw [List.length_append]
            have := ih (m / 10) (by rw [Nat.pow_succ] at hm; omega)
            simp only [List.length_cons, List.length_nil]; omega
      have := this 18 n.natAbs (by omega)
      omega
    have e7 : binV .add (S [45]) (S (decDigits n.natAbs)) = _ := binS_add (by simp only [List.length_cons, List.length_nil]; omega)
    have hi : itoa n = [45] ++ decDigits n.natAbs := by unfold itoa; rw [if_pos hneg]; rfl
    rw [hi]
    simp only [go_sem, Nat.reduceAdd, Nat.reduceSub, Nat.reduceMul, Nat.reduceEqDiff, Nat.reduceLeDiff, Nat.reduceBEq, reduceCtorEq, A.spec_Decimal, d0, hneg, h, e7]
  · have h := Decimal_loop false 19 n [] (by omega) (by decide) h0 h1 (by decide)
    rw [List.append_nil, digs_pos (by omega)] at h
    have hi : itoa n = decDigits n.natAbs := by unfold itoa; rw [if_neg hneg, show n.toNat = n.natAbs by omega]
    rw [hi]
    simp only [go_sem, Nat.reduceAdd, Nat.reduceSub, Nat.reduceMul, Nat.reduceEqDiff, Nat.reduceLeDiff, Nat.reduceBEq, reduceCtorEq, A.spec_Decimal, d0, hneg, h]
theorem impl_Decimal_ok (n : Int) (h0 : -9223372036854775808 ≤ n) (h1 : n ≤ 9223372036854775807) : cr progA F.impl_Decimal [I n] = some (S (itoa n)) := by
  rw [cr_fn pA_impl_Decimal rfl]
  have h := cr_itoa pA_strconv_Itoa n h0 h1
  simp only [go_sem, Nat.reduceAdd, Nat.reduceSub, Nat.reduceMul, Nat.reduceEqDiff, Nat.reduceLeDiff, Nat.reduceBEq, reduceCtorEq, A.impl_Decimal, h]
end Go.Vm

set_option autoImplicit false
set_option maxHeartbeats 4000000
set_option maxRecDepth 100000
set_option linter.unusedSimpArgs false
set_option linter.unusedVariables false
namespace Go.Vm
open Go.Lib (itoa decDigits)
@[go_sem] theorem loadE_I' {n : Nat} {a : Int} : loadE false n (I a) 0 = some (I a) := (rfl)
@[go_sem] theorem loadE_S' {n : Nat} {x : Str} : loadE false n (S x) 0 = some (S x) := (rfl)
@[go_sem] theorem loadE_U8' {n : Nat} {a : Int} : loadE false n (U8 a) 0 = some (U8 a) := (rfl)
/-! ### the place of a text in a list -/
def idxS (n : Str) : Nat → List Str → Int
  | _, [] => -1
  | i, x :: xs => if n = x then (i : Int) else idxS n (i + 1) xs
theorem idxS_ge (n : Str) : ∀ (l : List Str) (i : Nat), (n ∈ l → (i : Int) ≤ idxS n i l ∧ idxS n i l < i + l.length) ∧ (n ∉ l → idxS n i l = -1)
  | [], i => ⟨fun h => (by cases h), fun _ => rfl⟩
  | x :: xs, i => by
    obtain ⟨h1, h2⟩ := idxS_ge n xs (i + 1)
    by_cases h : n = x
    · subst h; simp [idxS]; omega
    · simp only [idxS, if_neg h, List.mem_cons, h, false_or, List.length_cons]
      exact ⟨fun hm => by have := h1 hm; omega, h2⟩
theorem idxS_mem (n : Str) (l : List Str) : 0 ≤ idxS n 0 l ↔ n ∈ l := by
  obtain ⟨h1, h2⟩ := idxS_ge n l 0
  by_cases h : n ∈ l
  · simp only [h, iff_true]; have := h1 h; omega
  · simp only [h, iff_false, h2 h]; omega
theorem IndexS_loop (τ : Bool) (l : List Str) (n : Str) (hlim : l.length ≤ 2^40) :
    lw progA L.slices_Index_string_string_0 ⟨[(0, .i τ (l.map S)), (1, S n), (7, I l.length), (8, I (0 : Nat))], []⟩ = if n ∈ l then some (.ret, ⟨[(4, I (idxS n 0 l))], []⟩) else some (.exit 0, ⟨[], []⟩) := by
  refine for_ind l (fun i r => lw progA L.slices_Index_string_string_0 ⟨[(0, .i τ (l.map S)), (1, S n), (7, I l.length), (8, I i)], []⟩ = if n ∈ r then some (.ret, ⟨[(4, I (idxS n i r))], []⟩) else some (.exit 0, ⟨[], []⟩)) (by omega) ?_ ?_
  · rw [lw_eq]
    simp only [go_sem, Nat.reduceAdd, Nat.reduceSub, Nat.reduceMul, Nat.reduceEqDiff, Nat.reduceLeDiff, Nat.reduceBEq, reduceCtorEq, LB.slices_Index_string_string_0, List.not_mem_nil]
  · intro i t r ht hi hlt e1 hir hm hr ih
    have g := getmap (f := S) ht
    have a1 := addr_i (τ := τ) (T := []) (e := 1) g rfl
    rw [lw_eq]
    by_cases he : n = t
    · have d : decide (n = t) = true := decide_eq_true he
      rw [if_pos (by rw [he]; exact List.mem_cons_self), idxS, if_pos he]
      simp only [go_sem, Nat.reduceAdd, Nat.reduceSub, Nat.reduceMul, Nat.reduceEqDiff, Nat.reduceLeDiff, Nat.reduceBEq, reduceCtorEq, LB.slices_Index_string_string_0, hlt, a1, g, e1, d]
    · have d : decide (n = t) = false := decide_eq_false he
      have hmm : (n ∈ t :: r) = (n ∈ r) := by simp only [List.mem_cons, he, false_or]
      simp only [hmm, idxS, if_neg he]
      simp only [go_sem, Nat.reduceAdd, Nat.reduceSub, Nat.reduceMul, Nat.reduceEqDiff, Nat.reduceLeDiff, Nat.reduceBEq, reduceCtorEq, LB.slices_Index_string_string_0, hlt, a1, g, e1, d]
      exact ih
theorem IndexS_ok (τ : Bool) (l : List Str) (n : Str) (hlim : l.length ≤ 2^40) : cr progA F.slices_Index_string_string [.i τ (l.map S), S n] = some (I (idxS n 0 l)) := by
  rw [cr_fn pA_slices_Index_string_string rfl]
  have h := IndexS_loop τ l n hlim
  simp only [Int.natCast_zero] at h
  by_cases hm : n ∈ l
  · rw [if_pos hm] at h
    simp only [go_sem, Nat.reduceAdd, Nat.reduceSub, Nat.reduceMul, Nat.reduceEqDiff, Nat.reduceLeDiff, Nat.reduceBEq, reduceCtorEq, A.slices_Index_string_string, h]
  · rw [if_neg hm] at h
    simp only [go_sem, Nat.reduceAdd, Nat.reduceSub, Nat.reduceMul, Nat.reduceEqDiff, Nat.reduceLeDiff, Nat.reduceBEq, reduceCtorEq, A.slices_Index_string_string, h, (idxS_ge n l 0).2 hm]
theorem ContainsS_ok (τ : Bool) (l : List Str) (n : Str) (hlim : l.length ≤ 2^40) : cr progA F.slices_Contains_string_string [.i τ (l.map S), S n] = some (B (decide (n ∈ l))) := by
  rw [cr_fn pA_slices_Contains_string_string rfl]
  have h := IndexS_ok τ l n hlim
  have hm : decide (0 ≤ idxS n 0 l) = decide (n ∈ l) := decide_eq_decide.2 (idxS_mem n l)
  simp only [go_sem, Nat.reduceAdd, Nat.reduceSub, Nat.reduceMul, Nat.reduceEqDiff, Nat.reduceLeDiff, Nat.reduceBEq, reduceCtorEq, A.slices_Contains_string_string, h, hm]
/-! ### what control is -/
def ctls : List Str := [[116, 114, 117, 101, 47, 48], [102, 97, 105, 108, 47, 48], [33, 47, 48], [44, 47, 50], [59, 47, 50], [45, 62, 47, 50], [92, 43, 47, 49], [99, 97, 108, 108, 47, 49], [99, 97, 108, 108, 47, 50], [99, 97, 108, 108, 47, 51], [99, 97, 116, 99, 104, 47, 51], [116, 104, 114, 111, 119, 47, 49], [61, 47, 50], [92, 61, 47, 50], [61, 61, 47, 50], [105, 115, 47, 50], [60, 47, 50], [61, 58, 61, 47, 50], [118, 97, 114, 47, 49], [97, 116, 111, 109, 47, 49], [119, 114, 105, 116, 101, 47, 49], [97, 115, 115, 101, 114, 116, 122, 47, 49], [114, 101, 116, 114, 97, 99, 116, 47, 49], [58, 45, 47, 50], [58, 45, 47, 49], [45, 45, 62, 47, 50]]
def isCtl (p : Str) : Bool := decide (p ∈ ctls)
theorem impl_Control_ok (p : Str) : cr progA F.impl_Control [S p] = some (B (isCtl p)) := by
  rw [cr_fn pA_impl_Control rfl]
  have h := ContainsS_ok true ctls p (by decide)
  have hd : decide (p ∈ ctls) = isCtl p := rfl
  rw [hd] at h
  simp only [ctls, List.map_cons, List.map_nil] at h
  simp only [go_sem, Nat.reduceAdd, Nat.reduceSub, Nat.reduceMul, Nat.reduceEqDiff, Nat.reduceLeDiff, Nat.reduceBEq, reduceCtorEq, A.impl_Control, h]
theorem spec_Control_ok (p : Str) : cr progA F.spec_Control [S p] = some (B (isCtl p)) := by
  rw [cr_fn pA_spec_Control rfl]
  by_cases h0 : p = [116, 114, 117, 101, 47, 48]
  · have hc : isCtl p = true := by rw [h0]; decide
    rw [hc]
    have d0 : decide (p = [116, 114, 117, 101, 47, 48]) = true := decide_eq_true h0
    clear hc h0
    simp only [go_sem, Nat.reduceAdd, Nat.reduceSub, Nat.reduceMul, Nat.reduceEqDiff, Nat.reduceLeDiff, Nat.reduceBEq, reduceCtorEq, A.spec_Control, d0]
  have d0 : decide (p = [116, 114, 117, 101, 47, 48]) = false := decide_eq_false h0
  by_cases h1 : p = [102, 97, 105, 108, 47, 48]
  · have hc : isCtl p = true := by rw [h1]; decide
    rw [hc]
    have d1 : decide (p = [102, 97, 105, 108, 47, 48]) = true := decide_eq_true h1
    clear hc h1
    simp only [go_sem, Nat.reduceAdd, Nat.reduceSub, Nat.reduceMul, Nat.reduceEqDiff, Nat.reduceLeDiff, Nat.reduceBEq, reduceCtorEq, A.spec_Control, d0, d1]
  have d1 : decide (p = [102, 97, 105, 108, 47, 48]) = false := decide_eq_false h1
  by_cases h2 : p = [33, 47, 48]
  · have hc : isCtl p = true := by rw [h2]; decide
    rw [hc]
    have d2 : decide (p = [33, 47, 48]) = true := decide_eq_true h2
    clear hc h2
    simp only [go_sem, Nat.reduceAdd, Nat.reduceSub, Nat.reduceMul, Nat.reduceEqDiff, Nat.reduceLeDiff, Nat.reduceBEq, reduceCtorEq, A.spec_Control, d0, d1, d2]
  have d2 : decide (p = [33, 47, 48]) = false := decide_eq_false h2
  by_cases h3 : p = [44, 47, 50]
  · have hc : isCtl p = true := by rw [h3]; decide
    rw [hc]
    have d3 : decide (p = [44, 47, 50]) = true := decide_eq_true h3
    clear hc h3
    simp only [go_sem, Nat.reduceAdd, Nat.reduceSub, Nat.reduceMul, Nat.reduceEqDiff, Nat.reduceLeDiff, Nat.reduceBEq, reduceCtorEq, A.spec_Control, d0, d1, d2, d3]
  have d3 : decide (p = [44, 47, 50]) = false := decide_eq_false h3
  by_cases h4 : p = [59, 47, 50]
  · have hc : isCtl p = true := by rw [h4]; decide
    rw [hc]
    have d4 : decide (p = [59, 47, 50]) = true := decide_eq_true h4
    clear hc h4
    simp only [go_sem, Nat.reduceAdd, Nat.reduceSub, Nat.reduceMul, Nat.reduceEqDiff, Nat.reduceLeDiff, Nat.reduceBEq, reduceCtorEq, A.spec_Control, d0, d1, d2, d3, d4]
  have d4 : decide (p = [59, 47, 50]) = false := decide_eq_false h4
  by_cases h5 : p = [45, 62, 47, 50]
  · have hc : isCtl p = true := by rw [h5]; decide
    rw [hc]
    have d5 : decide (p = [45, 62, 47, 50]) = true := decide_eq_true h5
    clear hc h5
    simp only [go_sem, Nat.reduceAdd, Nat.reduceSub, Nat.reduceMul, Nat.reduceEqDiff, Nat.reduceLeDiff, Nat.reduceBEq, reduceCtorEq, A.spec_Control, d0, d1, d2, d3, d4, d5]
  have d5 : decide (p = [45, 62, 47, 50]) = false := decide_eq_false h5
  by_cases h6 : p = [92, 43, 47, 49]
  · have hc : isCtl p = true := by rw [h6]; decide
    rw [hc]
    have d6 : decide (p = [92, 43, 47, 49]) = true := decide_eq_true h6
    clear hc h6
    simp only [go_sem, Nat.reduceAdd, Nat.reduceSub, Nat.reduceMul, Nat.reduceEqDiff, Nat.reduceLeDiff, Nat.reduceBEq, reduceCtorEq, A.spec_Control, d0, d1, d2, d3, d4, d5, d6]
  have d6 : decide (p = [92, 43, 47, 49]) = false := decide_eq_false h6
  by_cases h7 : p = [99, 97, 108, 108, 47, 49]
  · have hc : isCtl p = true := by rw [h7]; decide
    rw [hc]
    have d7 : decide (p = [99, 97, 108, 108, 47, 49]) = true := decide_eq_true h7
    clear hc h7
    simp only [go_sem, Nat.reduceAdd, Nat.reduceSub, Nat.reduceMul, Nat.reduceEqDiff, Nat.reduceLeDiff, Nat.reduceBEq, reduceCtorEq, A.spec_Control, d0, d1, d2, d3, d4, d5, d6, d7]
  have d7 : decide (p = [99, 97, 108, 108, 47, 49]) = false := decide_eq_false h7
  by_cases h8 : p = [99, 97, 108, 108, 47, 50]
  · have hc : isCtl p = true := by rw [h8]; decide
    rw [hc]
    have d8 : decide (p = [99, 97, 108, 108, 47, 50]) = true := decide_eq_true h8
    clear hc h8
    simp only [go_sem, Nat.reduceAdd, Nat.reduceSub, Nat.reduceMul, Nat.reduceEqDiff, Nat.reduceLeDiff, Nat.reduceBEq, reduceCtorEq, A.spec_Control, d0, d1, d2, d3, d4, d5, d6, d7, d8]
  have d8 : decide (p = [99, 97, 108, 108, 47, 50]) = false := decide_eq_false h8
  by_cases h9 : p = [99, 97, 108, 108, 47, 51]
  · have hc : isCtl p = true := by rw [h9]; decide
    rw [hc]
    have d9 : decide (p = [99, 97, 108, 108, 47, 51]) = true := decide_eq_true h9
    clear hc h9
    simp only [go_sem, Nat.reduceAdd, Nat.reduceSub, Nat.reduceMul, Nat.reduceEqDiff, Nat.reduceLeDiff, Nat.reduceBEq, reduceCtorEq, A.spec_Control, d0, d1, d2, d3, d4, d5, d6, d7, d8, d9]
  have d9 : decide (p = [99, 97, 108, 108, 47, 51]) = false := decide_eq_false h9
  by_cases h10 : p = [99, 97, 116, 99, 104, 47, 51]
  · have hc : isCtl p = true := by rw [h10]; decide
    rw [hc]
    have d10 : decide (p = [99, 97, 116, 99, 104, 47, 51]) = true := decide_eq_true h10
    clear hc h10
    simp only [go_sem, Nat.reduceAdd, Nat.reduceSub, Nat.reduceMul, Nat.reduceEqDiff, Nat.reduceLeDiff, Nat.reduceBEq, reduceCtorEq, A.spec_Control, d0, d1, d2, d3, d4, d5, d6, d7, d8, d9, d10]
  have d10 : decide (p = [99, 97, 116, 99, 104, 47, 51]) = false := decide_eq_false h10
  by_cases h11 : p = [116, 104, 114, 111, 119, 47, 49]
  · have hc : isCtl p = true := by rw [h11]; decide
    rw [hc]
    have d11 : decide (p = [116, 104, 114, 111, 119, 47, 49]) = true := decide_eq_true h11
    clear hc h11
    simp only [go_sem, Nat.reduceAdd, Nat.reduceSub, Nat.reduceMul, Nat.reduceEqDiff, Nat.reduceLeDiff, Nat.reduceBEq, reduceCtorEq, A.spec_Control, d0, d1, d2, d3, d4, d5, d6, d7, d8, d9, d10, d11]
  have d11 : decide (p = [116, 104, 114, 111, 119, 47, 49]) = false := decide_eq_false h11
  by_cases h12 : p = [61, 47, 50]
  · have hc : isCtl p = true := by rw [h12]; decide
    rw [hc]
    have d12 : decide (p = [61, 47, 50]) = true := decide_eq_true h12
    clear hc h12
    simp only [go_sem, Nat.reduceAdd, Nat.reduceSub, Nat.reduceMul, Nat.reduceEqDiff, Nat.reduceLeDiff, Nat.reduceBEq, reduceCtorEq, A.spec_Control, d0, d1, d2, d3, d4, d5, d6, d7, d8, d9, d10, d11, d12]
  have d12 : decide (p = [61, 47, 50]) = false := decide_eq_false h12
  by_cases h13 : p = [92, 61, 47, 50]
  · have hc : isCtl p = true := by rw [h13]; decide
    rw [hc]
    have d13 : decide (p = [92, 61, 47, 50]) = true := decide_eq_true h13
    clear hc h13
    simp only [go_sem, Nat.reduceAdd, Nat.reduceSub, Nat.reduceMul, Nat.reduceEqDiff, Nat.reduceLeDiff, Nat.reduceBEq, reduceCtorEq, A.spec_Control, d0, d1, d2, d3, d4, d5, d6, d7, d8, d9, d10, d11, d12, d13]
  have d13 : decide (p = [92, 61, 47, 50]) = false := decide_eq_false h13
  by_cases h14 : p = [61, 61, 47, 50]
  · have hc : isCtl p = true := by rw [h14]; decide
    rw [hc]
    have d14 : decide (p = [61, 61, 47, 50]) = true := decide_eq_true h14
    clear hc h14
    simp only [go_sem, Nat.reduceAdd, Nat.reduceSub, Nat.reduceMul, Nat.reduceEqDiff, Nat.reduceLeDiff, Nat.reduceBEq, reduceCtorEq, A.spec_Control, d0, d1, d2, d3, d4, d5, d6, d7, d8, d9, d10, d11, d12, d13, d14]
  have d14 : decide (p = [61, 61, 47, 50]) = false := decide_eq_false h14
  by_cases h15 : p = [105, 115, 47, 50]
  · have hc : isCtl p = true := by rw [h15]; decide
    rw [hc]
    have d15 : decide (p = [105, 115, 47, 50]) = true := decide_eq_true h15
    clear hc h15
    simp only [go_sem, Nat.reduceAdd, Nat.reduceSub, Nat.reduceMul, Nat.reduceEqDiff, Nat.reduceLeDiff, Nat.reduceBEq, reduceCtorEq, A.spec_Control, d0, d1, d2, d3, d4, d5, d6, d7, d8, d9, d10, d11, d12, d13, d14, d15]
  have d15 : decide (p = [105, 115, 47, 50]) = false := decide_eq_false h15
  by_cases h16 : p = [60, 47, 50]
  · have hc : isCtl p = true := by rw [h16]; decide
    rw [hc]
    have d16 : decide (p = [60, 47, 50]) = true := decide_eq_true h16
    clear hc h16
    simp only [go_sem, Nat.reduceAdd, Nat.reduceSub, Nat.reduceMul, Nat.reduceEqDiff, Nat.reduceLeDiff, Nat.reduceBEq, reduceCtorEq, A.spec_Control, d0, d1, d2, d3, d4, d5, d6, d7, d8, d9, d10, d11, d12, d13, d14, d15, d16]
  have d16 : decide (p = [60, 47, 50]) = false := decide_eq_false h16
  by_cases h17 : p = [61, 58, 61, 47, 50]
  · have hc : isCtl p = true := by rw [h17]; decide
    rw [hc]
    have d17 : decide (p = [61, 58, 61, 47, 50]) = true := decide_eq_true h17
    clear hc h17
    simp only [go_sem, Nat.reduceAdd, Nat.reduceSub, Nat.reduceMul, Nat.reduceEqDiff, Nat.reduceLeDiff, Nat.reduceBEq, reduceCtorEq, A.spec_Control, d0, d1, d2, d3, d4, d5, d6, d7, d8, d9, d10, d11, d12, d13, d14, d15, d16, d17]
  have d17 : decide (p = [61, 58, 61, 47, 50]) = false := decide_eq_false h17
  by_cases h18 : p = [118, 97, 114, 47, 49]
  · have hc : isCtl p = true := by rw [h18]; decide
    rw [hc]
    have d18 : decide (p = [118, 97, 114, 47, 49]) = true := decide_eq_true h18
    clear hc h18
    simp only [go_sem, Nat.reduceAdd, Nat.reduceSub, Nat.reduceMul, Nat.reduceEqDiff, Nat.reduceLeDiff, Nat.reduceBEq, reduceCtorEq, A.spec_Control, d0, d1, d2, d3, d4, d5, d6, d7, d8, d9, d10, d11, d12, d13, d14, d15, d16, d17, d18]
  have d18 : decide (p = [118, 97, 114, 47, 49]) = false := decide_eq_false h18
  by_cases h19 : p = [97, 116, 111, 109, 47, 49]
  · have hc : isCtl p = true := by rw [h19]; decide
    rw [hc]
    have d19 : decide (p = [97, 116, 111, 109, 47, 49]) = true := decide_eq_true h19
    clear hc h19
    simp only [go_sem, Nat.reduceAdd, Nat.reduceSub, Nat.reduceMul, Nat.reduceEqDiff, Nat.reduceLeDiff, Nat.reduceBEq, reduceCtorEq, A.spec_Control, d0, d1, d2, d3, d4, d5, d6, d7, d8, d9, d10, d11, d12, d13, d14, d15, d16, d17, d18, d19]
  have d19 : decide (p = [97, 116, 111, 109, 47, 49]) = false := decide_eq_false h19
  by_cases h20 : p = [119, 114, 105, 116, 101, 47, 49]
  · have hc : isCtl p = true := by rw [h20]; decide
    rw [hc]
    have d20 : decide (p = [119, 114, 105, 116, 101, 47, 49]) = true := decide_eq_true h20
    clear hc h20
    simp only [go_sem, Nat.reduceAdd, Nat.reduceSub, Nat.reduceMul, Nat.reduceEqDiff, Nat.reduceLeDiff, Nat.reduceBEq, reduceCtorEq, A.spec_Control, d0, d1, d2, d3, d4, d5, d6, d7, d8, d9, d10, d11, d12, d13, d14, d15, d16, d17, d18, d19, d20]
  have d20 : decide (p = [119, 114, 105, 116, 101, 47, 49]) = false := decide_eq_false h20
  by_cases h21 : p = [97, 115, 115, 101, 114, 116, 122, 47, 49]
  · have hc : isCtl p = true := by rw [h21]; decide
    rw [hc]
    have d21 : decide (p = [97, 115, 115, 101, 114, 116, 122, 47, 49]) = true := decide_eq_true h21
    clear hc h21
    simp only [go_sem, Nat.reduceAdd, Nat.reduceSub, Nat.reduceMul, Nat.reduceEqDiff, Nat.reduceLeDiff, Nat.reduceBEq, reduceCtorEq, A.spec_Control, d0, d1, d2, d3, d4, d5, d6, d7, d8, d9, d10, d11, d12, d13, d14, d15, d16, d17, d18, d19, d20, d21]
  have d21 : decide (p = [97, 115, 115, 101, 114, 116, 122, 47, 49]) = false := decide_eq_false h21
  by_cases h22 : p = [114, 101, 116, 114, 97, 99, 116, 47, 49]
  · have hc : isCtl p = true := by rw [h22]; decide
    rw [hc]
    have d22 : decide (p = [114, 101, 116, 114, 97, 99, 116, 47, 49]) = true := decide_eq_true h22
    clear hc h22
    simp only [go_sem, Nat.reduceAdd, Nat.reduceSub, Nat.reduceMul, Nat.reduceEqDiff, Nat.reduceLeDiff, Nat.reduceBEq, reduceCtorEq, A.spec_Control, d0, d1, d2, d3, d4, d5, d6, d7, d8, d9, d10, d11, d12, d13, d14, d15, d16, d17, d18, d19, d20, d21, d22]
  have d22 : decide (p = [114, 101, 116, 114, 97, 99, 116, 47, 49]) = false := decide_eq_false h22
  by_cases h23 : p = [58, 45, 47, 50]
  · have hc : isCtl p = true := by rw [h23]; decide
    rw [hc]
    have d23 : decide (p = [58, 45, 47, 50]) = true := decide_eq_true h23
    clear hc h23
    simp only [go_sem, Nat.reduceAdd, Nat.reduceSub, Nat.reduceMul, Nat.reduceEqDiff, Nat.reduceLeDiff, Nat.reduceBEq, reduceCtorEq, A.spec_Control, d0, d1, d2, d3, d4, d5, d6, d7, d8, d9, d10, d11, d12, d13, d14, d15, d16, d17, d18, d19, d20, d21, d22, d23]
  have d23 : decide (p = [58, 45, 47, 50]) = false := decide_eq_false h23
  by_cases h24 : p = [58, 45, 47, 49]
  · have hc : isCtl p = true := by rw [h24]; decide
    rw [hc]
    have d24 : decide (p = [58, 45, 47, 49]) = true := decide_eq_true h24
    clear hc h24
    simp only [go_sem, Nat.reduceAdd, Nat.reduceSub, Nat.reduceMul, Nat.reduceEqDiff, Nat.reduceLeDiff, Nat.reduceBEq, reduceCtorEq, A.spec_Control, d0, d1, d2, d3, d4, d5, d6, d7, d8, d9, d10, d11, d12, d13, d14, d15, d16, d17, d18, d19, d20, d21, d22, d23, d24]
  have d24 : decide (p = [58, 45, 47, 49]) = false := decide_eq_false h24
  by_cases h25 : p = [45, 45, 62, 47, 50]
  · have hc : isCtl p = true := by rw [h25]; decide
    rw [hc]
    have d25 : decide (p = [45, 45, 62, 47, 50]) = true := decide_eq_true h25
    clear hc h25
    simp only [go_sem, Nat.reduceAdd, Nat.reduceSub, Nat.reduceMul, Nat.reduceEqDiff, Nat.reduceLeDiff, Nat.reduceBEq, reduceCtorEq, A.spec_Control, d0, d1, d2, d3, d4, d5, d6, d7, d8, d9, d10, d11, d12, d13, d14, d15, d16, d17, d18, d19, d20, d21, d22, d23, d24, d25]
  have d25 : decide (p = [45, 45, 62, 47, 50]) = false := decide_eq_false h25
  have hc : isCtl p = false := decide_eq_false (by simp only [ctls, List.mem_cons, List.not_mem_nil, or_false, h0, h1, h2, h3, h4, h5, h6, h7, h8, h9, h10, h11, h12, h13, h14, h15, h16, h17, h18, h19, h20, h21, h22, h23, h24, h25, or_self, not_false_eq_true])
  rw [hc]
  simp only [go_sem, Nat.reduceAdd, Nat.reduceSub, Nat.reduceMul, Nat.reduceEqDiff, Nat.reduceLeDiff, Nat.reduceBEq, reduceCtorEq, A.spec_Control, d0, d1, d2, d3, d4, d5, d6, d7, d8, d9, d10, d11, d12, d13, d14, d15, d16, d17, d18, d19, d20, d21, d22, d23, d24, d25]
/-! ### the name and the number of a term -/
theorem decDigits_len : ∀ (k m : Nat), m < 10^(k+1) → (decDigits m).length ≤ k + 1 := by
  intro k
  induction k with
  | zero => intro m hm; rw [decDigits, dif_pos (by omega)]; simp
  | succ k ih =>
    intro m hm
    rw [decDigits]
    split
    · simp
    · rw [List.length_append]
      have := ih (m / 10) (by rw [Nat.pow_succ] at hm; omega)
      simp only [List.length_cons, List.length_nil]; omega
theorem itoa_len (n : Int) (h0 : -9223372036854775808 ≤ n) (h1 : n ≤ 9223372036854775807) : (itoa n).length ≤ 20 := by
  unfold itoa
  have := decDigits_len 18 n.natAbs (by omega)
  split
  · simp only [List.length_cons]; omega
  · rw [show n.toNat = n.natAbs by omega]; omega
def predOf (t : Tm) : Str := if t.kind = 2 ∨ t.kind = 4 then t.name ++ [47] ++ itoa t.kids.length else []
theorem spec_PredOf_ok (t : Tm) (hw : WT t) (v : V) (hb : BT t v) : cr progA F.spec_PredOf [v] = some (S (predOf t)) := by
  obtain ⟨τ, vs, rfl, hv⟩ := BT_shape hb
  have hl := RL_length hv
  have hlen := WT_len hw
  have hnm := WT_name hw
  unfold Lm at hlen hnm
  have hd := spec_Decimal_ok t.kids.length (by omega) (by omega)
  have e7 : binV .add (S t.name) (S [47]) = _ := binS_add (by simp only [List.length_cons, List.length_nil]; omega)
  have e8 : binV .add (S (t.name ++ [47])) (S (itoa t.kids.length)) = _ := binS_add (by have := itoa_len t.kids.length (by omega) (by omega); simp only [List.length_append, List.length_cons, List.length_nil]; omega)
  rw [cr_fn pA_spec_PredOf rfl]
  unfold predOf
  by_cases k2 : t.kind = 2
  · have d2 : decide (t.kind = 2) = true := decide_eq_true k2
    rw [if_pos (.inl k2)]
    simp only [go_sem, Nat.reduceAdd, Nat.reduceSub, Nat.reduceMul, Nat.reduceEqDiff, Nat.reduceLeDiff, Nat.reduceBEq, reduceCtorEq, A.spec_PredOf, d2, hl, hd, e7, e8]
  have d2 : decide (t.kind = 2) = false := decide_eq_false k2
  by_cases k4 : t.kind = 4
  · have d4 : decide (t.kind = 4) = true := decide_eq_true k4
    rw [if_pos (.inr k4)]
    simp only [go_sem, Nat.reduceAdd, Nat.reduceSub, Nat.reduceMul, Nat.reduceEqDiff, Nat.reduceLeDiff, Nat.reduceBEq, reduceCtorEq, A.spec_PredOf, d2, d4, hl, hd, e7, e8]
  have d4 : decide (t.kind = 4) = false := decide_eq_false k4
  rw [if_neg (by rintro (h | h) <;> contradiction)]
  simp only [go_sem, Nat.reduceAdd, Nat.reduceSub, Nat.reduceMul, Nat.reduceEqDiff, Nat.reduceLeDiff, Nat.reduceBEq, reduceCtorEq, A.spec_PredOf, d2, d4]
theorem impl_PredOf_ok (t : Tm) (hw : WT t) (v : V) (hb : BT t v) : cr progA F.impl_PredOf [v] = some (S (predOf t)) := by
  obtain ⟨τ, vs, rfl, hv⟩ := BT_shape hb
  have hl := RL_length hv
  have hlen := WT_len hw
  have hnm := WT_name hw
  unfold Lm at hlen hnm
  have hd := impl_Decimal_ok t.kids.length (by omega) (by omega)
  have e7 : binV .add (S t.name) (S [47]) = _ := binS_add (by simp only [List.length_cons, List.length_nil]; omega)
  have e8 : binV .add (S (t.name ++ [47])) (S (itoa t.kids.length)) = _ := binS_add (by have := itoa_len t.kids.length (by omega) (by omega); simp only [List.length_append, List.length_cons, List.length_nil]; omega)
  rw [cr_fn pA_impl_PredOf rfl]
  unfold predOf
  by_cases k2 : t.kind = 2
  · have d2 : decide (t.kind = 2) = true := decide_eq_true k2
    rw [if_pos (.inl k2)]
    simp only [go_sem, Nat.reduceAdd, Nat.reduceSub, Nat.reduceMul, Nat.reduceEqDiff, Nat.reduceLeDiff, Nat.reduceBEq, reduceCtorEq, A.impl_PredOf, d2, hl, hd, e7, e8]
  have d2 : decide (t.kind = 2) = false := decide_eq_false k2
  by_cases k4 : t.kind = 4
  · have d4 : decide (t.kind = 4) = true := decide_eq_true k4
    rw [if_pos (.inr k4)]
    simp only [go_sem, Nat.reduceAdd, Nat.reduceSub, Nat.reduceMul, Nat.reduceEqDiff, Nat.reduceLeDiff, Nat.reduceBEq, reduceCtorEq, A.impl_PredOf, d2, d4, hl, hd, e7, e8]
  have d4 : decide (t.kind = 4) = false := decide_eq_false k4
  rw [if_neg (by rintro (h | h) <;> contradiction)]
  simp only [go_sem, Nat.reduceAdd, Nat.reduceSub, Nat.reduceMul, Nat.reduceEqDiff, Nat.reduceLeDiff, Nat.reduceBEq, reduceCtorEq, A.impl_PredOf, d2, d4]
end Go.Vm

set_option autoImplicit false
set_option maxHeartbeats 4000000
set_option maxRecDepth 100000
set_option linter.unusedSimpArgs false
set_option linter.unusedVariables false
namespace Go.Vm
open Go.Lib (itoa decDigits indexByte)
/-! ### the bytes of signs -/
def syms : Str := [43, 45, 42, 47, 92, 94, 60, 62, 61, 126, 58, 46, 63, 64, 35, 38, 36]
def symB (c : UInt8) : Bool := decide (c ∈ syms)
theorem byte_eq {c d : UInt8} : ((c.toNat : Int) = d.toNat) = (c = d) := by
  apply propext
  constructor
  · intro h
    have : c.toNat = d.toNat := by omega
    exact UInt8.toNat_inj.1 this
  · rintro rfl; rfl
theorem SymbolByte_loop (c : UInt8) :
    lw progA L.spec_SymbolByte_0 ⟨[(0, U8 c.toNat), (3, S syms), (4, I (0 : Nat))], []⟩ = if c ∈ syms then some (.ret, ⟨[(2, B true)], []⟩) else some (.exit 0, ⟨[], []⟩) := by
  refine for_ind syms (fun i r => lw progA L.spec_SymbolByte_0 ⟨[(0, U8 c.toNat), (3, S syms), (4, I i)], []⟩ = if c ∈ r then some (.ret, ⟨[(2, B true)], []⟩) else some (.exit 0, ⟨[], []⟩)) (by decide) ?_ ?_
  · rw [lw_eq]
    simp only [go_sem, Nat.reduceAdd, Nat.reduceSub, Nat.reduceMul, Nat.reduceEqDiff, Nat.reduceLeDiff, Nat.reduceBEq, reduceCtorEq, LB.spec_SymbolByte_0, List.not_mem_nil]
  · intro i t r ht hi hlt e1 hir hm hr ih
    have ix := ix_S (l := syms) (i := (i : Int)) (c := t) (by omega) (by simpa using ht)
    rw [lw_eq]
    by_cases he : t = c
    · have d : decide ((t.toNat : Int) = c.toNat) = true := decide_eq_true (by rw [he])
      rw [if_pos (by rw [he]; exact List.mem_cons_self)]
      simp only [go_sem, Nat.reduceAdd, Nat.reduceSub, Nat.reduceMul, Nat.reduceEqDiff, Nat.reduceLeDiff, Nat.reduceBEq, reduceCtorEq, LB.spec_SymbolByte_0, hlt, ix, e1, d]
    · have d : decide ((t.toNat : Int) = c.toNat) = false := decide_eq_false (by rw [byte_eq]; exact he)
      have hmm : (c ∈ t :: r) = (c ∈ r) := by
        have : ¬ c = t := fun h => he h.symm
        simp only [List.mem_cons, this, false_or]
      simp only [hmm]
      simp only [go_sem, Nat.reduceAdd, Nat.reduceSub, Nat.reduceMul, Nat.reduceEqDiff, Nat.reduceLeDiff, Nat.reduceBEq, reduceCtorEq, LB.spec_SymbolByte_0, hlt, ix, e1, d]
      exact ih
theorem spec_SymbolByte_ok (c : UInt8) : cr progA F.spec_SymbolByte [U8 c.toNat] = some (B (symB c)) := by
  rw [cr_fn pA_spec_SymbolByte rfl]
  have h := SymbolByte_loop c
  simp only [Int.natCast_zero] at h
  unfold symB
  by_cases hm : c ∈ syms
  · rw [if_pos hm] at h
    rw [decide_eq_true hm]
    unfold syms at h
    simp only [go_sem, Nat.reduceAdd, Nat.reduceSub, Nat.reduceMul, Nat.reduceEqDiff, Nat.reduceLeDiff, Nat.reduceBEq, reduceCtorEq, A.spec_SymbolByte, h]
  · rw [if_neg hm] at h
    rw [decide_eq_false hm]
    unfold syms at h
    simp only [go_sem, Nat.reduceAdd, Nat.reduceSub, Nat.reduceMul, Nat.reduceEqDiff, Nat.reduceLeDiff, Nat.reduceBEq, reduceCtorEq, A.spec_SymbolByte, h]
theorem ixb_mem (l : Str) (c : UInt8) : 0 ≤ indexByte l c ↔ c ∈ l := by
  induction l with
  | nil => simp [indexByte]
  | cons b l ih =>
    unfold indexByte
    by_cases h : b = c
    · simp [h]
    · have h1 : (b == c) = false := by simpa using h
      have h2 : ¬ c = b := fun e => h e.symm
      have := Go.Lib.indexByte_ge l c
      rw [h1]
      simp only [Bool.false_eq_true, if_false, List.mem_cons, h2, false_or]
      by_cases h3 : indexByte l c = -1
      · have h4 : ¬ c ∈ l := fun hm => by have := ih.2 hm; omega
        simp only [h3, beq_self_eq_true, if_true, h4, iff_false]; omega
      · have h5 : (indexByte l c == -1) = false := by simpa using h3
        rw [h5]
        simp only [Bool.false_eq_true, if_false]
        rw [← ih]
        omega
theorem cr_ixb8 (l : Str) (c : UInt8) : cr progA F.strings_IndexByte [S l, U8 c.toNat] = some (I (indexByte l c)) := by
  have h := cr_ixb pA_strings_IndexByte l c.toNat
  have : (c.toNat : Int).toNat.toUInt8 = c := by simp
  rw [this] at h
  exact h
theorem impl_SymbolByte_ok (c : UInt8) : cr progA F.impl_SymbolByte [U8 c.toNat] = some (B (symB c)) := by
  rw [cr_fn pA_impl_SymbolByte rfl]
  have h := cr_ixb8 syms c
  have hd : decide (0 ≤ indexByte syms c) = symB c := decide_eq_decide.2 (ixb_mem syms c)
  unfold syms at h hd
  simp only [go_sem, Nat.reduceAdd, Nat.reduceSub, Nat.reduceMul, Nat.reduceEqDiff, Nat.reduceLeDiff, Nat.reduceBEq, reduceCtorEq, A.impl_SymbolByte, h, hd]
end Go.Vm

set_option autoImplicit false
set_option maxHeartbeats 4000000
set_option maxRecDepth 100000
set_option linter.unusedSimpArgs false
set_option linter.unusedVariables false
namespace Go.Vm
/-! ### kinds of bytes (printed by p26.py) -/
def inB (lo hi : Int) (c : UInt8) : Bool := decide (lo ≤ (c.toNat : Int)) && decide ((c.toNat : Int) ≤ hi)
def isB (n : Int) (c : UInt8) : Bool := decide ((c.toNat : Int) = n)
def greatB (c : UInt8) : Bool := inB 65 90 c || isB 95 c
def wordB (c : UInt8) : Bool := inB 97 122 c || greatB c || inB 48 57 c
def blankB (c : UInt8) : Bool := isB 32 c || isB 9 c || isB 10 c
theorem l05Small_ok (c : UInt8) : cr progA F.spec_l05Small [U8 c.toNat] = some (B (inB 97 122 c)) := by
  rw [cr_fn pA_spec_l05Small rfl]
  unfold inB
  by_cases h1 : (97 : Int) ≤ (c.toNat : Int)
  · rw [decide_eq_true h1, Bool.true_and]
    by_cases h2 : (c.toNat : Int) ≤ 122
    · rw [decide_eq_true h2]; simp only [go_sem, Nat.reduceAdd, Nat.reduceSub, Nat.reduceMul, Nat.reduceEqDiff, Nat.reduceLeDiff, Nat.reduceBEq, reduceCtorEq, A.spec_l05Small, h1, h2]
    · rw [decide_eq_false h2]; simp only [go_sem, Nat.reduceAdd, Nat.reduceSub, Nat.reduceMul, Nat.reduceEqDiff, Nat.reduceLeDiff, Nat.reduceBEq, reduceCtorEq, A.spec_l05Small, h1, h2]
  · rw [decide_eq_false h1, Bool.false_and]; simp only [go_sem, Nat.reduceAdd, Nat.reduceSub, Nat.reduceMul, Nat.reduceEqDiff, Nat.reduceLeDiff, Nat.reduceBEq, reduceCtorEq, A.spec_l05Small, h1]
theorem impl_lower_ok (c : UInt8) : cr progA F.impl_lower [U8 c.toNat] = some (B (inB 97 122 c)) := by
  rw [cr_fn pA_impl_lower rfl]
  unfold inB
  by_cases h1 : (97 : Int) ≤ (c.toNat : Int)
  · rw [decide_eq_true h1, Bool.true_and]
    by_cases h2 : (c.toNat : Int) ≤ 122
    · rw [decide_eq_true h2]; simp only [go_sem, Nat.reduceAdd, Nat.reduceSub, Nat.reduceMul, Nat.reduceEqDiff, Nat.reduceLeDiff, Nat.reduceBEq, reduceCtorEq, A.impl_lower, h1, h2]
    · rw [decide_eq_false h2]; simp only [go_sem, Nat.reduceAdd, Nat.reduceSub, Nat.reduceMul, Nat.reduceEqDiff, Nat.reduceLeDiff, Nat.reduceBEq, reduceCtorEq, A.impl_lower, h1, h2]
  · rw [decide_eq_false h1, Bool.false_and]; simp only [go_sem, Nat.reduceAdd, Nat.reduceSub, Nat.reduceMul, Nat.reduceEqDiff, Nat.reduceLeDiff, Nat.reduceBEq, reduceCtorEq, A.impl_lower, h1]
theorem impl_upper_ok (c : UInt8) : cr progA F.impl_upper [U8 c.toNat] = some (B (inB 65 90 c)) := by
  rw [cr_fn pA_impl_upper rfl]
  unfold inB
  by_cases h1 : (65 : Int) ≤ (c.toNat : Int)
  · rw [decide_eq_true h1, Bool.true_and]
    by_cases h2 : (c.toNat : Int) ≤ 90
    · rw [decide_eq_true h2]; simp only [go_sem, Nat.reduceAdd, Nat.reduceSub, Nat.reduceMul, Nat.reduceEqDiff, Nat.reduceLeDiff, Nat.reduceBEq, reduceCtorEq, A.impl_upper, h1, h2]
    · rw [decide_eq_false h2]; simp only [go_sem, Nat.reduceAdd, Nat.reduceSub, Nat.reduceMul, Nat.reduceEqDiff, Nat.reduceLeDiff, Nat.reduceBEq, reduceCtorEq, A.impl_upper, h1, h2]
  · rw [decide_eq_false h1, Bool.false_and]; simp only [go_sem, Nat.reduceAdd, Nat.reduceSub, Nat.reduceMul, Nat.reduceEqDiff, Nat.reduceLeDiff, Nat.reduceBEq, reduceCtorEq, A.impl_upper, h1]
theorem l05Figure_ok (c : UInt8) : cr progA F.spec_l05Figure [U8 c.toNat] = some (B (inB 48 57 c)) := by
  rw [cr_fn pA_spec_l05Figure rfl]
  unfold inB
  by_cases h1 : (48 : Int) ≤ (c.toNat : Int)
  · rw [decide_eq_true h1, Bool.true_and]
    by_cases h2 : (c.toNat : Int) ≤ 57
    · rw [decide_eq_true h2]; simp only [go_sem, Nat.reduceAdd, Nat.reduceSub, Nat.reduceMul, Nat.reduceEqDiff, Nat.reduceLeDiff, Nat.reduceBEq, reduceCtorEq, A.spec_l05Figure, h1, h2]
    · rw [decide_eq_false h2]; simp only [go_sem, Nat.reduceAdd, Nat.reduceSub, Nat.reduceMul, Nat.reduceEqDiff, Nat.reduceLeDiff, Nat.reduceBEq, reduceCtorEq, A.spec_l05Figure, h1, h2]
  · rw [decide_eq_false h1, Bool.false_and]; simp only [go_sem, Nat.reduceAdd, Nat.reduceSub, Nat.reduceMul, Nat.reduceEqDiff, Nat.reduceLeDiff, Nat.reduceBEq, reduceCtorEq, A.spec_l05Figure, h1]
theorem impl_figure_ok (c : UInt8) : cr progA F.impl_figure [U8 c.toNat] = some (B (inB 48 57 c)) := by
  rw [cr_fn pA_impl_figure rfl]
  unfold inB
  by_cases h1 : (48 : Int) ≤ (c.toNat : Int)
  · rw [decide_eq_true h1, Bool.true_and]
    by_cases h2 : (c.toNat : Int) ≤ 57
    · rw [decide_eq_true h2]; simp only [go_sem, Nat.reduceAdd, Nat.reduceSub, Nat.reduceMul, Nat.reduceEqDiff, Nat.reduceLeDiff, Nat.reduceBEq, reduceCtorEq, A.impl_figure, h1, h2]
    · rw [decide_eq_false h2]; simp only [go_sem, Nat.reduceAdd, Nat.reduceSub, Nat.reduceMul, Nat.reduceEqDiff, Nat.reduceLeDiff, Nat.reduceBEq, reduceCtorEq, A.impl_figure, h1, h2]
  · rw [decide_eq_false h1, Bool.false_and]; simp only [go_sem, Nat.reduceAdd, Nat.reduceSub, Nat.reduceMul, Nat.reduceEqDiff, Nat.reduceLeDiff, Nat.reduceBEq, reduceCtorEq, A.impl_figure, h1]
theorem l05Great_ok (c : UInt8) : cr progA F.spec_l05Great [U8 c.toNat] = some (B (greatB c)) := by
  rw [cr_fn pA_spec_l05Great rfl]
  unfold greatB inB isB
  cases h3 : decide ((c.toNat : Int) = 95) <;>
  by_cases h1 : (65 : Int) ≤ (c.toNat : Int) <;> by_cases h2 : (c.toNat : Int) ≤ 90 <;>
  simp only [decide_eq_true_eq, h1, h2, decide_true, decide_false, Bool.true_and, Bool.false_and, Bool.and_true, Bool.and_false, Bool.or_true, Bool.or_false] <;>
  simp only [go_sem, Nat.reduceAdd, Nat.reduceSub, Nat.reduceMul, Nat.reduceEqDiff, Nat.reduceLeDiff, Nat.reduceBEq, reduceCtorEq, A.spec_l05Great, h1, h2, h3]
theorem l05Blank_ok (c : UInt8) : cr progA F.spec_l05Blank [U8 c.toNat] = some (B (blankB c)) := by
  rw [cr_fn pA_spec_l05Blank rfl]
  unfold blankB isB
  cases h1 : decide ((c.toNat : Int) = 32) <;> cases h2 : decide ((c.toNat : Int) = 9) <;> cases h3 : decide ((c.toNat : Int) = 10) <;>
  simp only [Bool.or_true, Bool.or_false] <;> simp only [go_sem, Nat.reduceAdd, Nat.reduceSub, Nat.reduceMul, Nat.reduceEqDiff, Nat.reduceLeDiff, Nat.reduceBEq, reduceCtorEq, A.spec_l05Blank, h1, h2, h3]
theorem l05Word_ok (c : UInt8) : cr progA F.spec_l05Word [U8 c.toNat] = some (B (wordB c)) := by
  rw [cr_fn pA_spec_l05Word rfl]
  have e1 := l05Small_ok c
  have e2 := l05Great_ok c
  have e3 := l05Figure_ok c
  unfold wordB
  cases h1 : inB 97 122 c <;> cases h2 : greatB c <;> rw [h1] at e1 <;> rw [h2] at e2 <;>
  simp only [Bool.or_true, Bool.or_false, Bool.true_or, Bool.false_or] <;> simp only [go_sem, Nat.reduceAdd, Nat.reduceSub, Nat.reduceMul, Nat.reduceEqDiff, Nat.reduceLeDiff, Nat.reduceBEq, reduceCtorEq, A.spec_l05Word, e1, e2, e3]
theorem impl_wordByte_ok (c : UInt8) : cr progA F.impl_wordByte [U8 c.toNat] = some (B (wordB c)) := by
  rw [cr_fn pA_impl_wordByte rfl]
  have e1 := impl_lower_ok c
  have e2 := impl_upper_ok c
  have e3 := impl_figure_ok c
  unfold wordB greatB isB
  cases h1 : inB 97 122 c <;> cases h2 : inB 65 90 c <;> cases h3 : inB 48 57 c <;> cases h4 : decide ((c.toNat : Int) = 95) <;> rw [h1] at e1 <;> rw [h2] at e2 <;> rw [h3] at e3 <;>
  simp only [Bool.or_true, Bool.or_false, Bool.true_or, Bool.false_or] <;> simp only [go_sem, Nat.reduceAdd, Nat.reduceSub, Nat.reduceMul, Nat.reduceEqDiff, Nat.reduceLeDiff, Nat.reduceBEq, reduceCtorEq, A.impl_wordByte, e1, e2, e3, h4]
end Go.Vm

set_option autoImplicit false
set_option maxHeartbeats 4000000
set_option maxRecDepth 100000
set_option linter.unusedSimpArgs false
set_option linter.unusedVariables false
namespace Go.Vm
/-! ### runs of bytes -/
def pre (p : UInt8 → Bool) : Str → Nat
  | [] => 0
  | c :: r => if p c = true then pre p r + 1 else 0
theorem pre_le (p : UInt8 → Bool) : ∀ s, pre p s ≤ s.length
  | [] => Nat.le_refl _
  | c :: r => by have := pre_le p r; simp only [pre, List.length_cons]; split <;> omega
theorem l05Run_loop (s : Str) (hl : s.length ≤ 2^61) (m : Nat) : ∀ i, i + m = s.length →
    lw progA L.spec_l05Run_0 ⟨[(0, S s), (1, I i)], []⟩ = some (.exit 0, ⟨[(1, I ((i + pre wordB (s.drop i) : Nat) : Int))], []⟩) := by
  induction m with
  | zero =>
    intro i hi
    rw [List.drop_eq_nil_of_le (by omega), lw_eq]
    have h : ¬ (i : Int) < s.length := by omega
    simp only [go_sem, Nat.reduceAdd, Nat.reduceSub, Nat.reduceMul, Nat.reduceEqDiff, Nat.reduceLeDiff, Nat.reduceBEq, reduceCtorEq, LB.spec_l05Run_0, h, pre]
  | succ m ih =>
    intro i hi
    have h : (i : Int) < s.length := by omega
    obtain ⟨c, hc⟩ := get_some' (l := s) (i := i) (by omega)
    have ix := ix_S (l := s) (i := (i : Int)) (c := c) (by omega) (by simpa using hc)
    have w := l05Word_ok c
    have e1 : w64 ((i : Int) + 1) = ((i + 1 : Nat) : Int) := by rw [w64_id] <;> omega
    rw [drop_cons' hc, lw_eq, pre]
    cases hw : wordB c with
    | true =>
      rw [hw] at w
      have i1 := ih (i + 1) (by omega)
      rw [if_pos rfl, show i + (pre wordB (s.drop (i + 1)) + 1) = i + 1 + pre wordB (s.drop (i + 1)) by omega]
      simp only [go_sem, Nat.reduceAdd, Nat.reduceSub, Nat.reduceMul, Nat.reduceEqDiff, Nat.reduceLeDiff, Nat.reduceBEq, reduceCtorEq, LB.spec_l05Run_0, h, ix, w, e1]
      exact i1
    | false =>
      rw [hw] at w
      rw [if_neg (by decide)]
      simp only [go_sem, Nat.reduceAdd, Nat.reduceSub, Nat.reduceMul, Nat.reduceEqDiff, Nat.reduceLeDiff, Nat.reduceBEq, reduceCtorEq, LB.spec_l05Run_0, h, ix, w, e1]
theorem l05Run_ok (s : Str) (hl : s.length ≤ 2^61) (i : Nat) (hi : i ≤ s.length) : cr progA F.spec_l05Run [S s, I i] = some (I ((i + pre wordB (s.drop i) : Nat) : Int)) := by
  rw [cr_fn pA_spec_l05Run rfl]
  have h := l05Run_loop s hl (s.length - i) i (by omega)
  simp only [go_sem, Nat.reduceAdd, Nat.reduceSub, Nat.reduceMul, Nat.reduceEqDiff, Nat.reduceLeDiff, Nat.reduceBEq, reduceCtorEq, A.spec_l05Run, h]
theorem run_loop (p : UInt8 → Bool) (g : Nat) (hg : ∀ c, cr progA g [U8 c.toNat] = some (B (p c))) (s : Str) (hl : s.length ≤ 2^61) (m : Nat) : ∀ i, i + m = s.length →
    lw progA L.impl_run_0 ⟨[(0, S s), (1, I i), (2, Fc g)], []⟩ = some (.exit 0, ⟨[(1, I ((i + pre p (s.drop i) : Nat) : Int))], []⟩) := by
  induction m with
  | zero =>
    intro i hi
    rw [List.drop_eq_nil_of_le (by omega), lw_eq]
    have h : ¬ (i : Int) < s.length := by omega
    simp only [go_sem, Nat.reduceAdd, Nat.reduceSub, Nat.reduceMul, Nat.reduceEqDiff, Nat.reduceLeDiff, Nat.reduceBEq, reduceCtorEq, LB.impl_run_0, h, pre]
  | succ m ih =>
    intro i hi
    have h : (i : Int) < s.length := by omega
    obtain ⟨c, hc⟩ := get_some' (l := s) (i := i) (by omega)
    have ix := ix_S (l := s) (i := (i : Int)) (c := c) (by omega) (by simpa using hc)
    have w := hg c
    have e1 : w64 ((i : Int) + 1) = ((i + 1 : Nat) : Int) := by rw [w64_id] <;> omega
    rw [drop_cons' hc, lw_eq, pre]
    cases hw : p c with
    | true =>
      rw [hw] at w
      have i1 := ih (i + 1) (by omega)
      rw [if_pos rfl, show i + (pre p (s.drop (i + 1)) + 1) = i + 1 + pre p (s.drop (i + 1)) by omega]
      simp only [go_sem, Nat.reduceAdd, Nat.reduceSub, Nat.reduceMul, Nat.reduceEqDiff, Nat.reduceLeDiff, Nat.reduceBEq, reduceCtorEq, LB.impl_run_0, h, ix, w, e1]
      exact i1
    | false =>
      rw [hw] at w
      rw [if_neg (by decide)]
      simp only [go_sem, Nat.reduceAdd, Nat.reduceSub, Nat.reduceMul, Nat.reduceEqDiff, Nat.reduceLeDiff, Nat.reduceBEq, reduceCtorEq, LB.impl_run_0, h, ix, w, e1]
theorem run_ok (p : UInt8 → Bool) (g : Nat) (hg : ∀ c, cr progA g [U8 c.toNat] = some (B (p c))) (s : Str) (hl : s.length ≤ 2^61) (i : Nat) (hi : i ≤ s.length) : cr progA F.impl_run [S s, I i, Fc g] = some (I ((i + pre p (s.drop i) : Nat) : Int)) := by
  rw [cr_fn pA_impl_run rfl]
  have h := run_loop p g hg s hl (s.length - i) i (by omega)
  simp only [go_sem, Nat.reduceAdd, Nat.reduceSub, Nat.reduceMul, Nat.reduceEqDiff, Nat.reduceLeDiff, Nat.reduceBEq, reduceCtorEq, A.impl_run, h]
end Go.Vm

set_option autoImplicit false
set_option maxHeartbeats 4000000
set_option maxRecDepth 100000
set_option linter.unusedSimpArgs false
set_option linter.unusedVariables false
namespace Go.Vm
open Go.Lib (indexByte)
/-! ### a point that ends -/
def prevOk (s : Str) (i : Nat) : Bool := match i with
  | 0 => true
  | j + 1 => !symB (s.getD j 0)
def nextOk : Option UInt8 → Bool
  | none => true
  | some d => blankB d || isB 37 d
def endB (s : Str) (i : Nat) (c : UInt8) : Bool := isB 46 c && (prevOk s i && nextOk s[i + 1]?)
theorem blank37 (d : UInt8) : decide (0 ≤ indexByte [32, 9, 10, 37] d) = (blankB d || isB 37 d) := by
  have h := ixb_mem [32, 9, 10, 37] d
  have e1 := byte_eq (c := d) (d := 32)
  have e2 := byte_eq (c := d) (d := 9)
  have e3 := byte_eq (c := d) (d := 10)
  have e4 := byte_eq (c := d) (d := 37)
  have f1 : ((32 : UInt8).toNat : Int) = 32 := rfl
  have f2 : ((9 : UInt8).toNat : Int) = 9 := rfl
  have f3 : ((10 : UInt8).toNat : Int) = 10 := rfl
  have f4 : ((37 : UInt8).toNat : Int) = 37 := rfl
  rw [f1] at e1; rw [f2] at e2; rw [f3] at e3; rw [f4] at e4
  unfold blankB isB
  rw [Bool.eq_iff_iff]
  simp only [decide_eq_true_eq, h, Bool.or_eq_true, e1, e2, e3, e4, List.mem_cons, List.not_mem_nil, or_false, or_assoc]
theorem l05End_ok (s : Str) (hl : s.length ≤ 2^61) (i : Nat) (c : UInt8) (hc : s[i]? = some c) : cr progA F.spec_l05End [S s, I i] = some (B (endB s i c)) := by
  have hi : i < s.length := (List.getElem?_eq_some_iff.1 hc).1
  have ix := ix_S (l := s) (i := (i : Int)) (c := c) (by omega) (by simpa using hc)
  have e1 : w64 ((i : Int) + 1) = ((i + 1 : Nat) : Int) := by rw [w64_id] <;> omega
  rw [cr_fn pA_spec_l05End rfl]
  unfold endB
  cases h46 : isB 46 c with
  | false =>
    unfold isB at h46
    simp only [go_sem, Nat.reduceAdd, Nat.reduceSub, Nat.reduceMul, Nat.reduceEqDiff, Nat.reduceLeDiff, Nat.reduceBEq, reduceCtorEq, A.spec_l05End, ix, h46, Bool.false_and]
  | true =>
  unfold isB at h46
  have hnext : ∀ (b : Bool), True := fun _ => trivial
  cases i with
  | zero =>
    rw [prevOk, Bool.true_and, Bool.true_and]
    have z : w64 ((0 : Int) + 1) = 1 := rfl
    by_cases hn : s.length = 1
    · have d : decide ((1 : Int) = s.length) = true := decide_eq_true (by omega)
      have : s[0 + 1]? = none := List.getElem?_eq_none (by omega)
      rw [this, nextOk]
      simp only [Int.natCast_zero] at ix
      simp only [go_sem, Nat.reduceAdd, Nat.reduceSub, Nat.reduceMul, Nat.reduceEqDiff, Nat.reduceLeDiff, Nat.reduceBEq, reduceCtorEq, A.spec_l05End, ix, h46, z, d]
    · have d : decide ((1 : Int) = s.length) = false := decide_eq_false (by omega)
      obtain ⟨n, hnx⟩ := get_some' (l := s) (i := 0 + 1) (by omega)
      have ix2 := ix_S (l := s) (i := (1 : Int)) (c := n) (by omega) (by simpa using hnx)
      have bl := l05Blank_ok n
      rw [hnx, nextOk]
      simp only [Int.natCast_zero] at ix
      unfold isB
      cases hb : blankB n with
      | true => rw [hb] at bl; simp only [go_sem, Nat.reduceAdd, Nat.reduceSub, Nat.reduceMul, Nat.reduceEqDiff, Nat.reduceLeDiff, Nat.reduceBEq, reduceCtorEq, A.spec_l05End, ix, h46, z, d, ix2, bl, Bool.true_or]
      | false => rw [hb] at bl; simp only [go_sem, Nat.reduceAdd, Nat.reduceSub, Nat.reduceMul, Nat.reduceEqDiff, Nat.reduceLeDiff, Nat.reduceBEq, reduceCtorEq, A.spec_l05End, ix, h46, z, d, ix2, bl, Bool.false_or]
  | succ j =>
    obtain ⟨q, hq⟩ := get_some' (l := s) (i := j) (by omega)
    have ix0 := ix_S (l := s) (i := (j : Int)) (c := q) (by omega) (by simpa using hq)
    have e0 : w64 (((j + 1 : Nat) : Int) - 1) = (j : Int) := by rw [w64_id] <;> omega
    have dz : decide (((j + 1 : Nat) : Int) = 0) = false := decide_eq_false (by omega)
    have sy := spec_SymbolByte_ok q
    have hg : s.getD j 0 = q := by rw [List.getD_eq_getElem?_getD, hq]; rfl
    rw [prevOk, hg]
    cases hs : symB q with
    | true => rw [hs] at sy; simp only [go_sem, Nat.reduceAdd, Nat.reduceSub, Nat.reduceMul, Nat.reduceEqDiff, Nat.reduceLeDiff, Nat.reduceBEq, reduceCtorEq, A.spec_l05End, ix, h46, dz, e0, ix0, sy, Bool.not_true, Bool.false_and, Bool.true_and]
    | false =>
    rw [hs] at sy
    rw [Bool.not_false, Bool.true_and, Bool.true_and]
    by_cases hn : s.length = j + 1 + 1
    · have d : decide (((j + 1 + 1 : Nat) : Int) = s.length) = true := decide_eq_true (by omega)
      have : s[j + 1 + 1]? = none := List.getElem?_eq_none (by omega)
      rw [this, nextOk]
      simp only [go_sem, Nat.reduceAdd, Nat.reduceSub, Nat.reduceMul, Nat.reduceEqDiff, Nat.reduceLeDiff, Nat.reduceBEq, reduceCtorEq, A.spec_l05End, ix, h46, dz, e0, ix0, sy, e1, d]
    · have d : decide (((j + 1 + 1 : Nat) : Int) = s.length) = false := decide_eq_false (by omega)
      obtain ⟨n, hnx⟩ := get_some' (l := s) (i := j + 1 + 1) (by omega)
      have ix2 := ix_S (l := s) (i := ((j + 1 + 1 : Nat) : Int)) (c := n) (by omega) (by rw [Int.toNat_natCast]; exact hnx)
      have bl := l05Blank_ok n
      rw [hnx, nextOk]
      unfold isB
      cases hb : blankB n with
      | true => rw [hb] at bl; simp only [go_sem, Nat.reduceAdd, Nat.reduceSub, Nat.reduceMul, Nat.reduceEqDiff, Nat.reduceLeDiff, Nat.reduceBEq, reduceCtorEq, A.spec_l05End, ix, h46, dz, e0, ix0, sy, e1, d, ix2, bl, Bool.true_or]
      | false => rw [hb] at bl; simp only [go_sem, Nat.reduceAdd, Nat.reduceSub, Nat.reduceMul, Nat.reduceEqDiff, Nat.reduceLeDiff, Nat.reduceBEq, reduceCtorEq, A.spec_l05End, ix, h46, dz, e0, ix0, sy, e1, d, ix2, bl, Bool.false_or]
end Go.Vm

set_option autoImplicit false
set_option maxHeartbeats 4000000
set_option maxRecDepth 100000
set_option linter.unusedSimpArgs false
set_option linter.unusedVariables false
namespace Go.Vm
open Go.Lib (indexByte)
theorem endsHere_ok (s : Str) (hl : s.length ≤ 2^61) (i : Nat) (c : UInt8) (hc : s[i]? = some c) : cr progA F.impl_endsHere [S s, I i] = some (B (endB s i c)) := by
  have hi : i < s.length := (List.getElem?_eq_some_iff.1 hc).1
  have ix := ix_S (l := s) (i := (i : Int)) (c := c) (by omega) (by simpa using hc)
  have e1 : w64 ((i : Int) + 1) = ((i + 1 : Nat) : Int) := by rw [w64_id] <;> omega
  rw [cr_fn pA_impl_endsHere rfl]
  unfold endB
  cases h46 : isB 46 c with
  | false =>
    unfold isB at h46
    simp only [go_sem, Nat.reduceAdd, Nat.reduceSub, Nat.reduceMul, Nat.reduceEqDiff, Nat.reduceLeDiff, Nat.reduceBEq, reduceCtorEq, A.impl_endsHere, ix, h46, Bool.false_and]
  | true =>
  unfold isB at h46
  have hnext : ∀ (b : Bool), True := fun _ => trivial
  cases i with
  | zero =>
    rw [prevOk, Bool.true_and, Bool.true_and]
    have z : w64 ((0 : Int) + 1) = 1 := rfl
    by_cases hn : s.length = 1
    · have d : decide ((1 : Int) = s.length) = true := decide_eq_true (by omega)
      have : s[0 + 1]? = none := List.getElem?_eq_none (by omega)
      rw [this, nextOk]
      simp only [Int.natCast_zero] at ix
      simp only [go_sem, Nat.reduceAdd, Nat.reduceSub, Nat.reduceMul, Nat.reduceEqDiff, Nat.reduceLeDiff, Nat.reduceBEq, reduceCtorEq, A.impl_endsHere, ix, h46, z, d]
    · have d : decide ((1 : Int) = s.length) = false := decide_eq_false (by omega)
      obtain ⟨n, hnx⟩ := get_some' (l := s) (i := 0 + 1) (by omega)
      have ix2 := ix_S (l := s) (i := (1 : Int)) (c := n) (by omega) (by simpa using hnx)
      have bl := cr_ixb8 [32, 9, 10, 37] n
      have bd := blank37 n
      rw [hnx, nextOk]
      simp only [Int.natCast_zero] at ix
      rw [← bd]
      simp only [go_sem, Nat.reduceAdd, Nat.reduceSub, Nat.reduceMul, Nat.reduceEqDiff, Nat.reduceLeDiff, Nat.reduceBEq, reduceCtorEq, A.impl_endsHere, ix, h46, z, d, ix2, bl]
  | succ j =>
    obtain ⟨q, hq⟩ := get_some' (l := s) (i := j) (by omega)
    have ix0 := ix_S (l := s) (i := (j : Int)) (c := q) (by omega) (by simpa using hq)
    have e0 : w64 (((j + 1 : Nat) : Int) - 1) = (j : Int) := by rw [w64_id] <;> omega
    have dz : (0 : Int) < ((j + 1 : Nat) : Int) := by omega
    have sy := impl_SymbolByte_ok q
    have hg : s.getD j 0 = q := by rw [List.getD_eq_getElem?_getD, hq]; rfl
    rw [prevOk, hg]
    cases hs : symB q with
    | true => rw [hs] at sy; simp only [go_sem, Nat.reduceAdd, Nat.reduceSub, Nat.reduceMul, Nat.reduceEqDiff, Nat.reduceLeDiff, Nat.reduceBEq, reduceCtorEq, A.impl_endsHere, ix, h46, dz, e0, ix0, sy, Bool.not_true, Bool.false_and, Bool.true_and]
    | false =>
    rw [hs] at sy
    rw [Bool.not_false, Bool.true_and, Bool.true_and]
    by_cases hn : s.length = j + 1 + 1
    · have d : decide (((j + 1 + 1 : Nat) : Int) = s.length) = true := decide_eq_true (by omega)
      have : s[j + 1 + 1]? = none := List.getElem?_eq_none (by omega)
      rw [this, nextOk]
      simp only [go_sem, Nat.reduceAdd, Nat.reduceSub, Nat.reduceMul, Nat.reduceEqDiff, Nat.reduceLeDiff, Nat.reduceBEq, reduceCtorEq, A.impl_endsHere, ix, h46, dz, e0, ix0, sy, e1, d]
    · have d : decide (((j + 1 + 1 : Nat) : Int) = s.length) = false := decide_eq_false (by omega)
      obtain ⟨n, hnx⟩ := get_some' (l := s) (i := j + 1 + 1) (by omega)
      have ix2 := ix_S (l := s) (i := ((j + 1 + 1 : Nat) : Int)) (c := n) (by omega) (by rw [Int.toNat_natCast]; exact hnx)
      have bl := cr_ixb8 [32, 9, 10, 37] n
      have bd := blank37 n
      rw [hnx, nextOk]
      rw [← bd]
      simp only [go_sem, Nat.reduceAdd, Nat.reduceSub, Nat.reduceMul, Nat.reduceEqDiff, Nat.reduceLeDiff, Nat.reduceBEq, reduceCtorEq, A.impl_endsHere, ix, h46, dz, e0, ix0, sy, e1, d, ix2, bl]
end Go.Vm

set_option autoImplicit false
set_option maxHeartbeats 4000000
set_option maxRecDepth 100000
set_option linter.unusedSimpArgs false
set_option linter.unusedVariables false
namespace Go.Vm
/-! ### signs: what they are -/
structure Sg where
  kind : Int
  text : Str
  num : Int
  at_ : Int
  near : Bool
def Sg.v (x : Sg) : V := .a [I x.kind, S x.text, I x.num, I x.at_, B x.near]
def subs (s : Str) (i j : Nat) : Str := (s.take j).drop i
def bad (s : Str) (i : Nat) : Sg × Nat := (⟨6, subs s i (i + 1), 0, i, false⟩, i + 1)
def nf : Str → Int → Int
  | [], a => a
  | d :: r, a => if (inB 48 57 d && decide (a ≤ 999999999)) = true then nf r (10 * a + d.toNat - 48) else a
def nk : Str → Int → Nat
  | [], a => 0
  | d :: r, a => if (inB 48 57 d && decide (a ≤ 999999999)) = true then nk r (10 * a + d.toNat - 48) + 1 else 0
theorem nk_pre : ∀ (s : Str) (a : Int), 0 ≤ a → nf s a ≤ 999999999 → nk s a = pre (inB 48 57) s
  | [], a, _, _ => rfl
  | d :: r, a, h0, h => by
    simp only [nf, nk, pre] at h ⊢
    by_cases ha : a ≤ 999999999
    · rw [decide_eq_true ha, Bool.and_true] at h ⊢
      by_cases hd : inB 48 57 d = true
      · rw [if_pos hd] at h ⊢
        rw [if_pos hd]
        have h1 : (48 : Int) ≤ d.toNat := by unfold inB at hd; simp only [Bool.and_eq_true, decide_eq_true_eq] at hd; exact hd.1
        rw [nk_pre r _ (by omega) h]
      · rw [if_neg hd, if_neg hd]
    · exfalso
      rw [decide_eq_false ha, Bool.and_false] at h
      simp only [Bool.false_eq_true, if_false] at h
      omega
theorem nf_bd : ∀ (s : Str) (a : Int), 0 ≤ a → a ≤ 9999999999 → 0 ≤ nf s a ∧ nf s a ≤ 9999999999
  | [], a, h0, h1 => ⟨h0, h1⟩
  | d :: r, a, h0, h1 => by
    simp only [nf]
    split
    · rename_i h
      simp only [inB, Bool.and_eq_true, decide_eq_true_eq] at h
      exact nf_bd r _ (by omega) (by omega)
    · exact ⟨h0, h1⟩
def qlen : Str → Option Nat
  | [] => none
  | c :: r => if isB 39 c = true then some 0 else (qlen r).map (· + 1)
def quoted (r : Str) : Option Nat := match qlen r with
  | some m => if nameOk (r.take m) = true then some m else none
  | none => none
def sgn (s : Str) (i : Nat) (c : UInt8) : Sg × Nat :=
  if (inB 97 122 c || greatB c) = true then
    if pre wordB (s.drop i) ≤ 20 then (⟨if greatB c = true then 2 else 1, subs s i (i + pre wordB (s.drop i)), 0, i, false⟩, i + pre wordB (s.drop i)) else bad s i
  else if inB 48 57 c = true then
    if nf (s.drop i) 0 ≤ 999999999 then (⟨3, [], nf (s.drop i) 0, i, false⟩, i + pre (inB 48 57) (s.drop i)) else bad s i
  else if isB 39 c = true then
    match quoted (s.drop (i + 1)) with
    | some m => (⟨1, subs s (i + 1) (i + 1 + m), 0, i, false⟩, i + 1 + m + 1)
    | none => bad s i
  else if (isB 33 c || isB 59 c) = true then (⟨1, subs s i (i + 1), 0, i, false⟩, i + 1)
  else if (isB 40 c || isB 41 c || isB 91 c || isB 93 c || isB 44 c || isB 124 c) = true then (⟨4, subs s i (i + 1), 0, i, false⟩, i + 1)
  else if endB s i c = true then (⟨5, subs s i (i + 1), 0, i, false⟩, i + 1)
  else if symB c = true then
    if pre symB (s.drop i) ≤ 20 then (⟨1, subs s i (i + pre symB (s.drop i)), 0, i, false⟩, i + pre symB (s.drop i)) else bad s i
  else bad s i
end Go.Vm

set_option autoImplicit false
set_option maxRecDepth 100000
set_option linter.unusedSimpArgs false
set_option linter.unusedVariables false
namespace Go.Vm
structure Op3 where
  prio : Int
  left : Int
  right : Int
def infixOf (s : Str) : Op3 :=
  if s = [58, 45] ∨ s = [45, 45, 62] then ⟨1200, 1199, 1199⟩
  else if s = [59] then ⟨1100, 1099, 1100⟩
  else if s = [45, 62] then ⟨1050, 1049, 1050⟩
  else if s = [44] then ⟨1000, 999, 1000⟩
  else if s = [61] ∨ s = [92, 61] ∨ s = [61, 61] ∨ s = [105, 115] ∨ s = [60] ∨ s = [61, 58, 61] then ⟨700, 699, 699⟩
  else if s = [43] ∨ s = [45] then ⟨500, 500, 499⟩
  else if s = [42] ∨ s = [47, 47] then ⟨400, 400, 399⟩
  else ⟨0, 0, 0⟩
def opV (s : Str) : V := .t [.a [S (if (infixOf s).prio = 0 then [] else s), I (infixOf s).prio, I (infixOf s).left, I (infixOf s).right], B (decide ((infixOf s).prio ≠ 0))]
set_option maxHeartbeats 2000000 in
theorem impl_InfixOf_ok (s : Str) : cr progA F.impl_InfixOf [S s] = some (opV s) := by
  rw [cr_fn pA_impl_InfixOf rfl]
  by_cases h1 : s = [58, 45]
  · subst h1; simp (decide := true) only [go_sem, Nat.reduceAdd, Nat.reduceSub, Nat.reduceMul, Nat.reduceEqDiff, Nat.reduceLeDiff, Nat.reduceBEq, reduceCtorEq, A.impl_InfixOf]; rfl
  by_cases h2 : s = [45, 45, 62]
  · subst h2; simp (decide := true) only [go_sem, Nat.reduceAdd, Nat.reduceSub, Nat.reduceMul, Nat.reduceEqDiff, Nat.reduceLeDiff, Nat.reduceBEq, reduceCtorEq, A.impl_InfixOf]; rfl
  by_cases h3 : s = [59]
  · subst h3; simp (decide := true) only [go_sem, Nat.reduceAdd, Nat.reduceSub, Nat.reduceMul, Nat.reduceEqDiff, Nat.reduceLeDiff, Nat.reduceBEq, reduceCtorEq, A.impl_InfixOf]; rfl
  by_cases h4 : s = [45, 62]
  · subst h4; simp (decide := true) only [go_sem, Nat.reduceAdd, Nat.reduceSub, Nat.reduceMul, Nat.reduceEqDiff, Nat.reduceLeDiff, Nat.reduceBEq, reduceCtorEq, A.impl_InfixOf]; rfl
  by_cases h5 : s = [44]
  · subst h5; simp (decide := true) only [go_sem, Nat.reduceAdd, Nat.reduceSub, Nat.reduceMul, Nat.reduceEqDiff, Nat.reduceLeDiff, Nat.reduceBEq, reduceCtorEq, A.impl_InfixOf]; rfl
  by_cases h6 : s = [61]
  · subst h6; simp (decide := true) only [go_sem, Nat.reduceAdd, Nat.reduceSub, Nat.reduceMul, Nat.reduceEqDiff, Nat.reduceLeDiff, Nat.reduceBEq, reduceCtorEq, A.impl_InfixOf]; rfl
  by_cases h7 : s = [92, 61]
  · subst h7; simp (decide := true) only [go_sem, Nat.reduceAdd, Nat.reduceSub, Nat.reduceMul, Nat.reduceEqDiff, Nat.reduceLeDiff, Nat.reduceBEq, reduceCtorEq, A.impl_InfixOf]; rfl
  by_cases h8 : s = [61, 61]
  · subst h8; simp (decide := true) only [go_sem, Nat.reduceAdd, Nat.reduceSub, Nat.reduceMul, Nat.reduceEqDiff, Nat.reduceLeDiff, Nat.reduceBEq, reduceCtorEq, A.impl_InfixOf]; rfl
  by_cases h9 : s = [105, 115]
  · subst h9; simp (decide := true) only [go_sem, Nat.reduceAdd, Nat.reduceSub, Nat.reduceMul, Nat.reduceEqDiff, Nat.reduceLeDiff, Nat.reduceBEq, reduceCtorEq, A.impl_InfixOf]; rfl
  by_cases h10 : s = [60]
  · subst h10; simp (decide := true) only [go_sem, Nat.reduceAdd, Nat.reduceSub, Nat.reduceMul, Nat.reduceEqDiff, Nat.reduceLeDiff, Nat.reduceBEq, reduceCtorEq, A.impl_InfixOf]; rfl
  by_cases h11 : s = [61, 58, 61]
  · subst h11; simp (decide := true) only [go_sem, Nat.reduceAdd, Nat.reduceSub, Nat.reduceMul, Nat.reduceEqDiff, Nat.reduceLeDiff, Nat.reduceBEq, reduceCtorEq, A.impl_InfixOf]; rfl
  by_cases h12 : s = [43]
  · subst h12; simp (decide := true) only [go_sem, Nat.reduceAdd, Nat.reduceSub, Nat.reduceMul, Nat.reduceEqDiff, Nat.reduceLeDiff, Nat.reduceBEq, reduceCtorEq, A.impl_InfixOf]; rfl
  by_cases h13 : s = [45]
  · subst h13; simp (decide := true) only [go_sem, Nat.reduceAdd, Nat.reduceSub, Nat.reduceMul, Nat.reduceEqDiff, Nat.reduceLeDiff, Nat.reduceBEq, reduceCtorEq, A.impl_InfixOf]; rfl
  by_cases h14 : s = [42]
  · subst h14; simp (decide := true) only [go_sem, Nat.reduceAdd, Nat.reduceSub, Nat.reduceMul, Nat.reduceEqDiff, Nat.reduceLeDiff, Nat.reduceBEq, reduceCtorEq, A.impl_InfixOf]; rfl
  by_cases h15 : s = [47, 47]
  · subst h15; simp (decide := true) only [go_sem, Nat.reduceAdd, Nat.reduceSub, Nat.reduceMul, Nat.reduceEqDiff, Nat.reduceLeDiff, Nat.reduceBEq, reduceCtorEq, A.impl_InfixOf]; rfl
  simp only [go_sem, Nat.reduceAdd, Nat.reduceSub, Nat.reduceMul, Nat.reduceEqDiff, Nat.reduceLeDiff, Nat.reduceBEq, reduceCtorEq, A.impl_InfixOf, h1, h2, h3, h4, h5, h6, h7, h8, h9, h10, h11, h12, h13, h14, h15]
  simp [opV, infixOf, h1, h2, h3, h4, h5, h6, h7, h8, h9, h10, h11, h12, h13, h14, h15]
theorem spec_InfixOf_ok (s : Str) : cr progA F.spec_InfixOf [S s] = some (opV s) := by
  rw [← impl_InfixOf_ok, cr_fn pA_spec_InfixOf rfl, cr_fn pA_impl_InfixOf rfl]; rfl
def prioOf (t : Tm) : Int := if t.kind = 4 ∧ t.kids.length = 2 then (infixOf t.name).prio else 0
theorem spec_PrioOf_ok (t : Tm) (v : V) (h : BT t v) : cr progA F.spec_PrioOf [v] = some (I (prioOf t)) := by
  obtain ⟨τ, vs, rfl, hv⟩ := BT_shape h
  rw [cr_fn pA_spec_PrioOf rfl]
  unfold prioOf
  by_cases h1 : t.kind = 4
  · by_cases h2 : (t.kids.length : Int) = 2
    · have h2' : t.kids.length = 2 := by omega
      rw [if_pos ⟨h1, h2'⟩]
      by_cases h3 : (infixOf t.name).prio = 0
      · simp only [go_sem, Nat.reduceAdd, Nat.reduceSub, Nat.reduceMul, Nat.reduceEqDiff, Nat.reduceLeDiff, Nat.reduceBEq, reduceCtorEq, A.spec_PrioOf, RL_length hv, h1, h2, spec_InfixOf_ok, opV, h3]
      · simp only [go_sem, Nat.reduceAdd, Nat.reduceSub, Nat.reduceMul, Nat.reduceEqDiff, Nat.reduceLeDiff, Nat.reduceBEq, reduceCtorEq, A.spec_PrioOf, RL_length hv, h1, h2, spec_InfixOf_ok, opV, h3]
    · have h2' : ¬ t.kids.length = 2 := by omega
      rw [if_neg (fun h => h2' h.2)]
      simp only [go_sem, Nat.reduceAdd, Nat.reduceSub, Nat.reduceMul, Nat.reduceEqDiff, Nat.reduceLeDiff, Nat.reduceBEq, reduceCtorEq, A.spec_PrioOf, RL_length hv, h1, h2]
  · rw [if_neg (fun h => h1 h.1)]
    simp only [go_sem, Nat.reduceAdd, Nat.reduceSub, Nat.reduceMul, Nat.reduceEqDiff, Nat.reduceLeDiff, Nat.reduceBEq, reduceCtorEq, A.spec_PrioOf, h1]
theorem impl_isInfix_ok (t : Tm) (v : V) (h : BT t v) : cr progA F.impl_isInfix [v] = some (B (decide (prioOf t ≠ 0))) := by
  obtain ⟨τ, vs, rfl, hv⟩ := BT_shape h
  rw [cr_fn pA_impl_isInfix rfl]
  unfold prioOf
  by_cases h1 : t.kind = 4
  · by_cases h2 : (t.kids.length : Int) = 2
    · have h2' : t.kids.length = 2 := by omega
      rw [if_pos ⟨h1, h2'⟩]
      by_cases h3 : (infixOf t.name).prio = 0
      · simp only [go_sem, Nat.reduceAdd, Nat.reduceSub, Nat.reduceMul, Nat.reduceEqDiff, Nat.reduceLeDiff, Nat.reduceBEq, reduceCtorEq, A.impl_isInfix, RL_length hv, h1, h2, impl_InfixOf_ok, opV, h3]
      · simp only [go_sem, Nat.reduceAdd, Nat.reduceSub, Nat.reduceMul, Nat.reduceEqDiff, Nat.reduceLeDiff, Nat.reduceBEq, reduceCtorEq, A.impl_isInfix, RL_length hv, h1, h2, impl_InfixOf_ok, opV, h3]
    · have h2' : ¬ t.kids.length = 2 := by omega
      rw [if_neg (fun h => h2' h.2)]
      by_cases h3 : (infixOf t.name).prio = 0 <;> simp only [go_sem, Nat.reduceAdd, Nat.reduceSub, Nat.reduceMul, Nat.reduceEqDiff, Nat.reduceLeDiff, Nat.reduceBEq, reduceCtorEq, A.impl_isInfix, RL_length hv, h1, h2, impl_InfixOf_ok, opV, h3]
  · rw [if_neg (fun h => h1 h.1)]
    by_cases h3 : (infixOf t.name).prio = 0 <;> simp only [go_sem, Nat.reduceAdd, Nat.reduceSub, Nat.reduceMul, Nat.reduceEqDiff, Nat.reduceLeDiff, Nat.reduceBEq, reduceCtorEq, A.impl_isInfix, h1, impl_InfixOf_ok, opV, h3]
theorem impl_PrioOf_ok (t : Tm) (v : V) (h : BT t v) : cr progA F.impl_PrioOf [v] = some (I (prioOf t)) := by
  have hi := impl_isInfix_ok t v h
  obtain ⟨τ, vs, rfl, hv⟩ := BT_shape h
  rw [cr_fn pA_impl_PrioOf rfl]
  by_cases h0 : prioOf t = 0
  · simp only [go_sem, Nat.reduceAdd, Nat.reduceSub, Nat.reduceMul, Nat.reduceEqDiff, Nat.reduceLeDiff, Nat.reduceBEq, reduceCtorEq, A.impl_PrioOf, hi, h0]
  · have h1 : prioOf t = (infixOf t.name).prio := by unfold prioOf at h0 ⊢; split at h0 <;> simp_all
    simp only [go_sem, Nat.reduceAdd, Nat.reduceSub, Nat.reduceMul, Nat.reduceEqDiff, Nat.reduceLeDiff, Nat.reduceBEq, reduceCtorEq, A.impl_PrioOf, hi, h0, impl_InfixOf_ok, opV, h1]
    rw [h1] at h0
    simp only [go_sem, Nat.reduceAdd, Nat.reduceSub, Nat.reduceMul, Nat.reduceEqDiff, Nat.reduceLeDiff, Nat.reduceBEq, reduceCtorEq, h0]
end Go.Vm

set_option autoImplicit false
set_option maxHeartbeats 4000000
set_option maxRecDepth 100000
set_option linter.unusedSimpArgs false
set_option linter.unusedVariables false
namespace Go.Vm
open Go.Lib (itoa join)
/-! ### the signs of a text -/
def Sg.near' (x : Sg) (b : Bool) : Sg := { x with near := b }
def sgs (s : Str) : Nat → Nat → List Sg
  | 0, _ => []
  | n + 1, i => match s[i]? with
    | none => []
    | some c =>
      if blankB c = true then sgs s n (i + 1)
      else if isB 37 c = true then sgs s n (i + pre (fun d => !isB 10 d) (s.drop i))
      else (sgn s i c).1.near' (decide (s[(sgn s i c).2]? = some 40)) :: sgs s n (sgn s i c).2
def signs (s : Str) : List Sg := sgs s s.length 0
theorem pre_lt {p : UInt8 → Bool} {s : Str} {i : Nat} (h : i ≤ s.length) : i + pre p (s.drop i) ≤ s.length := by
  have := pre_le p (s.drop i)
  rw [List.length_drop] at this
  omega
theorem pre_pos {p : UInt8 → Bool} {s : Str} {i : Nat} {c : UInt8} (hc : s[i]? = some c) (h : p c = true) : 1 ≤ pre p (s.drop i) := by
  rw [drop_cons' hc, pre, if_pos h]; omega
theorem qlen_lt : ∀ {r : Str} {m : Nat}, qlen r = some m → m < r.length
  | [], m, h => by cases h
  | c :: r, m, h => by
    simp only [qlen] at h
    split at h
    · cases h; simp
    · rw [Option.map_eq_some_iff] at h
      obtain ⟨k, hk, rfl⟩ := h
      have := qlen_lt hk
      simp only [List.length_cons]; omega
theorem quoted_lt {r : Str} {m : Nat} (h : quoted r = some m) : m < r.length ∧ nameOk (r.take m) = true := by
  unfold quoted at h
  split at h
  · rename_i k hk
    split at h
    · rename_i h2; cases h; exact ⟨qlen_lt hk, h2⟩
    · cases h
  · cases h
theorem sgn_end (s : Str) (i : Nat) (c : UInt8) (hc : s[i]? = some c) : i < (sgn s i c).2 ∧ (sgn s i c).2 ≤ s.length := by
  have hi : i < s.length := (List.getElem?_eq_some_iff.1 hc).1
  have hb : i < (bad s i).2 ∧ (bad s i).2 ≤ s.length := ⟨Nat.lt_succ_self i, hi⟩
  unfold sgn
  split
  · rename_i h
    split
    · have h1 := pre_lt (p := wordB) (s := s) (i := i) (by omega)
      have h2 : 1 ≤ pre wordB (s.drop i) := pre_pos hc (by unfold wordB; rw [h, Bool.true_or])
      exact ⟨by show i < i + _; omega, h1⟩
    · exact hb
  split
  · rename_i h
    split
    · have h1 := pre_lt (p := inB 48 57) (s := s) (i := i) (by omega)
      have h2 : 1 ≤ pre (inB 48 57) (s.drop i) := pre_pos hc h
      exact ⟨by show i < i + _; omega, h1⟩
    · exact hb
  split
  · cases hq : quoted (s.drop (i + 1)) with
    | none => exact hb
    | some m =>
      have := (quoted_lt hq).1
      rw [List.length_drop] at this
      exact ⟨by show i < i + 1 + m + 1; omega, by show i + 1 + m + 1 ≤ _; omega⟩
  split
  · exact ⟨Nat.lt_succ_self i, hi⟩
  split
  · exact ⟨Nat.lt_succ_self i, hi⟩
  split
  · exact ⟨Nat.lt_succ_self i, hi⟩
  split
  · rename_i h
    split
    · have h1 := pre_lt (p := symB) (s := s) (i := i) (by omega)
      have h2 : 1 ≤ pre symB (s.drop i) := pre_pos hc h
      exact ⟨by show i < i + _; omega, h1⟩
    · exact hb
  · exact hb
theorem sgs_len (s : Str) : ∀ (n i : Nat), (sgs s n i).length ≤ n
  | 0, i => Nat.le_refl _
  | n + 1, i => by
    simp only [sgs]
    split
    · simp
    · rename_i c hc
      split
      · have := sgs_len s n (i + 1); omega
      split
      · have := sgs_len s n (i + pre (fun d => !isB 10 d) (s.drop i)); omega
      · have := sgs_len s n (sgn s i c).2
        simp only [List.length_cons]; omega
theorem sgs_end (s : Str) : ∀ (n i : Nat), s.length ≤ i → sgs s n i = []
  | 0, i, _ => rfl
  | n + 1, i, h => by simp only [sgs, List.getElem?_eq_none h]
/-! ### how atoms are written -/
def qText (s : Str) : Str := [39] ++ s ++ [39]
def atomText (s : Str) : Str := match signs s with
  | [x] => if x.kind = 1 ∧ x.text = s then s else qText s
  | _ => qText s
theorem atomText_len (s : Str) : (atomText s).length ≤ s.length + 2 := by
  have : (qText s).length = s.length + 2 := by simp [qText]
  unfold atomText
  split
  · split <;> omega
  · omega
def prefixOf (s : Str) : Op3 :=
  if s = [58, 45] then ⟨1200, 0, 1199⟩ else if s = [92, 43] then ⟨900, 0, 900⟩ else if s = [45] then ⟨200, 0, 200⟩ else ⟨0, 0, 0⟩
def preV (s : Str) : V := .t [.a [S (if (prefixOf s).prio = 0 then [] else s), I (prefixOf s).prio, I (prefixOf s).left, I (prefixOf s).right], B (decide ((prefixOf s).prio ≠ 0))]
def isOp (s : Str) : Bool := decide ((infixOf s).prio ≠ 0) || decide ((prefixOf s).prio ≠ 0)
def signText (s : Str) : Str := if s = [44] then [44] else atomText s
theorem signText_len (s : Str) : (signText s).length ≤ s.length + 2 := by
  unfold signText
  split
  · simp
  · exact atomText_len s
/-! ### how terms are written: with all brackets (p = false) or plainly; and as what is left of a list -/
def hold (p : Bool) (most prio : Int) (s : Str) : Str := if p = true ∧ most < prio then [40] ++ s ++ [41] else s
theorem hold_len (p : Bool) (m q : Int) (s : Str) : (hold p m q s).length ≤ s.length + 2 := by
  unfold hold; split <;> simp <;> omega
structure Kd where
  raw : Str
  rest : Str
  prio : Int
def rowOf (p : Bool) : List Kd → Option (Kd × Kd)
  | [a, b] => some (a, b)
  | _ => none
def genW (p : Bool) (s : Str) (ks : List Kd) : Str := atomText s ++ [40] ++ join (ks.map fun k => hold p 999 k.prio k.raw) [44] ++ [41]
def infW (p : Bool) (s : Str) (a b : Kd) : Str :=
  if p = true then hold true (infixOf s).left a.prio a.raw ++ [32] ++ signText s ++ [32] ++ hold true (infixOf s).right b.prio b.raw
  else [40] ++ a.raw ++ [32] ++ signText s ++ [32] ++ b.raw ++ [41]
def rawW (p : Bool) (k : Int) (s : Str) (n : Int) (ks : List Kd) : Str :=
  if k = 1 then [95] ++ itoa n
  else if k = 3 then itoa n
  else if k = 2 then (if s = [91, 93] then [91, 93] else if isOp s = true then [40] ++ atomText s ++ [41] else atomText s)
  else match ks with
    | [a, b] => if s = [46] then [91] ++ hold p 999 a.prio a.raw ++ b.rest else if (infixOf s).prio ≠ 0 then infW p s a b else genW p s ks
    | _ => genW p s ks
def restW (p : Bool) (k : Int) (s : Str) (prio : Int) (ks : List Kd) (raw : Str) : Str :=
  if k = 2 ∧ s = [91, 93] then [93]
  else match ks with
    | [a, b] => if k = 4 ∧ s = [46] then [44] ++ hold p 999 a.prio a.raw ++ b.rest else [124] ++ hold p 999 prio raw ++ [93]
    | _ => [124] ++ hold p 999 prio raw ++ [93]
mutual
def wk (p : Bool) : Tm → Kd
  | .mk k s n ks => ⟨rawW p k s n (wks p ks), restW p k s (prioOf (.mk k s n ks)) (wks p ks) (rawW p k s n (wks p ks)), prioOf (.mk k s n ks)⟩
def wks (p : Bool) : List Tm → List Kd
  | [] => []
  | t :: ts => wk p t :: wks p ts
end
theorem wks_eq (p : Bool) : ∀ (ts : List Tm), wks p ts = ts.map (wk p)
  | [] => rfl
  | t :: ts => by simp only [wks, List.map_cons, wks_eq p ts]
def wr (p : Bool) (t : Tm) : Str := (wk p t).raw
def wrR (p : Bool) (t : Tm) : Str := (wk p t).rest
theorem wk_prio (p : Bool) (t : Tm) : (wk p t).prio = prioOf t := by cases t; rfl
theorem wr_eq (p : Bool) (t : Tm) : wr p t = rawW p t.kind t.name t.num (t.kids.map (wk p)) := by
  cases t; simp only [wr, wk, wks_eq]; rfl
theorem wrR_eq (p : Bool) (t : Tm) : wrR p t = restW p t.kind t.name (prioOf t) (t.kids.map (wk p)) (wr p t) := by
  cases t; simp only [wrR, wr, wk, wks_eq]; rfl
/-- what is written where a priority is at most -/
def held (p : Bool) (m : Int) (t : Tm) : Str := hold p m (prioOf t) (wr p t)
theorem held_false (m : Int) (t : Tm) : held false m t = wr false t := by unfold held hold; rw [if_neg (by simp)]
theorem rightT_one {d : Int} {t : Tm} (h : rightT d t = true) : okOne t = true ∧ ∀ u ∈ t.kids, rightT (d + 1) u = true := by
  cases t with
  | mk k s n ks =>
    simp only [rightT, Bool.and_eq_true] at h
    refine ⟨h.2.1, ?_⟩
    have : ∀ ts : List Tm, rightTs (d + 1) ts = true → ∀ u ∈ ts, rightT (d + 1) u = true := by
      intro ts
      induction ts with
      | nil => intro _ u hu; cases hu
      | cons x xs ih =>
        intro h u hu
        simp only [rightTs, Bool.and_eq_true] at h
        rcases List.mem_cons.1 hu with rfl | hu
        · exact h.1
        · exact ih h.2 u hu
    exact this ks h.2.2
theorem okOne_kind {t : Tm} (h : okOne t = true) : (t.kind = 1 ∨ t.kind = 2 ∨ t.kind = 3 ∨ t.kind = 4) ∧ t.name.length ≤ 20 ∧ (t.kind = 3 ∨ t.kind = 1 → -999999999 ≤ t.num ∧ t.num ≤ 999999999) ∧ (t.kind = 4 → 1 ≤ t.kids.length ∧ t.kids.length ≤ 5) ∧ (t.kind ≠ 4 → t.kids = []) := by
  have hn : nameOk t.name = true → t.name.length ≤ 20 := by
    intro h
    unfold nameOk at h
    simp only [Bool.and_eq_true, decide_eq_true_eq] at h
    exact h.2.2
  have hk : (t.kids.length : Int) = 0 → t.kids = [] := fun h => List.length_eq_zero_iff.1 (by omega)
  unfold okOne at h
  split at h
  · rename_i k
    simp only [Bool.and_eq_true, decide_eq_true_eq] at h
    refine ⟨.inl k, by rw [h.2.1]; simp, fun _ => by omega, fun e => by omega, fun _ => hk h.2.2⟩
  split at h
  · rename_i k
    simp only [Bool.and_eq_true, decide_eq_true_eq] at h
    refine ⟨.inr (.inl k), hn h.1, fun e => by omega, fun e => by omega, fun _ => hk h.2.2⟩
  split at h
  · rename_i k
    simp only [Bool.and_eq_true, decide_eq_true_eq] at h
    refine ⟨.inr (.inr (.inl k)), by rw [h.2.1]; simp, fun _ => by omega, fun e => by omega, fun _ => hk h.2.2⟩
  split at h
  · rename_i k
    simp only [Bool.and_eq_true, decide_eq_true_eq] at h
    refine ⟨.inr (.inr (.inr k)), hn h.1, fun e => by omega, fun _ => by omega, fun e => absurd k e⟩
  · cases h
theorem joinTail_len (p : Str) : ∀ (ss : List Str), (Go.Lib.joinTail p ss).length = (ss.map fun s => s.length + p.length).sum
  | [] => rfl
  | s :: ss => by
    have := joinTail_len p ss
    unfold Go.Lib.joinTail at this ⊢
    simp only [List.map_cons, List.flatten_cons, List.length_append, List.sum_cons, this]
    omega
theorem join_len (p : Str) : ∀ (ss : List Str), (join ss p).length ≤ (ss.map fun s => s.length + p.length).sum
  | [] => by rw [Go.Lib.join_nil]; exact Nat.zero_le _
  | s :: ss => by
    rw [Go.Lib.join_cons, List.length_append, joinTail_len, List.map_cons, List.sum_cons]; omega
theorem wr_len (p : Bool) : ∀ (t : Tm) (d : Int), rightT d t = true → (wr p t).length + 10 ≤ 60 * nT t ∧ (wrR p t).length ≤ 60 * nT t := by
  refine Tm.ind ?_
  intro k s n ks ih d h
  obtain ⟨ho, hks⟩ := rightT_one h
  obtain ⟨-, hs, hn, -, -⟩ := okOne_kind ho
  simp only [Tm.kind_mk, Tm.name_mk, Tm.num_mk, Tm.kids_mk] at hs hn hks
  have hat := atomText_len s
  have hst := signText_len s
  have hg : (genW p s (ks.map (wk p))).length ≤ 24 + 60 * nTs ks := by
    unfold genW
    have h1 := join_len [44] ((ks.map (wk p)).map fun k => hold p 999 k.prio k.raw)
    have h2 : ∀ (l : List Tm), (∀ u ∈ l, (wr p u).length + 10 ≤ 60 * nT u) → (((l.map (wk p)).map fun k => hold p 999 k.prio k.raw).map fun s => s.length + ([44] : Str).length).sum ≤ 60 * nTs l := by
      intro l
      induction l with
      | nil => intro _; simp [nTs]
      | cons x xs ihx =>
        intro hl
        have h3 := ihx fun u hu => hl u (by simp [hu])
        have h4 := hl x (by simp)
        have h5 := hold_len p 999 (wk p x).prio (wk p x).raw
        simp only [List.map_cons, List.sum_cons, List.length_cons, List.length_nil, nTs] at h3 ⊢
        unfold wr at h4
        omega
    have h3 := h2 ks fun u hu => (ih u hu (d + 1) (hks u hu)).1
    simp only [List.length_append, List.length_cons, List.length_nil]
    omega
  have hraw : (wr p (.mk k s n ks)).length + 10 ≤ 60 * nT (.mk k s n ks) := by
    rw [wr_eq]
    simp only [Tm.kind_mk, Tm.name_mk, Tm.num_mk, Tm.kids_mk, nT]
    unfold rawW
    split
    · have := itoa_len n (by omega) (by omega)
      simp only [List.length_append, List.length_cons, List.length_nil]; omega
    split
    · have := itoa_len n (by omega) (by omega)
      omega
    split
    · split
      · simp only [List.length_cons, List.length_nil]; omega
      split
      · simp only [List.length_append, List.length_cons, List.length_nil]; omega
      · omega
    split
    · rename_i a b hab
      rcases ks with _ | ⟨x, _ | ⟨y, _ | ⟨z, r⟩⟩⟩ <;> simp at hab
      obtain ⟨rfl, rfl⟩ := hab
      have hx := ih x (by simp) (d + 1) (hks x (by simp))
      have hy := ih y (by simp) (d + 1) (hks y (by simp))
      unfold wr wrR at hx hy
      have hl1 := hold_len p 999 (wk p x).prio (wk p x).raw
      simp only [nTs]
      split
      · simp only [List.length_append, List.length_cons, List.length_nil]; omega
      split
      · unfold infW
        have hl2 := hold_len true (infixOf s).left (wk p x).prio (wk p x).raw
        have hl3 := hold_len true (infixOf s).right (wk p y).prio (wk p y).raw
        split <;> simp only [List.length_append, List.length_cons, List.length_nil] <;> omega
      · simp only [nTs, List.map_cons, List.map_nil] at hg ⊢; omega
    · omega
  refine ⟨hraw, ?_⟩
  rw [wrR_eq]
  have hh := hold_len p 999 (prioOf (.mk k s n ks)) (wr p (.mk k s n ks))
  simp only [Tm.kind_mk, Tm.name_mk, Tm.kids_mk]
  unfold restW
  split
  · have := nT_pos (.mk k s n ks); simp only [List.length_cons, List.length_nil]; omega
  split
  · rename_i a b hab
    rcases ks with _ | ⟨x, _ | ⟨y, _ | ⟨z, r⟩⟩⟩ <;> simp at hab
    obtain ⟨rfl, rfl⟩ := hab
    have hx := ih x (by simp) (d + 1) (hks x (by simp))
    have hy := ih y (by simp) (d + 1) (hks y (by simp))
    unfold wr wrR at hx hy
    have hl1 := hold_len p 999 (wk p x).prio (wk p x).raw
    split
    · simp only [List.length_append, List.length_cons, List.length_nil, nT, nTs]; omega
    · simp only [List.length_append, List.length_cons, List.length_nil]; omega
  · simp only [List.length_append, List.length_cons, List.length_nil]; omega
end Go.Vm

set_option autoImplicit false
set_option maxHeartbeats 4000000
set_option maxRecDepth 100000
set_option linter.unusedSimpArgs false
set_option linter.unusedVariables false
namespace Go.Vm
/-! ### the reference's signs -/
theorem ssl_sub (s : Str) (a b : Nat) (h : a ≤ b) (hb : b ≤ s.length) : sslV (S s) (some (I a)) (some (I b)) = some (S (subs s a b)) := by
  have h1 : bound1 0 (some (I a)) = some (a : Int) := rfl
  have h2 : bound1 s.length (some (I b)) = some (b : Int) := rfl
  rw [ssl_S h1 h2 (by omega) (by omega) (by omega)]
  rfl
theorem l05Quoted_loop (s : Str) (hl : s.length ≤ 2^61) (at_ : Nat) (m : Nat) : ∀ i, i + m = s.length → at_ + 1 ≤ i →
    lw progA L.spec_l05Quoted_0 ⟨[(0, S s), (1, I at_), (5, I i)], []⟩ = match qlen (s.drop i) with
      | none => some (.exit 0, ⟨[], []⟩)
      | some k => some (.ret, ⟨[(4, I (if nameOk (subs s (at_ + 1) (i + k)) = true then ((i + k + 1 : Nat) : Int) else 0))], []⟩) := by
  induction m with
  | zero =>
    intro i hi ha
    rw [List.drop_eq_nil_of_le (by omega), lw_eq]
    have h : ¬ (i : Int) < s.length := by omega
    simp only [qlen]
    simp only [go_sem, Nat.reduceAdd, Nat.reduceSub, Nat.reduceMul, Nat.reduceEqDiff, Nat.reduceLeDiff, Nat.reduceBEq, reduceCtorEq, LB.spec_l05Quoted_0, h]
  | succ m ih =>
    intro i hi ha
    have h : (i : Int) < s.length := by omega
    obtain ⟨c, hc⟩ := get_some' (l := s) (i := i) (by omega)
    have ix := ix_S (l := s) (i := (i : Int)) (c := c) (by omega) (by simpa using hc)
    have e1 : w64 ((i : Int) + 1) = ((i + 1 : Nat) : Int) := by rw [w64_id] <;> omega
    have e2 : w64 ((at_ : Int) + 1) = ((at_ + 1 : Nat) : Int) := by rw [w64_id] <;> omega
    rw [drop_cons' hc, lw_eq]
    simp only [qlen]
    by_cases h39 : isB 39 c = true
    · have d : decide ((c.toNat : Int) = 39) = true := h39
      rw [if_pos h39]
      have sl := ssl_sub s (at_ + 1) i ha (by omega)
      have nm := l03Name_ok (subs s (at_ + 1) i) (by unfold subs; simp only [List.length_drop, List.length_take]; omega)
      simp only [Nat.add_zero]
      cases hn : nameOk (subs s (at_ + 1) i) with
      | true => rw [hn] at nm; rw [if_pos rfl]; simp only [go_sem, Nat.reduceAdd, Nat.reduceSub, Nat.reduceMul, Nat.reduceEqDiff, Nat.reduceLeDiff, Nat.reduceBEq, reduceCtorEq, LB.spec_l05Quoted_0, h, ix, e1, e2, d, sl, nm]
      | false => rw [hn] at nm; rw [if_neg (by decide)]; simp only [go_sem, Nat.reduceAdd, Nat.reduceSub, Nat.reduceMul, Nat.reduceEqDiff, Nat.reduceLeDiff, Nat.reduceBEq, reduceCtorEq, LB.spec_l05Quoted_0, h, ix, e1, e2, d, sl, nm]
    · have d : decide ((c.toNat : Int) = 39) = false := by simpa [isB] using h39
      have i1 := ih (i + 1) (by omega) (by omega)
      rw [if_neg h39]
      have hq : ∀ k, i + 1 + k = i + (k + 1) := fun k => by omega
      cases hk : qlen (s.drop (i + 1)) with
      | none =>
        rw [hk] at i1
        simp only [Option.map_none] at i1 ⊢
        simp only [go_sem, Nat.reduceAdd, Nat.reduceSub, Nat.reduceMul, Nat.reduceEqDiff, Nat.reduceLeDiff, Nat.reduceBEq, reduceCtorEq, LB.spec_l05Quoted_0, h, ix, e1, d]
        exact i1
      | some k =>
        rw [hk] at i1
        simp only [Option.map_some, hq] at i1 ⊢
        simp only [go_sem, Nat.reduceAdd, Nat.reduceSub, Nat.reduceMul, Nat.reduceEqDiff, Nat.reduceLeDiff, Nat.reduceBEq, reduceCtorEq, LB.spec_l05Quoted_0, h, ix, e1, d]
        exact i1
def quotedV (s : Str) (i : Nat) : Int := match quoted (s.drop (i + 1)) with
  | some k => ((i + 1 + k + 1 : Nat) : Int)
  | none => 0
theorem l05Quoted_ok (s : Str) (hl : s.length ≤ 2^61) (i : Nat) (hi : i < s.length) : cr progA F.spec_l05Quoted [S s, I i] = some (I (quotedV s i)) := by
  have h := l05Quoted_loop s hl i (s.length - (i + 1)) (i + 1) (by omega) (Nat.le_refl _)
  have e2 : w64 ((i : Int) + 1) = ((i + 1 : Nat) : Int) := by rw [w64_id] <;> omega
  rw [cr_fn pA_spec_l05Quoted rfl]
  unfold quotedV quoted
  cases hk : qlen (s.drop (i + 1)) with
  | none =>
    rw [hk] at h
    simp only at h
    simp only [go_sem, Nat.reduceAdd, Nat.reduceSub, Nat.reduceMul, Nat.reduceEqDiff, Nat.reduceLeDiff, Nat.reduceBEq, reduceCtorEq, A.spec_l05Quoted, e2, h]
  | some k =>
    rw [hk] at h
    have hs : subs s (i + 1) (i + 1 + k) = (s.drop (i + 1)).take k := by
      unfold subs; rw [List.drop_take, Nat.add_sub_cancel_left]
    simp only [hs] at h
    simp only
    by_cases hn : nameOk ((s.drop (i + 1)).take k) = true
    · rw [if_pos hn] at h; simp only [if_pos hn]; simp only [go_sem, Nat.reduceAdd, Nat.reduceSub, Nat.reduceMul, Nat.reduceEqDiff, Nat.reduceLeDiff, Nat.reduceBEq, reduceCtorEq, A.spec_l05Quoted, e2, h]
    · rw [if_neg hn] at h; simp only [if_neg hn]; simp only [go_sem, Nat.reduceAdd, Nat.reduceSub, Nat.reduceMul, Nat.reduceEqDiff, Nat.reduceLeDiff, Nat.reduceBEq, reduceCtorEq, A.spec_l05Quoted, e2, h]
theorem sgnSym_loop (s : Str) (hl : s.length ≤ 2^61) (i : Nat) (e : Nat) (x : Str) (m : Nat) : ∀ n, n + m = s.length →
    lw progA L.spec_l05Sign_0 ⟨[(0, S s), (1, I i), (4, .p (100000, 0) 0 0), (7, .p (100000, 1) 0 0), (8, I e), (13, I n)], [((100000, 0), 5, [.a [I 0, S [], I 0, I 0, B false]]), ((100000, 1), 5, [.a [I 6, S x, I 0, I i, B false]])]⟩ = some (.exit 3, ⟨[(0, S s), (1, I i), (4, .p (100000, 0) 0 0), (7, .p (100000, 1) 0 0), (8, I e), (13, I ((n + pre symB (s.drop n) : Nat) : Int))], [((100000, 0), 5, [.a [I 0, S [], I 0, I 0, B false]]), ((100000, 1), 5, [.a [I 6, S x, I 0, I i, B false]])]⟩) := by
  induction m with
  | zero =>
    intro n hn
    rw [List.drop_eq_nil_of_le (by omega), lw_eq]
    have h : ¬ (n : Int) < s.length := by omega
    simp only [go_sem, Nat.reduceAdd, Nat.reduceSub, Nat.reduceMul, Nat.reduceEqDiff, Nat.reduceLeDiff, Nat.reduceBEq, reduceCtorEq, LB.spec_l05Sign_0, h, pre]
  | succ m ih =>
    intro n hn
    have h : (n : Int) < s.length := by omega
    obtain ⟨c, hc⟩ := get_some' (l := s) (i := n) (by omega)
    have ix := ix_S (l := s) (i := (n : Int)) (c := c) (by omega) (by simpa using hc)
    have w := spec_SymbolByte_ok c
    have e1 : w64 ((n : Int) + 1) = ((n + 1 : Nat) : Int) := by rw [w64_id] <;> omega
    rw [drop_cons' hc, lw_eq, pre]
    cases hw : symB c with
    | true =>
      rw [hw] at w
      have i1 := ih (n + 1) (by omega)
      rw [if_pos rfl, show n + (pre symB (s.drop (n + 1)) + 1) = n + 1 + pre symB (s.drop (n + 1)) by omega]
      simp only [go_sem, Nat.reduceAdd, Nat.reduceSub, Nat.reduceMul, Nat.reduceEqDiff, Nat.reduceLeDiff, Nat.reduceBEq, reduceCtorEq, LB.spec_l05Sign_0, h, ix, w, e1]
      exact i1
    | false =>
      rw [hw] at w
      rw [if_neg (by decide)]
      simp only [go_sem, Nat.reduceAdd, Nat.reduceSub, Nat.reduceMul, Nat.reduceEqDiff, Nat.reduceLeDiff, Nat.reduceBEq, reduceCtorEq, LB.spec_l05Sign_0, h, ix, w, e1]
theorem sgnNum_loop (s : Str) (hl : s.length ≤ 2^61) (i : Nat) (e : Nat) (x : Str) (m : Nat) : ∀ (n : Nat) (a : Int), n + m = s.length → 0 ≤ a → a ≤ 9999999999 →
    lw progA L.spec_l05Sign_1 ⟨[(0, S s), (1, I i), (4, .p (100000, 0) 0 0), (7, .p (100000, 1) 0 0), (8, I e), (10, I n), (11, I a)], [((100000, 0), 5, [.a [I 0, S [], I 0, I 0, B false]]), ((100000, 1), 5, [.a [I 6, S x, I 0, I i, B false]])]⟩ = some (.exit 1, ⟨[(1, I i), (4, .p (100000, 0) 0 0), (7, .p (100000, 1) 0 0), (8, I e), (10, I ((n + nk (s.drop n) a : Nat) : Int)), (11, I (nf (s.drop n) a))], [((100000, 0), 5, [.a [I 0, S [], I 0, I 0, B false]]), ((100000, 1), 5, [.a [I 6, S x, I 0, I i, B false]])]⟩) := by
  induction m with
  | zero =>
    intro n a hn h0 h1
    rw [List.drop_eq_nil_of_le (by omega), lw_eq]
    have h : ¬ (n : Int) < s.length := by omega
    simp only [go_sem, Nat.reduceAdd, Nat.reduceSub, Nat.reduceMul, Nat.reduceEqDiff, Nat.reduceLeDiff, Nat.reduceBEq, reduceCtorEq, LB.spec_l05Sign_1, h, nf, nk]
  | succ m ih =>
    intro n a hn h0 h1
    have h : (n : Int) < s.length := by omega
    obtain ⟨c, hc⟩ := get_some' (l := s) (i := n) (by omega)
    have ix := ix_S (l := s) (i := (n : Int)) (c := c) (by omega) (by simpa using hc)
    have w := l05Figure_ok c
    have e1 : w64 ((n : Int) + 1) = ((n + 1 : Nat) : Int) := by rw [w64_id] <;> omega
    rw [drop_cons' hc, lw_eq, nf, nk]
    cases hw : inB 48 57 c with
    | true =>
      rw [hw] at w
      have hb := hw
      simp only [inB, Bool.and_eq_true, decide_eq_true_eq] at hb
      by_cases ha : a ≤ 999999999
      · have da : decide (a ≤ 999999999) = true := decide_eq_true ha
        have i1 := ih (n + 1) (10 * a + c.toNat - 48) (by omega) (by omega) (by omega)
        have e3 : w64 (10 * a) = 10 * a := by rw [w64_id] <;> omega
        have e4 : w64 (c.toNat : Int) = c.toNat := by rw [w64_id] <;> omega
        have e5 : w64 (10 * a + c.toNat) = 10 * a + c.toNat := by rw [w64_id] <;> omega
        have e6 : w64 (10 * a + c.toNat - 48) = 10 * a + c.toNat - 48 := by rw [w64_id] <;> omega
        rw [da, Bool.and_self, if_pos rfl, if_pos rfl, show n + (nk (s.drop (n + 1)) (10 * a + c.toNat - 48) + 1) = n + 1 + nk (s.drop (n + 1)) (10 * a + c.toNat - 48) by omega]
        simp only [go_sem, Nat.reduceAdd, Nat.reduceSub, Nat.reduceMul, Nat.reduceEqDiff, Nat.reduceLeDiff, Nat.reduceBEq, reduceCtorEq, LB.spec_l05Sign_1, h, ix, w, e1, da, ha, e3, e4, e5, e6]
        exact i1
      · have da : decide (a ≤ 999999999) = false := decide_eq_false ha
        rw [da, Bool.and_false, if_neg (by decide), if_neg (by decide)]
        simp only [go_sem, Nat.reduceAdd, Nat.reduceSub, Nat.reduceMul, Nat.reduceEqDiff, Nat.reduceLeDiff, Nat.reduceBEq, reduceCtorEq, LB.spec_l05Sign_1, h, ix, w, e1, da, ha, Nat.add_zero]
    | false =>
      rw [hw] at w
      rw [Bool.false_and, if_neg (by decide), if_neg (by decide)]
      simp only [go_sem, Nat.reduceAdd, Nat.reduceSub, Nat.reduceMul, Nat.reduceEqDiff, Nat.reduceLeDiff, Nat.reduceBEq, reduceCtorEq, LB.spec_l05Sign_1, h, ix, w, e1, Nat.add_zero]
end Go.Vm
