import Derived.Test.YtehgffojgiefaaaRTy
import Derived.Test.YtehgffojgiefaaaRP1
import Derived.Test.YtehgffojgiefaaaRP3
import Derived.Test.YtehgffojgiefaaaRLs
set_option autoImplicit false
set_option maxRecDepth 100000
set_option linter.unusedSimpArgs false
set_option linter.unusedVariables false
namespace Go.Vm
theorem szClause_ok (x : Cl) (hw : wCl x) (v : V) (left : Int) (h : bCl x v) : ∃ m, cr progA F.laws_szClause [v, I left] = some (I m) := by
  obtain ⟨τ0, vs0, τ1, vs1, rfl, h0, h1⟩ := h
  rw [cr_fn pA_laws_szClause rfl]
  obtain ⟨m1, e1⟩ := szTerm_ok x.head (hw.1) _ left (BT_of (τ := τ0) h0)
  by_cases n1 : m1 < 0
  · simp only [go_sem, Nat.reduceAdd, Nat.reduceSub, Nat.reduceMul, Nat.reduceEqDiff, Nat.reduceLeDiff, Nat.reduceBEq, reduceCtorEq, A.laws_szClause, e1, n1]; exact ⟨_, rfl⟩
  obtain ⟨m2, e2⟩ := szTerm_ok x.body (hw.2.1) _ m1 (BT_of (τ := τ1) h1)
  by_cases n2 : m2 < 0
  · simp only [go_sem, Nat.reduceAdd, Nat.reduceSub, Nat.reduceMul, Nat.reduceEqDiff, Nat.reduceLeDiff, Nat.reduceBEq, reduceCtorEq, A.laws_szClause, e1, n1, e2, n2]; exact ⟨_, rfl⟩
  by_cases n3 : w64 (m2 - x.file.length) < 0
  · simp only [go_sem, Nat.reduceAdd, Nat.reduceSub, Nat.reduceMul, Nat.reduceEqDiff, Nat.reduceLeDiff, Nat.reduceBEq, reduceCtorEq, A.laws_szClause, e1, n1, e2, n2, n3]; exact ⟨_, rfl⟩
  simp only [go_sem, Nat.reduceAdd, Nat.reduceSub, Nat.reduceMul, Nat.reduceEqDiff, Nat.reduceLeDiff, Nat.reduceBEq, reduceCtorEq, A.laws_szClause, e1, n1, e2, n2, n3]; exact ⟨_, rfl⟩
theorem toClause_ok (x : Cl) (hw : wCl x) (v : V) (h : bCl x v) : cr progA F.laws_toClause [v] = some (oCl x) := by
  obtain ⟨τ0, vs0, τ1, vs1, rfl, h0, h1⟩ := h
  have e1 := toTerm_ok x.head (hw.1) _ (BT_of (τ := τ0) h0)
  rw [oT_mk] at e1
  have e2 := toTerm_ok x.body (hw.2.1) _ (BT_of (τ := τ1) h1)
  rw [oT_mk] at e2
  rw [cr_fn pA_laws_toClause rfl, oCl]
  simp only [go_sem, Nat.reduceAdd, Nat.reduceSub, Nat.reduceMul, Nat.reduceEqDiff, Nat.reduceLeDiff, Nat.reduceBEq, reduceCtorEq, A.laws_toClause, e1, e2]
theorem eqClause_ok (x : Cl) (hw : wCl x) (y : Cl) (v v' : V) (h : bCl x v) (h' : bCl y v') : cr progA F.laws_eqClause [v, v'] = some (B (decide (x = y))) := by
  obtain ⟨τ0, vs0, τ1, vs1, rfl, h0, h1⟩ := h
  obtain ⟨τ0', vs0', τ1', vs1', rfl, h0', h1'⟩ := h'
  have e1 := eqTerm_ok x.head (hw.1) y.head _ _ (BT_of (τ := τ0) h0) (BT_of (τ := τ0') h0')
  have e2 := eqTerm_ok x.body (hw.2.1) y.body _ _ (BT_of (τ := τ1) h1) (BT_of (τ := τ1') h1')
  rw [cr_fn pA_laws_eqClause rfl]
  by_cases c0 : x.head = y.head
  case neg =>
    have d0 : decide (x.head = y.head) = false := decide_eq_false c0
    have hf : decide (x = y) = false := decide_eq_false fun h => c0 (by rw [h])
    simp only [go_sem, Nat.reduceAdd, Nat.reduceSub, Nat.reduceMul, Nat.reduceEqDiff, Nat.reduceLeDiff, Nat.reduceBEq, reduceCtorEq, A.laws_eqClause, e1, e2, d0, hf]
  have d0 : decide (x.head = y.head) = true := decide_eq_true c0
  by_cases c1 : x.body = y.body
  case neg =>
    have d1 : decide (x.body = y.body) = false := decide_eq_false c1
    have hf : decide (x = y) = false := decide_eq_false fun h => c1 (by rw [h])
    simp only [go_sem, Nat.reduceAdd, Nat.reduceSub, Nat.reduceMul, Nat.reduceEqDiff, Nat.reduceLeDiff, Nat.reduceBEq, reduceCtorEq, A.laws_eqClause, e1, e2, d0, d1, hf]
  have d1 : decide (x.body = y.body) = true := decide_eq_true c1
  by_cases c2 : x.file = y.file
  case neg =>
    have d2 : decide (x.file = y.file) = false := decide_eq_false c2
    have hf : decide (x = y) = false := decide_eq_false fun h => c2 (by rw [h])
    simp only [go_sem, Nat.reduceAdd, Nat.reduceSub, Nat.reduceMul, Nat.reduceEqDiff, Nat.reduceLeDiff, Nat.reduceBEq, reduceCtorEq, A.laws_eqClause, e1, e2, d0, d1, d2, hf]
  have d2 : decide (x.file = y.file) = true := decide_eq_true c2
  have hf : decide (x = y) = true := decide_eq_true (by cases x; cases y; simp only at c0 c1 c2; simp only [Cl.mk.injEq]; exact ⟨c0, c1, c2⟩)
  simp only [go_sem, Nat.reduceAdd, Nat.reduceSub, Nat.reduceMul, Nat.reduceEqDiff, Nat.reduceLeDiff, Nat.reduceBEq, reduceCtorEq, A.laws_eqClause, e1, e2, d0, d1, d2, hf]
theorem szClauseS_ok (τ : Bool) (vs : List V) (ts : List Cl) (hv : RL bCl ts vs) (hw : ts.length ≤ Lm) (hw' : ∀ t ∈ ts, wCl t) (left : Int) : ∃ m, cr progA F.laws_szClauseS [.i τ vs, I left] = some (I m) :=
  szS_ok (prog := progA) F.laws_szClauseS F.laws_szClause 9 rfl Cl_flat τ vs ts hv hw (fun t ht v left h => szClause_ok t (hw' t ht) v left h) left
theorem eqClauseS_ok (τ τ' : Bool) (vs vs' : List V) (ts ts' : List Cl) (hv : RL bCl ts vs) (hv' : RL bCl ts' vs') (hw : ts.length ≤ Lm) (hw' : ∀ t ∈ ts, wCl t) :
    cr progA F.laws_eqClauseS [.i τ vs, .i τ' vs'] = some (B (decide (ts = ts'))) := by
  have := eqS_ok (prog := progA) F.laws_eqClauseS F.laws_eqClause 9 rfl Cl_flat τ τ' vs vs' ts ts' hv hv' hw (fun t ht t' v v' h h' => by rw [eqClause_ok t (hw' t ht) t' v v' h h'])
  rw [this]
theorem toClauseS_loop (τ : Bool) (vs : List V) (ts : List Cl) (n : Nat) (hl : ts.length = n) (hv : RL bCl ts vs) (hlim : n ≤ Lm)
    (hc : ∀ t ∈ ts, ∀ v, bCl t v → cr progA F.laws_toClause [v] = some (oCl t)) (m : Nat) : ∀ i, i + m = n →
    ∃ a b c e', lw progA L.laws_toClauseS_0 ⟨[(0, .i τ vs), (3, .s (7, 0) 0 n), (4, I i)], [((7, 0), 9, (ts.take i).map oCl ++ List.replicate m (V.a [I 0, S [], I 0, .n 4, I 0, S [], I 0, .n 4, S []]))]⟩ =
      some (.exit 0, ⟨[(11, a), (10, b), (9, c), (8, e'), (0, .i τ vs), (3, .s (7, 0) 0 n), (4, I n)], [((7, 0), 9, ts.map oCl)]⟩) := by
  unfold Lm at hlim
  have hn := RL_length hv
  rw [hl] at hn
  induction m with
  | zero =>
    intro i hi
    obtain rfl : i = n := by omega
    rw [lw_eq]
    have h1 : ¬ (i : Int) < (i : Int) := by omega
    have h2 : (ts.take i).map oCl ++ List.replicate 0 (V.a [I 0, S [], I 0, .n 4, I 0, S [], I 0, .n 4, S []]) = ts.map oCl := by simp [List.take_of_length_le (Nat.le_of_eq hl)]
    rw [h2]
    simp only [go_sem, Nat.reduceAdd, Nat.reduceSub, Nat.reduceMul, Nat.reduceEqDiff, Nat.reduceLeDiff, Nat.reduceBEq, reduceCtorEq, LB.laws_toClauseS_0, hn, h1]
    exact ⟨_, _, _, _, rfl⟩
  | succ m ih =>
    intro i hi
    rw [lw_eq]
    have hlt : (i : Int) < (n : Int) := by omega
    obtain ⟨t, ht⟩ := get_some' (l := ts) (i := i) (by omega)
    obtain ⟨v, g, hb⟩ := RL_get hv ht
    have hcc := hc t (List.mem_of_getElem? ht) v hb
    have a1 := addr_i (τ := τ) (T := [((7, 0), 9, (ts.take i).map oCl ++ List.replicate (m + 1) (V.a [I 0, S [], I 0, .n 4, I 0, S [], I 0, .n 4, S []]))]) g (Cl_flat _ _ hb).cells
    have e1 : w64 ((i : Int) + 1) = ((i + 1 : Nat) : Int) := by rw [w64_id] <;> omega
    have r1 := row_len (f := oCl) (z := V.a [I 0, S [], I 0, .n 4, I 0, S [], I 0, .n 4, S []]) ts i (m + 1) n hi hl
    have r2 := row_get (f := oCl) (z := V.a [I 0, S [], I 0, .n 4, I 0, S [], I 0, .n 4, S []]) ts i m (by omega)
    have r3 := fun x => row_set (f := oCl) (z := V.a [I 0, S [], I 0, .n 4, I 0, S [], I 0, .n 4, S []]) (x := x) ts i m (by omega)
    have r4 := row_next (f := oCl) ht (List.replicate m (V.a [I 0, S [], I 0, .n 4, I 0, S [], I 0, .n 4, S []]))
    have i1 := ih (i + 1) (by omega)
    obtain ⟨τ0, vs0, τ1, vs1, rfl, -, -⟩ := hb
    rw [oCl] at hcc r4
    have kl : ∀ d, killL d ((ts.take i).map oCl ++ List.replicate (m + 1) (V.a [I 0, S [], I 0, .n 4, I 0, S [], I 0, .n 4, S []])) = (ts.take i).map oCl ++ List.replicate (m + 1) (V.a [I 0, S [], I 0, .n 4, I 0, S [], I 0, .n 4, S []]) := fun d => by
      rw [killL_app, killL_mCl, killL_rep]; rfl
    have ix := ixO_some (k := (7, 0)) (e := 9) (xs := (ts.take i).map oCl ++ List.replicate (m + 1) (V.a [I 0, S [], I 0, .n 4, I 0, S [], I 0, .n 4, S []])) (i := i) (len := n) (by omega) (by omega)
    have rp := fun k ob (y : V) (ys : List V) => repEs_app k ob ((ts.take i).map oCl) (y :: ys) (clEs_mCl _)
    simp only [go_sem, Nat.reduceAdd, Nat.reduceSub, Nat.reduceMul, Nat.reduceEqDiff, Nat.reduceLeDiff, Nat.reduceBEq, reduceCtorEq, LB.laws_toClauseS_0, hn, hlt, a1, g, hcc, e1, kl, ix, r1, r2, r3, rp, Option.map_some, r4]
    exact i1
theorem toClauseS_ok (τ : Bool) (vs : List V) (ts : List Cl) (hv : RL bCl ts vs) (hlim : ts.length ≤ Lm) (hw' : ∀ t ∈ ts, wCl t) : cr progA F.laws_toClauseS [.i τ vs] = some (.o 9 (ts.map oCl)) := by
  rw [cr_fn pA_laws_toClauseS rfl]
  obtain ⟨a, b, c, e', h⟩ := toClauseS_loop τ vs ts ts.length rfl hv hlim (fun t ht v h => toClause_ok t (hw' t ht) v h) ts.length 0 (by omega)
  simp only [Int.natCast_zero, List.take_zero, List.map_nil, List.nil_append] at h
  unfold Lm at hlim
  have mk := fun σ T => mkK_nat (σ := σ) (T := T) (e := 9) (bytes := 128) (z := V.a [I 0, S [], I 0, .n 4, I 0, S [], I 0, .n 4, S []]) (n := ts.length) (d := 7) (by rw [lim_val]; omega) (by rw [lim_val]; omega) rfl rfl rfl
  simp only [go_sem, Nat.reduceAdd, Nat.reduceSub, Nat.reduceMul, Nat.reduceEqDiff, Nat.reduceLeDiff, Nat.reduceBEq, reduceCtorEq, A.laws_toClauseS, RL_length hv, mk, h]
theorem szDb_ok (x : Db) (hw : wDb x) (v : V) (left : Int) (h : bDb x v) : ∃ m, cr progA F.laws_szDb [v, I left] = some (I m) := by
  obtain ⟨τ0, vs0, τ1, rfl, h0⟩ := h
  rw [cr_fn pA_laws_szDb rfl]
  obtain ⟨m1, e1⟩ := szClauseS_ok τ0 vs0 x.clauses h0 (hw.1).1 (hw.1).2 left
  by_cases n1 : m1 < 0
  · simp only [go_sem, Nat.reduceAdd, Nat.reduceSub, Nat.reduceMul, Nat.reduceEqDiff, Nat.reduceLeDiff, Nat.reduceBEq, reduceCtorEq, A.laws_szDb, e1, n1]; exact ⟨_, rfl⟩
  obtain ⟨m2, e2⟩ := szStringS_ok τ1 x.opn (hw.2).1 m1
  by_cases n2 : m2 < 0
  · simp only [go_sem, Nat.reduceAdd, Nat.reduceSub, Nat.reduceMul, Nat.reduceEqDiff, Nat.reduceLeDiff, Nat.reduceBEq, reduceCtorEq, A.laws_szDb, e1, n1, e2, n2]; exact ⟨_, rfl⟩
  simp only [go_sem, Nat.reduceAdd, Nat.reduceSub, Nat.reduceMul, Nat.reduceEqDiff, Nat.reduceLeDiff, Nat.reduceBEq, reduceCtorEq, A.laws_szDb, e1, n1, e2, n2]; exact ⟨_, rfl⟩
theorem toDb_ok (x : Db) (hw : wDb x) (v : V) (h : bDb x v) : cr progA F.laws_toDb [v] = some (oDb x) := by
  obtain ⟨τ0, vs0, τ1, rfl, h0⟩ := h
  have e1 := toClauseS_ok τ0 vs0 x.clauses h0 (hw.1).1 (hw.1).2
  have e2 := toStringS_ok τ1 x.opn (hw.2).1
  rw [cr_fn pA_laws_toDb rfl, oDb]
  simp only [go_sem, Nat.reduceAdd, Nat.reduceSub, Nat.reduceMul, Nat.reduceEqDiff, Nat.reduceLeDiff, Nat.reduceBEq, reduceCtorEq, A.laws_toDb, e1, e2]
theorem eqDb_ok (x : Db) (hw : wDb x) (y : Db) (v v' : V) (h : bDb x v) (h' : bDb y v') : cr progA F.laws_eqDb [v, v'] = some (B (decide (x = y))) := by
  obtain ⟨τ0, vs0, τ1, rfl, h0⟩ := h
  obtain ⟨τ0', vs0', τ1', rfl, h0'⟩ := h'
  have e1 := eqClauseS_ok τ0 τ0' vs0 vs0' x.clauses y.clauses h0 h0' (hw.1).1 (hw.1).2
  have e2 := eqStringS_ok τ1 τ1' x.opn y.opn (hw.2).1
  rw [cr_fn pA_laws_eqDb rfl]
  by_cases c0 : x.clauses = y.clauses
  case neg =>
    have d0 : decide (x.clauses = y.clauses) = false := decide_eq_false c0
    have hf : decide (x = y) = false := decide_eq_false fun h => c0 (by rw [h])
    simp only [go_sem, Nat.reduceAdd, Nat.reduceSub, Nat.reduceMul, Nat.reduceEqDiff, Nat.reduceLeDiff, Nat.reduceBEq, reduceCtorEq, A.laws_eqDb, e1, e2, d0, hf]
  have d0 : decide (x.clauses = y.clauses) = true := decide_eq_true c0
  by_cases c1 : x.opn = y.opn
  case neg =>
    have d1 : decide (x.opn = y.opn) = false := decide_eq_false c1
    have hf : decide (x = y) = false := decide_eq_false fun h => c1 (by rw [h])
    simp only [go_sem, Nat.reduceAdd, Nat.reduceSub, Nat.reduceMul, Nat.reduceEqDiff, Nat.reduceLeDiff, Nat.reduceBEq, reduceCtorEq, A.laws_eqDb, e1, e2, d0, d1, hf]
  have d1 : decide (x.opn = y.opn) = true := decide_eq_true c1
  have hf : decide (x = y) = true := decide_eq_true (by cases x; cases y; simp only at c0 c1; simp only [Db.mk.injEq]; exact ⟨c0, c1⟩)
  simp only [go_sem, Nat.reduceAdd, Nat.reduceSub, Nat.reduceMul, Nat.reduceEqDiff, Nat.reduceLeDiff, Nat.reduceBEq, reduceCtorEq, A.laws_eqDb, e1, e2, d0, d1, hf]
theorem szFile_ok (x : Fl) (hw : wFl x) (v : V) (left : Int) (h : bFl x v) : ∃ m, cr progA F.laws_szFile [v, I left] = some (I m) := by
  obtain rfl := h
  rw [cr_fn pA_laws_szFile rfl]
  by_cases n1 : w64 (left - x.name.length) < 0
  · simp only [go_sem, Nat.reduceAdd, Nat.reduceSub, Nat.reduceMul, Nat.reduceEqDiff, Nat.reduceLeDiff, Nat.reduceBEq, reduceCtorEq, A.laws_szFile, n1]; exact ⟨_, rfl⟩
  by_cases n2 : w64 ((w64 (left - x.name.length)) - x.text.length) < 0
  · simp only [go_sem, Nat.reduceAdd, Nat.reduceSub, Nat.reduceMul, Nat.reduceEqDiff, Nat.reduceLeDiff, Nat.reduceBEq, reduceCtorEq, A.laws_szFile, n1, n2]; exact ⟨_, rfl⟩
  simp only [go_sem, Nat.reduceAdd, Nat.reduceSub, Nat.reduceMul, Nat.reduceEqDiff, Nat.reduceLeDiff, Nat.reduceBEq, reduceCtorEq, A.laws_szFile, n1, n2]; exact ⟨_, rfl⟩
theorem toFile_ok (x : Fl) (hw : wFl x) (v : V) (h : bFl x v) : cr progA F.laws_toFile [v] = some (oFl x) := by
  obtain rfl := h
  rw [cr_fn pA_laws_toFile rfl, oFl]
  simp only [go_sem, Nat.reduceAdd, Nat.reduceSub, Nat.reduceMul, Nat.reduceEqDiff, Nat.reduceLeDiff, Nat.reduceBEq, reduceCtorEq, A.laws_toFile]
theorem eqFile_ok (x : Fl) (hw : wFl x) (y : Fl) (v v' : V) (h : bFl x v) (h' : bFl y v') : cr progA F.laws_eqFile [v, v'] = some (B (decide (x = y))) := by
  obtain rfl := h
  obtain rfl := h'
  rw [cr_fn pA_laws_eqFile rfl]
  by_cases c0 : x.name = y.name
  case neg =>
    have d0 : decide (x.name = y.name) = false := decide_eq_false c0
    have hf : decide (x = y) = false := decide_eq_false fun h => c0 (by rw [h])
    simp only [go_sem, Nat.reduceAdd, Nat.reduceSub, Nat.reduceMul, Nat.reduceEqDiff, Nat.reduceLeDiff, Nat.reduceBEq, reduceCtorEq, A.laws_eqFile, d0, hf]
  have d0 : decide (x.name = y.name) = true := decide_eq_true c0
  by_cases c1 : x.text = y.text
  case neg =>
    have d1 : decide (x.text = y.text) = false := decide_eq_false c1
    have hf : decide (x = y) = false := decide_eq_false fun h => c1 (by rw [h])
    simp only [go_sem, Nat.reduceAdd, Nat.reduceSub, Nat.reduceMul, Nat.reduceEqDiff, Nat.reduceLeDiff, Nat.reduceBEq, reduceCtorEq, A.laws_eqFile, d0, d1, hf]
  have d1 : decide (x.text = y.text) = true := decide_eq_true c1
  have hf : decide (x = y) = true := decide_eq_true (by cases x; cases y; simp only at c0 c1; simp only [Fl.mk.injEq]; exact ⟨c0, c1⟩)
  simp only [go_sem, Nat.reduceAdd, Nat.reduceSub, Nat.reduceMul, Nat.reduceEqDiff, Nat.reduceLeDiff, Nat.reduceBEq, reduceCtorEq, A.laws_eqFile, d0, d1, hf]
theorem szFileS_ok (τ : Bool) (vs : List V) (ts : List Fl) (hv : RL bFl ts vs) (hw : ts.length ≤ Lm) (hw' : ∀ t ∈ ts, wFl t) (left : Int) : ∃ m, cr progA F.laws_szFileS [.i τ vs, I left] = some (I m) :=
  szS_ok (prog := progA) F.laws_szFileS F.laws_szFile 2 rfl Fl_flat τ vs ts hv hw (fun t ht v left h => szFile_ok t (hw' t ht) v left h) left
theorem eqFileS_ok (τ τ' : Bool) (vs vs' : List V) (ts ts' : List Fl) (hv : RL bFl ts vs) (hv' : RL bFl ts' vs') (hw : ts.length ≤ Lm) (hw' : ∀ t ∈ ts, wFl t) :
    cr progA F.laws_eqFileS [.i τ vs, .i τ' vs'] = some (B (decide (ts = ts'))) := by
  have := eqS_ok (prog := progA) F.laws_eqFileS F.laws_eqFile 2 rfl Fl_flat τ τ' vs vs' ts ts' hv hv' hw (fun t ht t' v v' h h' => by rw [eqFile_ok t (hw' t ht) t' v v' h h'])
  rw [this]
theorem toFileS_loop (τ : Bool) (vs : List V) (ts : List Fl) (n : Nat) (hl : ts.length = n) (hv : RL bFl ts vs) (hlim : n ≤ Lm)
    (hc : ∀ t ∈ ts, ∀ v, bFl t v → cr progA F.laws_toFile [v] = some (oFl t)) (m : Nat) : ∀ i, i + m = n →
    ∃ a b c e', lw progA L.laws_toFileS_0 ⟨[(0, .i τ vs), (3, .s (7, 0) 0 n), (4, I i)], [((7, 0), 2, (ts.take i).map oFl ++ List.replicate m (V.a [S [], S []]))]⟩ =
      some (.exit 0, ⟨[(11, a), (10, b), (9, c), (8, e'), (0, .i τ vs), (3, .s (7, 0) 0 n), (4, I n)], [((7, 0), 2, ts.map oFl)]⟩) := by
  unfold Lm at hlim
  have hn := RL_length hv
  rw [hl] at hn
  induction m with
  | zero =>
    intro i hi
    obtain rfl : i = n := by omega
    rw [lw_eq]
    have h1 : ¬ (i : Int) < (i : Int) := by omega
    have h2 : (ts.take i).map oFl ++ List.replicate 0 (V.a [S [], S []]) = ts.map oFl := by simp [List.take_of_length_le (Nat.le_of_eq hl)]
    rw [h2]
    simp only [go_sem, Nat.reduceAdd, Nat.reduceSub, Nat.reduceMul, Nat.reduceEqDiff, Nat.reduceLeDiff, Nat.reduceBEq, reduceCtorEq, LB.laws_toFileS_0, hn, h1]
    exact ⟨_, _, _, _, rfl⟩
  | succ m ih =>
    intro i hi
    rw [lw_eq]
    have hlt : (i : Int) < (n : Int) := by omega
    obtain ⟨t, ht⟩ := get_some' (l := ts) (i := i) (by omega)
    obtain ⟨v, g, hb⟩ := RL_get hv ht
    have hcc := hc t (List.mem_of_getElem? ht) v hb
    have a1 := addr_i (τ := τ) (T := [((7, 0), 2, (ts.take i).map oFl ++ List.replicate (m + 1) (V.a [S [], S []]))]) g (Fl_flat _ _ hb).cells
    have e1 : w64 ((i : Int) + 1) = ((i + 1 : Nat) : Int) := by rw [w64_id] <;> omega
    have r1 := row_len (f := oFl) (z := V.a [S [], S []]) ts i (m + 1) n hi hl
    have r2 := row_get (f := oFl) (z := V.a [S [], S []]) ts i m (by omega)
    have r3 := fun x => row_set (f := oFl) (z := V.a [S [], S []]) (x := x) ts i m (by omega)
    have r4 := row_next (f := oFl) ht (List.replicate m (V.a [S [], S []]))
    have i1 := ih (i + 1) (by omega)
    obtain rfl := hb
    rw [oFl] at hcc r4
    have kl : ∀ d, killL d ((ts.take i).map oFl ++ List.replicate (m + 1) (V.a [S [], S []])) = (ts.take i).map oFl ++ List.replicate (m + 1) (V.a [S [], S []]) := fun d => by
      rw [killL_app, killL_mFl, killL_rep]; rfl
    have ix := ixO_some (k := (7, 0)) (e := 2) (xs := (ts.take i).map oFl ++ List.replicate (m + 1) (V.a [S [], S []])) (i := i) (len := n) (by omega) (by omega)
    have rp := fun k ob (y : V) (ys : List V) => repEs_app k ob ((ts.take i).map oFl) (y :: ys) (clEs_mFl _)
    simp only [go_sem, Nat.reduceAdd, Nat.reduceSub, Nat.reduceMul, Nat.reduceEqDiff, Nat.reduceLeDiff, Nat.reduceBEq, reduceCtorEq, LB.laws_toFileS_0, hn, hlt, a1, g, hcc, e1, kl, ix, r1, r2, r3, rp, Option.map_some, r4]
    exact i1
theorem toFileS_ok (τ : Bool) (vs : List V) (ts : List Fl) (hv : RL bFl ts vs) (hlim : ts.length ≤ Lm) (hw' : ∀ t ∈ ts, wFl t) : cr progA F.laws_toFileS [.i τ vs] = some (.o 2 (ts.map oFl)) := by
  rw [cr_fn pA_laws_toFileS rfl]
  obtain ⟨a, b, c, e', h⟩ := toFileS_loop τ vs ts ts.length rfl hv hlim (fun t ht v h => toFile_ok t (hw' t ht) v h) ts.length 0 (by omega)
  simp only [Int.natCast_zero, List.take_zero, List.map_nil, List.nil_append] at h
  unfold Lm at hlim
  have mk := fun σ T => mkK_nat (σ := σ) (T := T) (e := 2) (bytes := 32) (z := V.a [S [], S []]) (n := ts.length) (d := 7) (by rw [lim_val]; omega) (by rw [lim_val]; omega) rfl rfl rfl
  simp only [go_sem, Nat.reduceAdd, Nat.reduceSub, Nat.reduceMul, Nat.reduceEqDiff, Nat.reduceLeDiff, Nat.reduceBEq, reduceCtorEq, A.laws_toFileS, RL_length hv, mk, h]
theorem szSession_ok (x : Se) (hw : wSe x) (v : V) (left : Int) (h : bSe x v) : ∃ m, cr progA F.laws_szSession [v, I left] = some (I m) := by
  obtain ⟨τ0, vs0, τ1, vs1, τ2, τ3, rfl, h0, h1⟩ := h
  rw [cr_fn pA_laws_szSession rfl]
  obtain ⟨m1, e1⟩ := szFileS_ok τ0 vs0 x.files h0 (hw.1).1 (hw.1).2 left
  by_cases n1 : m1 < 0
  · simp only [go_sem, Nat.reduceAdd, Nat.reduceSub, Nat.reduceMul, Nat.reduceEqDiff, Nat.reduceLeDiff, Nat.reduceBEq, reduceCtorEq, A.laws_szSession, e1, n1]; exact ⟨_, rfl⟩
  obtain ⟨m2, e2⟩ := szDb_ok x.db (hw.2.1) _ m1 ⟨τ1, vs1, τ2, rfl, h1⟩
  by_cases n2 : m2 < 0
  · simp only [go_sem, Nat.reduceAdd, Nat.reduceSub, Nat.reduceMul, Nat.reduceEqDiff, Nat.reduceLeDiff, Nat.reduceBEq, reduceCtorEq, A.laws_szSession, e1, n1, e2, n2]; exact ⟨_, rfl⟩
  obtain ⟨m3, e3⟩ := szStringS_ok τ3 x.lines (hw.2.2.1).1 m2
  by_cases n3 : m3 < 0
  · simp only [go_sem, Nat.reduceAdd, Nat.reduceSub, Nat.reduceMul, Nat.reduceEqDiff, Nat.reduceLeDiff, Nat.reduceBEq, reduceCtorEq, A.laws_szSession, e1, n1, e2, n2, e3, n3]; exact ⟨_, rfl⟩
  by_cases n4 : w64 (m3 - x.out.length) < 0
  · simp only [go_sem, Nat.reduceAdd, Nat.reduceSub, Nat.reduceMul, Nat.reduceEqDiff, Nat.reduceLeDiff, Nat.reduceBEq, reduceCtorEq, A.laws_szSession, e1, n1, e2, n2, e3, n3, n4]; exact ⟨_, rfl⟩
  simp only [go_sem, Nat.reduceAdd, Nat.reduceSub, Nat.reduceMul, Nat.reduceEqDiff, Nat.reduceLeDiff, Nat.reduceBEq, reduceCtorEq, A.laws_szSession, e1, n1, e2, n2, e3, n3, n4]; exact ⟨_, rfl⟩
theorem toSession_ok (x : Se) (hw : wSe x) (v : V) (h : bSe x v) : cr progA F.laws_toSession [v] = some (oSe x) := by
  obtain ⟨τ0, vs0, τ1, vs1, τ2, τ3, rfl, h0, h1⟩ := h
  have e1 := toFileS_ok τ0 vs0 x.files h0 (hw.1).1 (hw.1).2
  have e2 := toDb_ok x.db (hw.2.1) _ ⟨τ1, vs1, τ2, rfl, h1⟩
  rw [oDb] at e2
  have e3 := toStringS_ok τ3 x.lines (hw.2.2.1).1
  rw [cr_fn pA_laws_toSession rfl, oSe]
  simp only [go_sem, Nat.reduceAdd, Nat.reduceSub, Nat.reduceMul, Nat.reduceEqDiff, Nat.reduceLeDiff, Nat.reduceBEq, reduceCtorEq, A.laws_toSession, e1, e2, e3]
theorem eqSession_ok (x : Se) (hw : wSe x) (y : Se) (v v' : V) (h : bSe x v) (h' : bSe y v') : cr progA F.laws_eqSession [v, v'] = some (B (decide (x = y))) := by
  obtain ⟨τ0, vs0, τ1, vs1, τ2, τ3, rfl, h0, h1⟩ := h
  obtain ⟨τ0', vs0', τ1', vs1', τ2', τ3', rfl, h0', h1'⟩ := h'
  have e1 := eqFileS_ok τ0 τ0' vs0 vs0' x.files y.files h0 h0' (hw.1).1 (hw.1).2
  have e2 := eqDb_ok x.db (hw.2.1) y.db _ _ ⟨τ1, vs1, τ2, rfl, h1⟩ ⟨τ1', vs1', τ2', rfl, h1'⟩
  have e3 := eqStringS_ok τ3 τ3' x.lines y.lines (hw.2.2.1).1
  rw [cr_fn pA_laws_eqSession rfl]
  by_cases c0 : x.files = y.files
  case neg =>
    have d0 : decide (x.files = y.files) = false := decide_eq_false c0
    have hf : decide (x = y) = false := decide_eq_false fun h => c0 (by rw [h])
    simp only [go_sem, Nat.reduceAdd, Nat.reduceSub, Nat.reduceMul, Nat.reduceEqDiff, Nat.reduceLeDiff, Nat.reduceBEq, reduceCtorEq, A.laws_eqSession, e1, e2, e3, d0, hf]
  have d0 : decide (x.files = y.files) = true := decide_eq_true c0
  by_cases c1 : x.db = y.db
  case neg =>
    have d1 : decide (x.db = y.db) = false := decide_eq_false c1
    have hf : decide (x = y) = false := decide_eq_false fun h => c1 (by rw [h])
    simp only [go_sem, Nat.reduceAdd, Nat.reduceSub, Nat.reduceMul, Nat.reduceEqDiff, Nat.reduceLeDiff, Nat.reduceBEq, reduceCtorEq, A.laws_eqSession, e1, e2, e3, d0, d1, hf]
  have d1 : decide (x.db = y.db) = true := decide_eq_true c1
  by_cases c2 : x.lines = y.lines
  case neg =>
    have d2 : decide (x.lines = y.lines) = false := decide_eq_false c2
    have hf : decide (x = y) = false := decide_eq_false fun h => c2 (by rw [h])
    simp only [go_sem, Nat.reduceAdd, Nat.reduceSub, Nat.reduceMul, Nat.reduceEqDiff, Nat.reduceLeDiff, Nat.reduceBEq, reduceCtorEq, A.laws_eqSession, e1, e2, e3, d0, d1, d2, hf]
  have d2 : decide (x.lines = y.lines) = true := decide_eq_true c2
  by_cases c3 : x.out = y.out
  case neg =>
    have d3 : decide (x.out = y.out) = false := decide_eq_false c3
    have hf : decide (x = y) = false := decide_eq_false fun h => c3 (by rw [h])
    simp only [go_sem, Nat.reduceAdd, Nat.reduceSub, Nat.reduceMul, Nat.reduceEqDiff, Nat.reduceLeDiff, Nat.reduceBEq, reduceCtorEq, A.laws_eqSession, e1, e2, e3, d0, d1, d2, d3, hf]
  have d3 : decide (x.out = y.out) = true := decide_eq_true c3
  have hf : decide (x = y) = true := decide_eq_true (by cases x; cases y; simp only at c0 c1 c2 c3; simp only [Se.mk.injEq]; exact ⟨c0, c1, c2, c3⟩)
  simp only [go_sem, Nat.reduceAdd, Nat.reduceSub, Nat.reduceMul, Nat.reduceEqDiff, Nat.reduceLeDiff, Nat.reduceBEq, reduceCtorEq, A.laws_eqSession, e1, e2, e3, d0, d1, d2, d3, hf]
end Go.Vm
