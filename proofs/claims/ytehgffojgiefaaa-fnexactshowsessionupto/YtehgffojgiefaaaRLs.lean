import Derived.Test.YtehgffojgiefaaaRGS
import Derived.Test.YtehgffojgiefaaaRAf
import Derived.Test.YtehgffojgiefaaaRTy
set_option autoImplicit false
set_option maxRecDepth 100000
set_option linter.unusedSimpArgs false
set_option linter.unusedVariables false
namespace Go.Vm
theorem getmap {α : Type} {f : α → V} {l : List α} {i : Nat} {x : α} (h : l[i]? = some x) : (l.map f)[i]? = some (f x) := by simp [h]
theorem szStringS_loop (τ : Bool) (ss : List Str) (n : Nat) (hn : ss.length = n) (hlim : n ≤ Lm) (m : Nat) : ∀ i left, i + m = n →
    (∃ a b c e' r, lw progA L.laws_szStringS_0 ⟨[(0, .i τ (ss.map S)), (1, I left), (5, I i)], []⟩ = some (.exit 0, ⟨[(15, a), (14, b), (13, c), (12, e'), (0, .i τ (ss.map S)), (1, I r), (5, I n)], []⟩)) ∨
    (∃ st, lw progA L.laws_szStringS_0 ⟨[(0, .i τ (ss.map S)), (1, I left), (5, I i)], []⟩ = some (.ret, st) ∧ getS st.σ 4 = some (I (-1))) := by
  unfold Lm at hlim
  induction m with
  | zero =>
    intro i left hi
    obtain rfl : i = n := by omega
    rw [lw_eq]
    have h1 : ¬ (i : Int) < (i : Int) := by omega
    simp only [go_sem, Nat.reduceAdd, Nat.reduceSub, Nat.reduceMul, Nat.reduceEqDiff, Nat.reduceLeDiff, Nat.reduceBEq, reduceCtorEq, LB.laws_szStringS_0, hn, h1]
    exact .inl ⟨_, _, _, _, _, rfl⟩
  | succ m ih =>
    intro i left hi
    rw [lw_eq]
    have hlt : (i : Int) < (n : Int) := by omega
    obtain ⟨t, ht⟩ := get_some' (l := ss) (i := i) (by omega)
    have g := getmap (f := S) ht
    have a1 := addr_i (τ := τ) (T := []) (e := 1) g rfl
    have e1 : w64 ((i : Int) + 1) = ((i + 1 : Nat) : Int) := by rw [w64_id] <;> omega
    have i1 := ih (i + 1) (w64 (left - t.length)) (by omega)
    by_cases hneg : w64 (left - t.length) < 0
    · simp only [go_sem, Nat.reduceAdd, Nat.reduceSub, Nat.reduceMul, Nat.reduceEqDiff, Nat.reduceLeDiff, Nat.reduceBEq, reduceCtorEq, LB.laws_szStringS_0, hn, hlt, a1, g, e1, hneg]
      exact .inr ⟨_, rfl, rfl⟩
    · simp only [go_sem, Nat.reduceAdd, Nat.reduceSub, Nat.reduceMul, Nat.reduceEqDiff, Nat.reduceLeDiff, Nat.reduceBEq, reduceCtorEq, LB.laws_szStringS_0, hn, hlt, a1, g, e1, hneg]
      exact i1
theorem szStringS_ok (τ : Bool) (ss : List Str) (hw : ss.length ≤ Lm) (left : Int) : ∃ m, cr progA F.laws_szStringS [.i τ (ss.map S), I left] = some (I m) := by
  rw [cr_fn pA_laws_szStringS rfl]
  by_cases hneg : w64 (left - ss.length) < 0
  · simp only [go_sem, Nat.reduceAdd, Nat.reduceSub, Nat.reduceMul, Nat.reduceEqDiff, Nat.reduceLeDiff, Nat.reduceBEq, reduceCtorEq, A.laws_szStringS, hneg]
    exact ⟨_, rfl⟩
  · rcases szStringS_loop τ ss ss.length rfl hw ss.length 0 (w64 (left - ss.length)) (by omega) with ⟨a, b, c, e', r, h⟩ | ⟨st, h, hr⟩
    · simp only [Int.natCast_zero] at h
      simp only [go_sem, Nat.reduceAdd, Nat.reduceSub, Nat.reduceMul, Nat.reduceEqDiff, Nat.reduceLeDiff, Nat.reduceBEq, reduceCtorEq, A.laws_szStringS, hneg, h]
      exact ⟨_, rfl⟩
    · simp only [Int.natCast_zero] at h
      simp only [go_sem, Nat.reduceAdd, Nat.reduceSub, Nat.reduceMul, Nat.reduceEqDiff, Nat.reduceLeDiff, Nat.reduceBEq, reduceCtorEq, A.laws_szStringS, hneg, h, hr]
      exact ⟨_, rfl⟩
theorem toStringS_loop (τ : Bool) (ts : List Str) (n : Nat) (hl : ts.length = n) (hlim : n ≤ Lm) (m : Nat) : ∀ i, i + m = n →
    ∃ a b c e', lw progA L.laws_toStringS_0 ⟨[(0, .i τ (ts.map S)), (3, .s (7, 0) 0 n), (4, I i)], [((7, 0), 1, (ts.take i).map S ++ List.replicate m (S []))]⟩ =
      some (.exit 0, ⟨[(11, a), (10, b), (9, c), (8, e'), (0, .i τ (ts.map S)), (3, .s (7, 0) 0 n), (4, I n)], [((7, 0), 1, ts.map S)]⟩) := by
  unfold Lm at hlim
  induction m with
  | zero =>
    intro i hi
    obtain rfl : i = n := by omega
    rw [lw_eq]
    have h1 : ¬ (i : Int) < (i : Int) := by omega
    have h2 : (ts.take i).map S ++ List.replicate 0 (S []) = ts.map S := by simp [List.take_of_length_le (Nat.le_of_eq hl)]
    rw [h2]
    simp only [go_sem, Nat.reduceAdd, Nat.reduceSub, Nat.reduceMul, Nat.reduceEqDiff, Nat.reduceLeDiff, Nat.reduceBEq, reduceCtorEq, LB.laws_toStringS_0, hl, h1]
    exact ⟨_, _, _, _, rfl⟩
  | succ m ih =>
    intro i hi
    rw [lw_eq]
    have hlt : (i : Int) < (n : Int) := by omega
    obtain ⟨t, ht⟩ := get_some' (l := ts) (i := i) (by omega)
    have g := getmap (f := S) ht
    have a1 := addr_i (τ := τ) (e := 1) (T := [((7, 0), 1, (ts.take i).map S ++ List.replicate (m + 1) (S []))]) g rfl
    have e1 : w64 ((i : Int) + 1) = ((i + 1 : Nat) : Int) := by rw [w64_id] <;> omega
    have r1 := row_len (f := S) (z := S []) ts i (m + 1) n hi hl
    have r2 := row_get (f := S) (z := S []) ts i m (by omega)
    have r3 := fun x => row_set (f := S) (z := S []) (x := x) ts i m (by omega)
    have r4 := row_next (f := S) ht (List.replicate m (S []))
    have i1 := ih (i + 1) (by omega)
    have kl : ∀ d, killL d ((ts.take i).map S ++ List.replicate (m + 1) (S [])) = (ts.take i).map S ++ List.replicate (m + 1) (S []) := fun d => by
      rw [killL_app, killL_S, killL_rep]; rfl
    have ix := ixO_some (k := (7, 0)) (e := 1) (xs := (ts.take i).map S ++ List.replicate (m + 1) (S [])) (i := i) (len := n) (by omega) (by omega)
    simp only [go_sem, Nat.reduceAdd, Nat.reduceSub, Nat.reduceMul, Nat.reduceEqDiff, Nat.reduceLeDiff, Nat.reduceBEq, reduceCtorEq, LB.laws_toStringS_0, hl, hlt, a1, g, e1, kl, ix, r1, r2, r3, Option.map_some, r4]
    exact i1
theorem toStringS_ok (τ : Bool) (ts : List Str) (hlim : ts.length ≤ Lm) : cr progA F.laws_toStringS [.i τ (ts.map S)] = some (.o 1 (ts.map S)) := by
  rw [cr_fn pA_laws_toStringS rfl]
  obtain ⟨a, b, c, e', h⟩ := toStringS_loop τ ts ts.length rfl hlim ts.length 0 (by omega)
  simp only [Int.natCast_zero, List.take_zero, List.map_nil, List.nil_append] at h
  unfold Lm at hlim
  have mk := fun σ T => mkK_nat (σ := σ) (T := T) (e := 1) (bytes := 16) (z := S []) (n := ts.length) (d := 7) (by rw [lim_val]; omega) (by rw [lim_val]; omega) rfl rfl rfl
  simp only [go_sem, Nat.reduceAdd, Nat.reduceSub, Nat.reduceMul, Nat.reduceEqDiff, Nat.reduceLeDiff, Nat.reduceBEq, reduceCtorEq, A.laws_toStringS, mk, h]
theorem eqStringS_loop (τ τ' : Bool) (ts ts' : List Str) (n : Nat) (hl : ts.length = n) (hl' : ts'.length = n) (hlim : n ≤ Lm) (m : Nat) : ∀ i, i + m = n →
    (ts.drop i = ts'.drop i → ∃ a b c e', lw progA L.laws_eqStringS_0 ⟨[(0, .i τ (ts.map S)), (1, .i τ' (ts'.map S)), (5, I i)], []⟩ = some (.exit 0, ⟨[(14, a), (13, b), (12, c), (11, e'), (0, .i τ (ts.map S)), (1, .i τ' (ts'.map S)), (5, I n)], []⟩)) ∧
    (ts.drop i ≠ ts'.drop i → ∃ st, lw progA L.laws_eqStringS_0 ⟨[(0, .i τ (ts.map S)), (1, .i τ' (ts'.map S)), (5, I i)], []⟩ = some (.ret, st) ∧ getS st.σ 4 = some (B false)) := by
  unfold Lm at hlim
  induction m with
  | zero =>
    intro i hi
    obtain rfl : i = n := by omega
    rw [lw_eq]
    have h1 : ¬ (i : Int) < (i : Int) := by omega
    rw [List.drop_eq_nil_of_le (by omega), List.drop_eq_nil_of_le (by omega)]
    simp only [go_sem, Nat.reduceAdd, Nat.reduceSub, Nat.reduceMul, Nat.reduceEqDiff, Nat.reduceLeDiff, Nat.reduceBEq, reduceCtorEq, LB.laws_eqStringS_0, hl, h1]
    refine ⟨fun _ => ⟨_, _, _, _, rfl⟩, fun h => h.elim⟩
  | succ m ih =>
    intro i hi
    rw [lw_eq]
    have hlt : (i : Int) < (n : Int) := by omega
    obtain ⟨t, ht⟩ := get_some' (l := ts) (i := i) (by omega)
    obtain ⟨t', ht'⟩ := get_some' (l := ts') (i := i) (by omega)
    have g := getmap (f := S) ht
    have g' := getmap (f := S) ht'
    have a1 := addr_i (τ := τ) (T := []) (e := 1) g rfl
    have a2 := addr_i (τ := τ') (T := []) (e := 1) g' rfl
    have e1 : w64 ((i : Int) + 1) = ((i + 1 : Nat) : Int) := by rw [w64_id] <;> omega
    obtain ⟨i1, i2⟩ := ih (i + 1) (by omega)
    rw [drop_cons' ht, drop_cons' ht']
    simp only [go_sem, Nat.reduceAdd, Nat.reduceSub, Nat.reduceMul, Nat.reduceEqDiff, Nat.reduceLeDiff, Nat.reduceBEq, reduceCtorEq, LB.laws_eqStringS_0, hl, hlt, a1, a2, g, g', e1]
    by_cases he : t = t'
    · subst he
      simp only [decide_true, Bool.true_eq_false, if_false, if_true, List.cons.injEq, true_and]
      exact ⟨i1, i2⟩
    · simp only [he, decide_false, if_true, if_false, List.cons.injEq, false_and, false_implies, true_and]
      exact fun _ => ⟨_, rfl, rfl⟩
theorem eqStringS_ok (τ τ' : Bool) (ts ts' : List Str) (hw : ts.length ≤ Lm) :
    cr progA F.laws_eqStringS [.i τ (ts.map S), .i τ' (ts'.map S)] = some (B (decide (ts = ts'))) := by
  rw [cr_fn pA_laws_eqStringS rfl]
  by_cases hl : ts'.length = ts.length
  · obtain ⟨h1, h2⟩ := eqStringS_loop τ τ' ts ts' ts.length rfl hl hw ts.length 0 (by omega)
    simp only [List.drop_zero, Int.natCast_zero] at h1 h2
    by_cases he : ts = ts'
    · obtain ⟨a, b, c, e, h⟩ := h1 he
      subst he
      simp only [go_sem, Nat.reduceAdd, Nat.reduceSub, Nat.reduceMul, Nat.reduceEqDiff, Nat.reduceLeDiff, Nat.reduceBEq, reduceCtorEq, A.laws_eqStringS, h]
    · obtain ⟨st, h, hr⟩ := h2 he
      simp only [go_sem, Nat.reduceAdd, Nat.reduceSub, Nat.reduceMul, Nat.reduceEqDiff, Nat.reduceLeDiff, Nat.reduceBEq, reduceCtorEq, A.laws_eqStringS, hl, h, hr, he]
  · have he : ¬ ts = ts' := fun h => hl (by rw [h])
    have hne : ¬ (ts.length : Int) = ts'.length := by omega
    simp only [go_sem, Nat.reduceAdd, Nat.reduceSub, Nat.reduceMul, Nat.reduceEqDiff, Nat.reduceLeDiff, Nat.reduceBEq, reduceCtorEq, A.laws_eqStringS, hne, he]
/-- terms -/
theorem termS_dummy : True := trivial
end Go.Vm
