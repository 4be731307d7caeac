import Derived.Test.YtehgffojgiefaaaRGS
import Derived.Test.YtehgffojgiefaaaRAf
set_option autoImplicit false
set_option maxRecDepth 100000
set_option linter.unusedSimpArgs false
set_option linter.unusedVariables false
namespace Go.Vm
theorem toTermS_loop (τ : Bool) (vs : List V) (ts : List Tm) (n : Nat) (hl : ts.length = n) (hv : RL BT ts vs) (hlim : n ≤ Lm)
    (hc : ∀ t ∈ ts, ∀ v, BT t v → cr progA F.laws_toTerm [v] = some (oT t)) (m : Nat) : ∀ i, i + m = n →
    ∃ a b c e', lw progA L.laws_toTermS_0 ⟨[(0, .i τ vs), (3, .s (7, 0) 0 n), (4, I i)], [((7, 0), 4, (ts.take i).map oT ++ List.replicate m (.a [I 0, S [], I 0, .n 4]))]⟩ =
      some (.exit 0, ⟨[(11, a), (10, b), (9, c), (8, e'), (0, .i τ vs), (3, .s (7, 0) 0 n), (4, I n)], [((7, 0), 4, ts.map oT)]⟩) := by
  unfold Lm at hlim
  have hn := RL_length hv
  rw [hl] at hn
  induction m with
  | zero =>
    intro i hi
    obtain rfl : i = n := by omega
    rw [lw_eq]
    have h1 : ¬ (i : Int) < (i : Int) := by omega
    have h2 : (ts.take i).map oT ++ List.replicate 0 (V.a [I 0, S [], I 0, .n 4]) = ts.map oT := by simp [List.take_of_length_le (Nat.le_of_eq hl)]
    rw [h2]
    simp only [go_sem, Nat.reduceAdd, Nat.reduceSub, Nat.reduceMul, Nat.reduceEqDiff, Nat.reduceLeDiff, Nat.reduceBEq, reduceCtorEq, LB.laws_toTermS_0, hn, h1]
    exact ⟨_, _, _, _, rfl⟩
  | succ m ih =>
    intro i hi
    rw [lw_eq]
    have hlt : (i : Int) < (n : Int) := by omega
    obtain ⟨t, ht⟩ := get_some' (l := ts) (i := i) (by omega)
    obtain ⟨v, g, hb⟩ := RL_get hv ht
    have hcc := hc t (List.mem_of_getElem? ht) v hb
    have a1 := addr_i (τ := τ) (T := [((7, 0), 4, (ts.take i).map oT ++ List.replicate (m + 1) (V.a [I 0, S [], I 0, .n 4]))]) g (BT_cells hb)
    have e1 : w64 ((i : Int) + 1) = ((i + 1 : Nat) : Int) := by rw [w64_id] <;> omega
    have r1 := row_len (f := oT) (z := V.a [I 0, S [], I 0, .n 4]) ts i (m + 1) n hi hl
    have r2 := row_get (f := oT) (z := V.a [I 0, S [], I 0, .n 4]) ts i m (by omega)
    have r3 := fun x => row_set (f := oT) (z := V.a [I 0, S [], I 0, .n 4]) (x := x) ts i m (by omega)
    have r4 := row_next (f := oT) ht (List.replicate m (V.a [I 0, S [], I 0, .n 4]))
    have i1 := ih (i + 1) (by omega)
    obtain ⟨σ1, ks, rfl, -⟩ := BT_shape hb
    rw [oT_mk] at hcc r4
    have kl : ∀ d, killL d ((ts.take i).map oT ++ List.replicate (m + 1) (V.a [I 0, S [], I 0, .n 4])) = (ts.take i).map oT ++ List.replicate (m + 1) (V.a [I 0, S [], I 0, .n 4]) := fun d => by
      rw [killL_app, killL_mT, killL_rep]; rfl
    have ix := ixO_some (k := (7, 0)) (e := 4) (xs := (ts.take i).map oT ++ List.replicate (m + 1) (V.a [I 0, S [], I 0, .n 4])) (i := i) (len := n) (by omega) (by omega)
    have rp := fun k ob (y : V) (ys : List V) => repEs_app k ob ((ts.take i).map oT) (y :: ys) (clEs_mT _)
    simp only [go_sem, Nat.reduceAdd, Nat.reduceSub, Nat.reduceMul, Nat.reduceEqDiff, Nat.reduceLeDiff, Nat.reduceBEq, reduceCtorEq, LB.laws_toTermS_0, hn, hlt, a1, g, hcc, e1, kl, ix, r1, r2, r3, rp, Option.map_some, r4]
    exact i1
theorem toTermS_of (τ : Bool) (vs : List V) (ts : List Tm) (hv : RL BT ts vs) (hlim : ts.length ≤ Lm)
    (hc : ∀ t ∈ ts, ∀ v, BT t v → cr progA F.laws_toTerm [v] = some (oT t)) : cr progA F.laws_toTermS [.i τ vs] = some (.o 4 (ts.map oT)) := by
  rw [cr_fn pA_laws_toTermS rfl]
  obtain ⟨a, b, c, e', h⟩ := toTermS_loop τ vs ts ts.length rfl hv hlim hc ts.length 0 (by omega)
  simp only [Int.natCast_zero, List.take_zero, List.map_nil, List.nil_append] at h
  unfold Lm at hlim
  have mk := fun σ T => mkK_nat (σ := σ) (T := T) (e := 4) (bytes := 56) (z := V.a [I 0, S [], I 0, .n 4]) (n := ts.length) (d := 7) (by rw [lim_val]; omega) (by rw [lim_val]; omega) rfl rfl rfl
  simp only [go_sem, Nat.reduceAdd, Nat.reduceSub, Nat.reduceMul, Nat.reduceEqDiff, Nat.reduceLeDiff, Nat.reduceBEq, reduceCtorEq, A.laws_toTermS, RL_length hv, mk, h]
theorem toTerm_ok : ∀ (t : Tm), WT t → ∀ v, BT t v → cr progA F.laws_toTerm [v] = some (oT t) := by
  refine Tm.ind ?_
  intro k s n ks ih hw v hb
  obtain ⟨τ, vs, rfl, hv⟩ := BT_shape hb
  have h := toTermS_of τ vs ks hv (WT_len hw) (fun t ht => ih t ht (WT_kids hw t ht))
  rw [cr_fn pA_laws_toTerm rfl, oT_mk]
  simp only [go_sem, Nat.reduceAdd, Nat.reduceSub, Nat.reduceMul, Nat.reduceEqDiff, Nat.reduceLeDiff, Nat.reduceBEq, reduceCtorEq, A.laws_toTerm, h]
theorem toTermS_ok (τ : Bool) (vs : List V) (ts : List Tm) (hv : RL BT ts vs) (hlim : ts.length ≤ Lm) (hw' : ∀ t ∈ ts, WT t) : cr progA F.laws_toTermS [.i τ vs] = some (.o 4 (ts.map oT)) :=
  toTermS_of τ vs ts hv hlim fun t ht v h => toTerm_ok t (hw' t ht) v h
end Go.Vm
