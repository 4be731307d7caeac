import Derived.Test.YtbbcakmmbnikjaaGreatDoorT06
import Derived.Test.YtbbcakmmbnikjaaGreatDoorT03
import Derived.Shelf.Strconv.Itoa3
import Derived.Shelf.Strings.OnBuilder
import Derived.Shelf.Small.Strs
import Derived.Test.YtbbcakmmbnikjaaGreatDoorProg
import Derived.KernelRfl

set_option autoImplicit false
set_option maxHeartbeats 8000000
set_option maxRecDepth 100000
set_option linter.unusedSimpArgs false
set_option linter.unusedVariables false
namespace Go.Vm
/-! ### what follows, line by line -/
def yes4 : Str := [121, 101, 115, 32]
def ansLine (t : Tm) : Str := yes4 ++ writeT false t
def endLine (x : Ou) : Str := if x.fin = 0 then [110, 111] else if x.fin = 1 then [115, 116, 111, 112] else if x.fin = 2 then [98, 97, 108, 108, 32] ++ writeT false x.ball else [109, 111, 114, 101]
def ouLines (x : Ou) : List Str := x.answers.map ansLine ++ [endLine x]
theorem impl_ouL_loop (x : Ou) (τ τ1 τ2 τ3 : Bool) (vs vs1 vs2 : List V) (hv : RL BT x.answers vs) (hlim : x.answers.length ≤ Lm) (hw : ∀ t ∈ x.answers, WT t) (m : Nat) :
    ∀ (i : Nat) (acc : List Str), i + m = x.answers.length → acc.length = i →
    lw progA L.impl_outcomeLines_0 ⟨[(1, .p (100000, 0) 0 0), (3, .s (100000, 1) 0 acc.length), (7, .i τ vs), (8, I x.answers.length), (9, I i)], [((100000, 0), 10, [.a [.i τ vs, I x.fin, I x.ball.kind, S x.ball.name, I x.ball.num, .i τ1 vs1, S x.out, .i τ2 vs2, .i τ3 (x.db.opn.map S), I x.steps]]), ((100000, 1), 1, acc.map S)]⟩ =
      some (.exit 0, ⟨[(1, .p (100000, 0) 0 0), (3, .s (100000, 1) 0 (acc.length + ((x.answers.drop i).map ansLine).length))], [((100000, 0), 10, [.a [.i τ vs, I x.fin, I x.ball.kind, S x.ball.name, I x.ball.num, .i τ1 vs1, S x.out, .i τ2 vs2, .i τ3 (x.db.opn.map S), I x.steps]]), ((100000, 1), 1, (acc ++ (x.answers.drop i).map ansLine).map S)]⟩) := by
  unfold Lm at hlim
  have hn := RL_length hv
  induction m with
  | zero =>
    intro i acc hi ha
    have h : ¬ (i : Int) < x.answers.length := by omega
    rw [List.drop_eq_nil_of_le (by omega), List.map_nil, List.append_nil, List.length_nil, Nat.add_zero, lw_eq]
    simp only [go_sem, Nat.reduceAdd, Nat.reduceSub, Nat.reduceMul, Nat.reduceEqDiff, Nat.reduceLeDiff, Nat.reduceBEq, reduceCtorEq, LB.impl_outcomeLines_0, hn, h]
  | succ m ih =>
    intro i acc hi ha
    have h : (i : Int) < x.answers.length := by omega
    obtain ⟨u, hu⟩ := get_some' (l := x.answers) (i := i) (by omega)
    have hm := List.mem_of_getElem? hu
    obtain ⟨v, gv, hbt⟩ := RL_get hv hu
    have a1 := fun T => addr_i (τ := τ) (T := T) gv (BT_cells hbt)
    have cc := impl_WriteTerm_ok u (hw u hm) v hbt
    have hl := writeT_len false u
    have e1 : w64 ((i : Int) + 1) = ((i + 1 : Nat) : Int) := by rw [w64_id] <;> omega
    have s1 : binV .add (S [121, 101, 115, 32]) (S (writeT false u)) = some (S (ansLine u)) := binS_add (by simp only [List.length_cons, List.length_nil]; omega)
    have l1 : decide ((acc.length + 1) * 16 ≤ lim) = true := decide_eq_true (by rw [lim_val]; omega)
    have l2 : decide (acc.length + 1 ≤ lim) = true := decide_eq_true (by rw [lim_val]; omega)
    have i1 := ih (i + 1) (acc ++ [ansLine u]) (by omega) (by simp only [List.length_append, List.length_cons, List.length_nil]; omega)
    have ea : acc.length + (((x.answers.drop (i + 1)).map ansLine).length + 1) = acc.length + 1 + ((x.answers.drop (i + 1)).map ansLine).length := by omega
    rw [List.append_assoc, List.singleton_append, List.length_append, List.length_cons, List.length_nil, Nat.zero_add] at i1
    rw [drop_cons' hu, List.map_cons, List.length_cons, ea]
    obtain ⟨σ1, ws, rfl, -⟩ := BT_shape hbt
    rw [lw_eq]
    simp only [go_sem, Nat.reduceAdd, Nat.reduceSub, Nat.reduceMul, Nat.reduceEqDiff, Nat.reduceLeDiff, Nat.reduceBEq, reduceCtorEq, LB.impl_outcomeLines_0, hn, h, a1, gv, cc, e1, s1, l1, l2, List.length_cons, List.length_nil]
    simp only [List.length_map] at i1 ⊢
    exact i1
theorem spec_ouL_loop (x : Ou) (τ τ1 τ2 τ3 : Bool) (vs vs1 vs2 : List V) (hv : RL BT x.answers vs) (hlim : x.answers.length ≤ Lm) (hw : ∀ t ∈ x.answers, WT t) (m : Nat) :
    ∀ (i : Nat) (acc : List Str), i + m = x.answers.length → acc.length = i →
    lw progA L.spec_l19Lines_0 ⟨[(1, .p (100000, 0) 0 0), (3, .s (100000, 1) 0 acc.length), (4, I i)], [((100000, 0), 10, [.a [.i τ vs, I x.fin, I x.ball.kind, S x.ball.name, I x.ball.num, .i τ1 vs1, S x.out, .i τ2 vs2, .i τ3 (x.db.opn.map S), I x.steps]]), ((100000, 1), 1, acc.map S)]⟩ =
      some (.exit 0, ⟨[(1, .p (100000, 0) 0 0), (3, .s (100000, 1) 0 (acc.length + ((x.answers.drop i).map ansLine).length))], [((100000, 0), 10, [.a [.i τ vs, I x.fin, I x.ball.kind, S x.ball.name, I x.ball.num, .i τ1 vs1, S x.out, .i τ2 vs2, .i τ3 (x.db.opn.map S), I x.steps]]), ((100000, 1), 1, (acc ++ (x.answers.drop i).map ansLine).map S)]⟩) := by
  unfold Lm at hlim
  have hn := RL_length hv
  induction m with
  | zero =>
    intro i acc hi ha
    have h : ¬ (i : Int) < x.answers.length := by omega
    rw [List.drop_eq_nil_of_le (by omega), List.map_nil, List.append_nil, List.length_nil, Nat.add_zero, lw_eq]
    simp only [go_sem, Nat.reduceAdd, Nat.reduceSub, Nat.reduceMul, Nat.reduceEqDiff, Nat.reduceLeDiff, Nat.reduceBEq, reduceCtorEq, LB.spec_l19Lines_0, hn, h]
  | succ m ih =>
    intro i acc hi ha
    have h : (i : Int) < x.answers.length := by omega
    obtain ⟨u, hu⟩ := get_some' (l := x.answers) (i := i) (by omega)
    have hm := List.mem_of_getElem? hu
    obtain ⟨v, gv, hbt⟩ := RL_get hv hu
    have a1 := fun T => addr_i (τ := τ) (T := T) gv (BT_cells hbt)
    have cc := spec_WriteTerm_ok u (hw u hm) v hbt
    have hl := writeT_len false u
    have e1 : w64 ((i : Int) + 1) = ((i + 1 : Nat) : Int) := by rw [w64_id] <;> omega
    have s1 : binV .add (S [121, 101, 115, 32]) (S (writeT false u)) = some (S (ansLine u)) := binS_add (by simp only [List.length_cons, List.length_nil]; omega)
    have l1 : decide ((acc.length + 1) * 16 ≤ lim) = true := decide_eq_true (by rw [lim_val]; omega)
    have l2 : decide (acc.length + 1 ≤ lim) = true := decide_eq_true (by rw [lim_val]; omega)
    have i1 := ih (i + 1) (acc ++ [ansLine u]) (by omega) (by simp only [List.length_append, List.length_cons, List.length_nil]; omega)
    have ea : acc.length + (((x.answers.drop (i + 1)).map ansLine).length + 1) = acc.length + 1 + ((x.answers.drop (i + 1)).map ansLine).length := by omega
    rw [List.append_assoc, List.singleton_append, List.length_append, List.length_cons, List.length_nil, Nat.zero_add] at i1
    rw [drop_cons' hu, List.map_cons, List.length_cons, ea]
    obtain ⟨σ1, ws, rfl, -⟩ := BT_shape hbt
    rw [lw_eq]
    simp only [go_sem, Nat.reduceAdd, Nat.reduceSub, Nat.reduceMul, Nat.reduceEqDiff, Nat.reduceLeDiff, Nat.reduceBEq, reduceCtorEq, LB.spec_l19Lines_0, hn, h, a1, gv, cc, e1, s1, l1, l2, List.length_cons, List.length_nil]
    simp only [List.length_map] at i1 ⊢
    exact i1
theorem ans_len (t : Tm) : (ansLine t).length ≤ 24004 := by
  have := writeT_len false t
  unfold ansLine yes4
  simp only [List.length_append, List.length_cons, List.length_nil]; omega
theorem end_len (x : Ou) : (endLine x).length ≤ 24005 := by
  have := writeT_len false x.ball
  unfold endLine
  split
  · simp
  split
  · simp
  split
  · simp only [List.length_append, List.length_cons, List.length_nil]; omega
  · simp
theorem ouLines_ok (x : Ou) (hw : wOu x) : (ouLines x).length ≤ 2 * Lm ∧ ∀ s ∈ ouLines x, s.length ≤ Lm := by
  have h1 := hw.1.1
  unfold Lm at h1 ⊢
  unfold ouLines
  refine ⟨by simp only [List.length_append, List.length_map, List.length_cons, List.length_nil]; omega, ?_⟩
  intro s hs
  rw [List.mem_append] at hs
  rcases hs with hs | hs
  · obtain ⟨t, -, rfl⟩ := List.mem_map.1 hs
    have := ans_len t; omega
  · obtain rfl := List.mem_singleton.1 hs
    have := end_len x; omega
theorem impl_outcomeLines_ok (x : Ou) (hw : wOu x) (v : V) (h : bOu x v) : cr progA F.impl_outcomeLines [v] = some (.o 1 ((ouLines x).map S)) := by
  obtain ⟨τ0, vs0, τ1, vs1, τ2, vs2, τ3, rfl, h0, h1, h2⟩ := h
  have hn := RL_length h0
  have hlim := hw.1.1
  have lp := impl_ouL_loop x τ0 τ1 τ2 τ3 vs0 vs1 vs2 h0 hlim (fun t ht => (hw.1.2 t ht).1) x.answers.length 0 [] (by omega) rfl
  simp only [List.drop_zero, List.length_nil, Nat.zero_add, List.map_nil, List.nil_append, Int.natCast_zero, List.length_map] at lp
  unfold Lm at hlim
  have wt := impl_WriteTerm_ok x.ball hw.2.2.1.1 _ (BT_of (τ := τ1) h1)
  have hwl := writeT_len false x.ball
  have s1 : binV .add (S [98, 97, 108, 108, 32]) (S (writeT false x.ball)) = _ := binS_add (by simp only [List.length_cons, List.length_nil]; omega)
  have l1 : decide ((x.answers.length + 1) * 16 ≤ lim) = true := decide_eq_true (by rw [lim_val]; omega)
  have l2 : decide (x.answers.length + 1 ≤ lim) = true := decide_eq_true (by rw [lim_val]; omega)
  rw [cr_fn pA_impl_outcomeLines rfl]
  have tk : ∀ e : Str, ((x.answers.map ansLine ++ [e]).map S).take (x.answers.length + 1) = (x.answers.map ansLine ++ [e]).map S := fun e => List.take_of_length_le (by simp)
  unfold ouLines endLine
  by_cases f0 : x.fin = 0
  · have d0 : decide (x.fin = 0) = true := decide_eq_true f0
    rw [if_pos f0]
    simp only [go_sem, Nat.reduceAdd, Nat.reduceSub, Nat.reduceMul, Nat.reduceEqDiff, Nat.reduceLeDiff, Nat.reduceBEq, reduceCtorEq, A.impl_outcomeLines, hn, lp, d0, l1, l2, List.length_cons, List.length_nil, tk]
  have d0 : decide (x.fin = 0) = false := decide_eq_false f0
  rw [if_neg f0]
  by_cases f1 : x.fin = 1
  · have d1 : decide (x.fin = 1) = true := decide_eq_true f1
    rw [if_pos f1]
    simp only [go_sem, Nat.reduceAdd, Nat.reduceSub, Nat.reduceMul, Nat.reduceEqDiff, Nat.reduceLeDiff, Nat.reduceBEq, reduceCtorEq, A.impl_outcomeLines, hn, lp, d0, d1, l1, l2, List.length_cons, List.length_nil, tk]
  have d1 : decide (x.fin = 1) = false := decide_eq_false f1
  rw [if_neg f1]
  by_cases f2 : x.fin = 2
  · have d2 : decide (x.fin = 2) = true := decide_eq_true f2
    rw [if_pos f2]
    simp only [go_sem, Nat.reduceAdd, Nat.reduceSub, Nat.reduceMul, Nat.reduceEqDiff, Nat.reduceLeDiff, Nat.reduceBEq, reduceCtorEq, A.impl_outcomeLines, hn, lp, d0, d1, d2, wt, s1, l1, l2, List.length_cons, List.length_nil, tk]
  have d2 : decide (x.fin = 2) = false := decide_eq_false f2
  rw [if_neg f2]
  simp only [go_sem, Nat.reduceAdd, Nat.reduceSub, Nat.reduceMul, Nat.reduceEqDiff, Nat.reduceLeDiff, Nat.reduceBEq, reduceCtorEq, A.impl_outcomeLines, hn, lp, d0, d1, d2, l1, l2, List.length_cons, List.length_nil, tk]
theorem spec_l19Lines_ok (x : Ou) (hw : wOu x) (v : V) (h : bOu x v) : cr progA F.spec_l19Lines [v] = some (.o 1 ((ouLines x).map S)) := by
  obtain ⟨τ0, vs0, τ1, vs1, τ2, vs2, τ3, rfl, h0, h1, h2⟩ := h
  have hn := RL_length h0
  have hlim := hw.1.1
  have lp := spec_ouL_loop x τ0 τ1 τ2 τ3 vs0 vs1 vs2 h0 hlim (fun t ht => (hw.1.2 t ht).1) x.answers.length 0 [] (by omega) rfl
  simp only [List.drop_zero, List.length_nil, Nat.zero_add, List.map_nil, List.nil_append, Int.natCast_zero, List.length_map] at lp
  unfold Lm at hlim
  have wt := spec_WriteTerm_ok x.ball hw.2.2.1.1 _ (BT_of (τ := τ1) h1)
  have hwl := writeT_len false x.ball
  have s1 : binV .add (S [98, 97, 108, 108, 32]) (S (writeT false x.ball)) = _ := binS_add (by simp only [List.length_cons, List.length_nil]; omega)
  have l1 : decide ((x.answers.length + 1) * 16 ≤ lim) = true := decide_eq_true (by rw [lim_val]; omega)
  have l2 : decide (x.answers.length + 1 ≤ lim) = true := decide_eq_true (by rw [lim_val]; omega)
  rw [cr_fn pA_spec_l19Lines rfl]
  have tk : ∀ e : Str, ((x.answers.map ansLine ++ [e]).map S).take (x.answers.length + 1) = (x.answers.map ansLine ++ [e]).map S := fun e => List.take_of_length_le (by simp)
  unfold ouLines endLine
  by_cases f0 : x.fin = 0
  · have d0 : decide (x.fin = 0) = true := decide_eq_true f0
    rw [if_pos f0]
    simp only [go_sem, Nat.reduceAdd, Nat.reduceSub, Nat.reduceMul, Nat.reduceEqDiff, Nat.reduceLeDiff, Nat.reduceBEq, reduceCtorEq, A.spec_l19Lines, hn, lp, d0, l1, l2, List.length_cons, List.length_nil, tk]
  have d0 : decide (x.fin = 0) = false := decide_eq_false f0
  rw [if_neg f0]
  by_cases f1 : x.fin = 1
  · have d1 : decide (x.fin = 1) = true := decide_eq_true f1
    rw [if_pos f1]
    simp only [go_sem, Nat.reduceAdd, Nat.reduceSub, Nat.reduceMul, Nat.reduceEqDiff, Nat.reduceLeDiff, Nat.reduceBEq, reduceCtorEq, A.spec_l19Lines, hn, lp, d0, d1, l1, l2, List.length_cons, List.length_nil, tk]
  have d1 : decide (x.fin = 1) = false := decide_eq_false f1
  rw [if_neg f1]
  by_cases f2 : x.fin = 2
  · have d2 : decide (x.fin = 2) = true := decide_eq_true f2
    rw [if_pos f2]
    simp only [go_sem, Nat.reduceAdd, Nat.reduceSub, Nat.reduceMul, Nat.reduceEqDiff, Nat.reduceLeDiff, Nat.reduceBEq, reduceCtorEq, A.spec_l19Lines, hn, lp, d0, d1, d2, wt, s1, l1, l2, List.length_cons, List.length_nil, tk]
  have d2 : decide (x.fin = 2) = false := decide_eq_false f2
  rw [if_neg f2]
  simp only [go_sem, Nat.reduceAdd, Nat.reduceSub, Nat.reduceMul, Nat.reduceEqDiff, Nat.reduceLeDiff, Nat.reduceBEq, reduceCtorEq, A.spec_l19Lines, hn, lp, d0, d1, d2, l1, l2, List.length_cons, List.length_nil, tk]
theorem impl_ShowOutcome_ok (x : Ou) (hw : wOu x) (v : V) (h : bOu x v) : cr progA F.impl_ShowOutcome [v] = some (S (linesOf (ouLines x))) := by
  have e1 := impl_outcomeLines_ok x hw v h
  obtain ⟨h1, h2⟩ := ouLines_ok x hw
  have e2 := impl_inLines_ok true (ouLines x) h1 h2
  obtain ⟨τ0, vs0, τ1, vs1, τ2, vs2, τ3, rfl, -, -, -⟩ := h
  rw [cr_fn pA_impl_ShowOutcome rfl]
  simp only [go_sem, Nat.reduceAdd, Nat.reduceSub, Nat.reduceMul, Nat.reduceEqDiff, Nat.reduceLeDiff, Nat.reduceBEq, reduceCtorEq, A.impl_ShowOutcome, e1, e2]
theorem spec_ShowOutcome_ok (x : Ou) (hw : wOu x) (v : V) (h : bOu x v) : cr progA F.spec_ShowOutcome [v] = some (S (linesOf (ouLines x))) := by
  have e1 := spec_l19Lines_ok x hw v h
  obtain ⟨h1, h2⟩ := ouLines_ok x hw
  have e2 := spec_l31Lines_ok true (ouLines x) h1 h2
  obtain ⟨τ0, vs0, τ1, vs1, τ2, vs2, τ3, rfl, -, -, -⟩ := h
  rw [cr_fn pA_spec_ShowOutcome rfl]
  simp only [go_sem, Nat.reduceAdd, Nat.reduceSub, Nat.reduceMul, Nat.reduceEqDiff, Nat.reduceLeDiff, Nat.reduceBEq, reduceCtorEq, A.spec_ShowOutcome, e1, e2]
theorem law_ShowOutcome (x : Ou) (hw : wOu x) (v : V) (h : bOu x v) : ∃ outs, cw progA F.laws_FnExactShowOutcome [v] = some (B true, outs) := by
  apply cr_true
  obtain ⟨m, hm⟩ := szOutcome_ok x hw v 1048576 h
  have ht := toOutcome_ok x hw v h
  have hp1 := spec_ShowOutcome_ok x hw _ (b_iOu false x)
  have hp2 := fun τ => impl_ShowOutcome_ok x hw _ (b_iOu τ x)
  have he := fun τ τ' => (eqOutcome_ok x hw x _ _ (b_iOu τ x) (b_iOu τ' x)).trans (by rw [decide_eq_true (rfl : x = x)])
  simp only [iOu] at hp1 hp2 he
  simp only [oOu] at ht
  obtain ⟨τ0, vs0, τ1, vs1, τ2, vs2, τ3, rfl, -, -, -⟩ := h
  rw [cr_fn pA_laws_FnExactShowOutcome rfl]
  by_cases hneg : m < 0
  · simp only [go_sem, Nat.reduceAdd, Nat.reduceSub, Nat.reduceMul, Nat.reduceEqDiff, Nat.reduceLeDiff, Nat.reduceBEq, reduceCtorEq, A.laws_FnExactShowOutcome, C.laws_FnExactShowOutcome_2, C.laws_FnExactShowOutcome_1, C.laws_FnExactShowOutcome_0, hm, hneg]
  · simp only [go_sem, Nat.reduceAdd, Nat.reduceSub, Nat.reduceMul, Nat.reduceEqDiff, Nat.reduceLeDiff, Nat.reduceBEq, reduceCtorEq, A.laws_FnExactShowOutcome, C.laws_FnExactShowOutcome_2, C.laws_FnExactShowOutcome_1, C.laws_FnExactShowOutcome_0, hm, hneg, ht, hp1, hp2, he]
end Go.Vm

set_option autoImplicit false
set_option maxRecDepth 100000
set_option linter.unusedSimpArgs false
set_option linter.unusedVariables false
namespace Go.Vm
section
variable {P : Program}
theorem rd_Cl {tX t0 t1 t2 : TypeId} (hu : ∃ fs, P.underlying tX = some (.struct fs) ∧ fs.toList.map (·.type) = [t0, t1, t2]) (h0 : RdC P t0 (cA BT) wTm) (h1 : RdC P t1 (cA BT) wTm) (h2 : RdC P t2 cS wS) : RdC P tX (cA bCl) wCl := fun n xs h hb => by
  obtain ⟨fs, hu, hfs⟩ := hu
  obtain ⟨m, parts, rfl, rfl, hp⟩ := shp_struct hu h
  rw [hfs] at hp
  obtain ⟨p0, r0, rfl, s0, hp⟩ := shpF_cons hp
  obtain ⟨p1, r1, rfl, s1, hp⟩ := shpF_cons hp
  obtain ⟨p2, r2, rfl, s2, hp⟩ := shpF_cons hp
  obtain rfl := shpF_nil hp
  simp only [List.flatten_cons, List.flatten_nil, List.append_nil, bulkVs_append] at hb ⊢
  obtain ⟨b0, x0, c0, w0⟩ := h0 m p0 s0 (by omega)
  obtain ⟨b1, x1, c1, w1⟩ := h1 m p1 s1 (by omega)
  obtain ⟨b2, x2, c2, w2⟩ := h2 m p2 s2 (by omega)
  obtain ⟨τ0, vs0, e0, g0⟩ := BT_shape c0
  obtain rfl := V.a.inj e0
  obtain ⟨τ1, vs1, e1, g1⟩ := BT_shape c1
  obtain rfl := V.a.inj e1
  obtain rfl := c2
  exact ⟨by omega, ⟨x0, x1, x2⟩, ⟨τ0, vs0, τ1, vs1, rfl, g0, g1⟩, w0, w1, w2⟩
theorem rd_Db {tX t0 t1 : TypeId} (hu : ∃ fs, P.underlying tX = some (.struct fs) ∧ fs.toList.map (·.type) = [t0, t1]) (h0 : RdC P t0 (cL bCl) (wL wCl)) (h1 : RdC P t1 (cL RS) (wL wS)) : RdC P tX (cA bDb) wDb := fun n xs h hb => by
  obtain ⟨fs, hu, hfs⟩ := hu
  obtain ⟨m, parts, rfl, rfl, hp⟩ := shp_struct hu h
  rw [hfs] at hp
  obtain ⟨p0, r0, rfl, s0, hp⟩ := shpF_cons hp
  obtain ⟨p1, r1, rfl, s1, hp⟩ := shpF_cons hp
  obtain rfl := shpF_nil hp
  simp only [List.flatten_cons, List.flatten_nil, List.append_nil, bulkVs_append] at hb ⊢
  obtain ⟨b0, x0, c0, w0⟩ := h0 m p0 s0 (by omega)
  obtain ⟨b1, x1, c1, w1⟩ := h1 m p1 s1 (by omega)
  obtain ⟨vs0, rfl, g0⟩ := c0
  obtain ⟨vs1, rfl, g1⟩ := c1
  obtain rfl := RL_S g1
  exact ⟨by omega, ⟨x0, x1⟩, ⟨false, vs0, false, rfl, g0⟩, w0, w1⟩
theorem rd_Fl {tX t0 t1 : TypeId} (hu : ∃ fs, P.underlying tX = some (.struct fs) ∧ fs.toList.map (·.type) = [t0, t1]) (h0 : RdC P t0 cS wS) (h1 : RdC P t1 cS wS) : RdC P tX (cA bFl) wFl := fun n xs h hb => by
  obtain ⟨fs, hu, hfs⟩ := hu
  obtain ⟨m, parts, rfl, rfl, hp⟩ := shp_struct hu h
  rw [hfs] at hp
  obtain ⟨p0, r0, rfl, s0, hp⟩ := shpF_cons hp
  obtain ⟨p1, r1, rfl, s1, hp⟩ := shpF_cons hp
  obtain rfl := shpF_nil hp
  simp only [List.flatten_cons, List.flatten_nil, List.append_nil, bulkVs_append] at hb ⊢
  obtain ⟨b0, x0, c0, w0⟩ := h0 m p0 s0 (by omega)
  obtain ⟨b1, x1, c1, w1⟩ := h1 m p1 s1 (by omega)
  obtain rfl := c0
  obtain rfl := c1
  exact ⟨by omega, ⟨x0, x1⟩, rfl, w0, w1⟩
theorem rd_Se {tX t0 t1 t2 t3 : TypeId} (hu : ∃ fs, P.underlying tX = some (.struct fs) ∧ fs.toList.map (·.type) = [t0, t1, t2, t3]) (h0 : RdC P t0 (cL bFl) (wL wFl)) (h1 : RdC P t1 (cA bDb) wDb) (h2 : RdC P t2 (cL RS) (wL wS)) (h3 : RdC P t3 cS wS) : RdC P tX (cA bSe) wSe := fun n xs h hb => by
  obtain ⟨fs, hu, hfs⟩ := hu
  obtain ⟨m, parts, rfl, rfl, hp⟩ := shp_struct hu h
  rw [hfs] at hp
  obtain ⟨p0, r0, rfl, s0, hp⟩ := shpF_cons hp
  obtain ⟨p1, r1, rfl, s1, hp⟩ := shpF_cons hp
  obtain ⟨p2, r2, rfl, s2, hp⟩ := shpF_cons hp
  obtain ⟨p3, r3, rfl, s3, hp⟩ := shpF_cons hp
  obtain rfl := shpF_nil hp
  simp only [List.flatten_cons, List.flatten_nil, List.append_nil, bulkVs_append] at hb ⊢
  obtain ⟨b0, x0, c0, w0⟩ := h0 m p0 s0 (by omega)
  obtain ⟨b1, x1, c1, w1⟩ := h1 m p1 s1 (by omega)
  obtain ⟨b2, x2, c2, w2⟩ := h2 m p2 s2 (by omega)
  obtain ⟨b3, x3, c3, w3⟩ := h3 m p3 s3 (by omega)
  obtain ⟨vs0, rfl, g0⟩ := c0
  obtain ⟨τ0_1, vs0_1, τ1_1, e1, g1_0⟩ := c1
  obtain rfl := V.a.inj e1
  obtain ⟨vs2, rfl, g2⟩ := c2
  obtain rfl := RL_S g2
  obtain rfl := c3
  exact ⟨by omega, ⟨x0, x1, x2, x3⟩, ⟨false, vs0, τ0_1, vs0_1, τ1_1, false, rfl, g0, g1_0⟩, w0, w1, w2, w3⟩
end
end Go.Vm

set_option autoImplicit false
set_option maxRecDepth 100000
set_option linter.unusedSimpArgs false
set_option linter.unusedVariables false
namespace Go.Vm
section
variable {P : Program}
theorem rd_Ou {tX t0 t1 t2 t3 t4 t5 : TypeId} (hu : ∃ fs, P.underlying tX = some (.struct fs) ∧ fs.toList.map (·.type) = [t0, t1, t2, t3, t4, t5]) (h0 : RdC P t0 (cL BT) (wL wTm)) (h1 : RdC P t1 cI inI) (h2 : RdC P t2 (cA BT) wTm) (h3 : RdC P t3 cS wS) (h4 : RdC P t4 (cA bDb) wDb) (h5 : RdC P t5 cI inI) : RdC P tX (cA bOu) wOu := fun n xs h hb => by
  obtain ⟨fs, hu, hfs⟩ := hu
  obtain ⟨m, parts, rfl, rfl, hp⟩ := shp_struct hu h
  rw [hfs] at hp
  obtain ⟨p0, r0, rfl, s0, hp⟩ := shpF_cons hp
  obtain ⟨p1, r1, rfl, s1, hp⟩ := shpF_cons hp
  obtain ⟨p2, r2, rfl, s2, hp⟩ := shpF_cons hp
  obtain ⟨p3, r3, rfl, s3, hp⟩ := shpF_cons hp
  obtain ⟨p4, r4, rfl, s4, hp⟩ := shpF_cons hp
  obtain ⟨p5, r5, rfl, s5, hp⟩ := shpF_cons hp
  obtain rfl := shpF_nil hp
  simp only [List.flatten_cons, List.flatten_nil, List.append_nil, bulkVs_append] at hb ⊢
  obtain ⟨b0, x0, c0, w0⟩ := h0 m p0 s0 (by omega)
  obtain ⟨b1, x1, c1, w1⟩ := h1 m p1 s1 (by omega)
  obtain ⟨b2, x2, c2, w2⟩ := h2 m p2 s2 (by omega)
  obtain ⟨b3, x3, c3, w3⟩ := h3 m p3 s3 (by omega)
  obtain ⟨b4, x4, c4, w4⟩ := h4 m p4 s4 (by omega)
  obtain ⟨b5, x5, c5, w5⟩ := h5 m p5 s5 (by omega)
  obtain ⟨vs0, rfl, g0⟩ := c0
  obtain rfl := c1
  obtain ⟨τ2, vs2, e2, g2⟩ := BT_shape c2
  obtain rfl := V.a.inj e2
  obtain rfl := c3
  obtain ⟨τ0_4, vs0_4, τ1_4, e4, g4_0⟩ := c4
  obtain rfl := V.a.inj e4
  obtain rfl := c5
  exact ⟨by omega, ⟨x0, x1, x2, x3, x4, x5⟩, ⟨false, vs0, τ2, vs2, τ0_4, vs0_4, τ1_4, rfl, g0, g2, g4_0⟩, w0, w1, w2, w3, w4, w5⟩
end
end Go.Vm

set_option autoImplicit false
set_option maxRecDepth 100000
set_option linter.unusedVariables false
set_option linter.unusedSimpArgs false
namespace Go.Proofs
open Go.Shelf
def Tryz.laysItoa_ren : Go.Shelf.Ren := ⟨fun | 171 => 152 | 243 => 178 | 246 => 207 | 283 => 217 | 284 => 218 | 285 => 219 | 286 => 220 | 129 => 234 | 317 => 233 | 318 => 235 | 319 => 236 | 320 => 237 | 337 => 240 | 338 => 241 | n => n, fun | 3 => 3 | 9 => 9 | 2 => 2 | 4 => 4 | 171 => 183 | 0 => 0 | 53 => 184 | 37 => 144 | 5 => 5 | 173 => 187 | 212 => 195 | 51 => 196 | 20 => 20 | 213 => 197 | 46 => 199 | 232 => 203 | 233 => 204 | n => n, fun | 17 => 0 | 18 => 2 | 19 => 3 | n => n⟩
theorem Tryz.laysItoa : Go.Proofs.LaysM.n171 Tryz.prog Tryz.laysItoa_ren where
  mixed := by kernel_rfl
  f129 := Tryz.func234.trans (congrArg some (by kernel_rfl))
  f171 := Tryz.func152.trans (congrArg some (by kernel_rfl))
  f243 := Tryz.func178.trans (congrArg some (by kernel_rfl))
  f246 := Tryz.func207.trans (congrArg some (by kernel_rfl))
  f283 := Tryz.func217.trans (congrArg some (by kernel_rfl))
  f284 := Tryz.func218.trans (congrArg some (by kernel_rfl))
  f285 := Tryz.func219.trans (congrArg some (by kernel_rfl))
  f286 := Tryz.func220.trans (congrArg some (by kernel_rfl))
  f317 := Tryz.func233.trans (congrArg some (by kernel_rfl))
  f318 := Tryz.func235.trans (congrArg some (by kernel_rfl))
  f319 := Tryz.func236.trans (congrArg some (by kernel_rfl))
  f320 := Tryz.func237.trans (congrArg some (by kernel_rfl))
  f337 := Tryz.func240.trans (congrArg some (by kernel_rfl))
  f338 := Tryz.func241.trans (congrArg some (by kernel_rfl))
  t0 := Tryz.underlying0
  a0 := Tryz.isAgg0
  z0 := Tryz.sizeOf0
  v0 := Tryz.zeroValue0
  t2 := Tryz.underlying2
  a2 := Tryz.isAgg2
  z2 := Tryz.sizeOf2
  v2 := Tryz.zeroValue2
  t3 := Tryz.underlying3
  a3 := Tryz.isAgg3
  z3 := Tryz.sizeOf3
  v3 := Tryz.zeroValue3
  t4 := Tryz.underlying4
  a4 := Tryz.isAgg4
  z4 := Tryz.sizeOf4
  v4 := Tryz.zeroValue4
  t5 := Tryz.underlying5
  a5 := Tryz.isAgg5
  z5 := Tryz.sizeOf5
  v5 := Tryz.zeroValue5
  t9 := Tryz.underlying9
  a9 := Tryz.isAgg9
  z9 := Tryz.sizeOf9
  v9 := Tryz.zeroValue9
  t20 := Tryz.underlying20
  a20 := Tryz.isAgg20
  z20 := Tryz.sizeOf20
  v20 := Tryz.zeroValue20
  t37 := Tryz.underlying144
  a37 := Tryz.isAgg144
  z37 := Tryz.sizeOf144
  v37 := Tryz.zeroValue144
  t46 := Tryz.underlying199
  a46 := Tryz.isAgg199
  z46 := Tryz.sizeOf199
  v46 := Tryz.zeroValue199
  t51 := Tryz.underlying196
  a51 := Tryz.isAgg196
  z51 := Tryz.sizeOf196
  v51 := Tryz.zeroValue196
  t53 := Tryz.underlying184
  a53 := Tryz.isAgg184
  z53 := Tryz.sizeOf184
  v53 := Tryz.zeroValue184
  t171 := Tryz.underlying183
  a171 := Tryz.isAgg183
  z171 := Tryz.sizeOf183
  v171 := Tryz.zeroValue183
  t173 := Tryz.underlying187
  a173 := Tryz.isAgg187
  z173 := Tryz.sizeOf187
  v173 := Tryz.zeroValue187
  t212 := Tryz.underlying195
  a212 := Tryz.isAgg195
  z212 := Tryz.sizeOf195
  v212 := Tryz.zeroValue195
  t213 := Tryz.underlying197
  a213 := Tryz.isAgg197
  z213 := Tryz.sizeOf197
  t232 := Tryz.underlying203
  a232 := Tryz.isAgg203
  z232 := Tryz.sizeOf203
  v232 := Tryz.zeroValue203
  t233 := Tryz.underlying204
  a233 := Tryz.isAgg204
  z233 := Tryz.sizeOf204
  v233 := Tryz.zeroValue204
  g17 := by kernel_rfl
  g18 := by kernel_rfl
  g19 := by kernel_rfl
  i0 := by kernel_rfl
  i2 := by kernel_rfl
  i3 := by kernel_rfl
  i4 := by kernel_rfl
  i5 := by kernel_rfl
  i9 := by kernel_rfl
  i20 := by kernel_rfl
  i37 := by kernel_rfl
  i46 := by kernel_rfl
  i51 := by kernel_rfl
  i53 := by kernel_rfl
  i171 := by kernel_rfl
  i173 := by kernel_rfl
  i212 := by kernel_rfl
  i232 := by kernel_rfl
  i233 := by kernel_rfl
  m17 := by kernel_rfl
  m18 := by kernel_rfl
  m19 := by kernel_rfl
end Go.Proofs
namespace Go.Vm
open Go.Proofs
/-- what the library's table holds -/
instance layD : Lay where
  B b := b = Tryz.laysItoa_ren.g 17
  L w := Lib.TabIs Tryz.prog w "internal/strconv.uint64pow10" .u64 Lib.pow10Tab
  st w w' h hL := by
    unfold Lib.TabIs World.var? at *
    rw [Tryz.laysItoa.m17] at *
    simp only [Option.bind_some] at *
    rw [h _ rfl]; exact hL
theorem itoaP_ok : ∀ args r outs, itoaP args = some (r, outs) → CallOk Tryz.prog (Tryz.laysItoa_ren.f 171) args r outs := by
  intro args r outs h
  unfold itoaP at h
  split at h
  case h_2 => cases h
  rename_i n
  split at h
  case isFalse => cases h
  rename_i hb
  simp only [Option.some.injEq, Prod.mk.injEq] at h
  obtain ⟨rfl, rfl⟩ := h
  have hz : ∀ (E : Env) vs c, RelL E.cl [I n] vs c → c = c0 ∧ vs = [.int .i64 n] := by
    intro E vs c hx
    simp only [RelL, I, Rel] at hx
    obtain ⟨y, ys, c1, c2, rfl, ⟨rfl, -, rfl⟩, ⟨rfl, rfl⟩, rfl⟩ := hx
    exact ⟨rfl, rfl⟩
  refine prim_ok (x := .string ⟨(Lib.itoa n).toArray⟩) Tryz.laysItoa.f171 rfl rfl rfl rfl ?_ (fun E vs c hx => (hz E vs c hx).1)
  intro E vs hx hL
  obtain ⟨-, rfl⟩ := hz E vs c0 hx
  refine (Any.strconv_Itoa Tryz.laysItoa n hb.1 hb.2 E.w hL).mono ?_
  rintro e w' ⟨rfl, k, os, rfl⟩
  exact ⟨rfl, adds_grow _ _ _⟩
end Go.Vm
namespace Go.Proofs
open Go.Shelf
def Tryz.laysIB_ren : Go.Shelf.Ren := ⟨fun | 137 => 229 | 217 => 239 | 266 => 242 | n => n, fun | 9 => 9 | 5 => 5 | 3 => 3 | n => n, fun | n => n⟩
theorem Tryz.laysIB : Go.Proofs.Lays.n137 Tryz.prog Tryz.laysIB_ren where
  mixed := by kernel_rfl
  f137 := Tryz.func229.trans (congrArg some (by kernel_rfl))
  f217 := Tryz.func239.trans (congrArg some (by kernel_rfl))
  f266 := Tryz.func242.trans (congrArg some (by kernel_rfl))
  t3 := Tryz.underlying3
  a3 := Tryz.isAgg3
  z3 := Tryz.sizeOf3
  v3 := Tryz.zeroValue3
  t5 := Tryz.underlying5
  a5 := Tryz.isAgg5
  z5 := Tryz.sizeOf5
  v5 := Tryz.zeroValue5
  t9 := Tryz.underlying9
  a9 := Tryz.isAgg9
  z9 := Tryz.sizeOf9
  v9 := Tryz.zeroValue9
def Tryz.laysJn_ren : Go.Shelf.Ren := ⟨fun | 156 => 169 | 165 => 195 | 166 => 196 | 169 => 197 | 240 => 214 | 241 => 215 | 276 => 231 | 277 => 232 | n => n, fun | 31 => 23 | 9 => 9 | 3 => 3 | 4 => 4 | 0 => 0 | 20 => 20 | 72 => 169 | 76 => 173 | 70 => 167 | 37 => 144 | 75 => 172 | 127 => 182 | 164 => 191 | 5 => 5 | 80 => 175 | n => n, fun | n => n⟩
theorem Tryz.laysJn : Go.Proofs.Lays.n156 Tryz.prog Tryz.laysJn_ren where
  mixed := by kernel_rfl
  f156 := Tryz.func169.trans (congrArg some (by kernel_rfl))
  f165 := Tryz.func195.trans (congrArg some (by kernel_rfl))
  f166 := Tryz.func196.trans (congrArg some (by kernel_rfl))
  f169 := Tryz.func197.trans (congrArg some (by kernel_rfl))
  f240 := Tryz.func214.trans (congrArg some (by kernel_rfl))
  f241 := Tryz.func215.trans (congrArg some (by kernel_rfl))
  f276 := Tryz.func231.trans (congrArg some (by kernel_rfl))
  f277 := Tryz.func232.trans (congrArg some (by kernel_rfl))
  t0 := Tryz.underlying0
  a0 := Tryz.isAgg0
  z0 := Tryz.sizeOf0
  v0 := Tryz.zeroValue0
  t3 := Tryz.underlying3
  a3 := Tryz.isAgg3
  z3 := Tryz.sizeOf3
  v3 := Tryz.zeroValue3
  t4 := Tryz.underlying4
  a4 := Tryz.isAgg4
  z4 := Tryz.sizeOf4
  v4 := Tryz.zeroValue4
  t9 := Tryz.underlying9
  a9 := Tryz.isAgg9
  z9 := Tryz.sizeOf9
  v9 := Tryz.zeroValue9
  t20 := Tryz.underlying20
  a20 := Tryz.isAgg20
  z20 := Tryz.sizeOf20
  v20 := Tryz.zeroValue20
  t31 := Tryz.underlying23
  a31 := Tryz.isAgg23
  z31 := Tryz.sizeOf23
  v31 := Tryz.zeroValue23
  t37 := Tryz.underlying144
  a37 := Tryz.isAgg144
  z37 := Tryz.sizeOf144
  v37 := Tryz.zeroValue144
  t70 := Tryz.underlying167
  a70 := Tryz.isAgg167
  z70 := Tryz.sizeOf167
  v70 := Tryz.zeroValue167
  t72 := Tryz.underlying169
  a72 := Tryz.isAgg169
  z72 := Tryz.sizeOf169
  v72 := Tryz.zeroValue169
  t75 := Tryz.underlying172
  a75 := Tryz.isAgg172
  z75 := Tryz.sizeOf172
  v75 := Tryz.zeroValue172
  t76 := Tryz.underlying173
  a76 := Tryz.isAgg173
  z76 := Tryz.sizeOf173
  v76 := Tryz.zeroValue173
  t127 := Tryz.underlying182
  a127 := Tryz.isAgg182
  z127 := Tryz.sizeOf182
  v127 := Tryz.zeroValue182
  t164 := Tryz.underlying191
  a164 := Tryz.isAgg191
  z164 := Tryz.sizeOf191
  v164 := Tryz.zeroValue191
theorem Tryz.laysJnX : Go.Proofs.Builder.Extra Tryz.prog Tryz.laysJn_ren where
  t5 := Tryz.underlying5
  a5 := Tryz.isAgg5
  z5 := Tryz.sizeOf5
  v5 := Tryz.zeroValue5
  infoByte := by kernel_rfl
  cellsByte := by kernel_rfl
  sizeByte := by kernel_rfl
  neB5 := by decide
  sizeBuilder := by kernel_rfl
  liesBuilder := by kernel_rfl
end Go.Proofs
namespace Go.Vm
open Go.Proofs
theorem ixbP_ok : ∀ args r outs, ixbP args = some (r, outs) → CallOk Tryz.prog (Tryz.laysIB_ren.f 137) args r outs := by
  intro args r outs h
  unfold ixbP at h
  split at h
  case h_2 => cases h
  rename_i s n
  simp only [Option.some.injEq, Prod.mk.injEq] at h
  obtain ⟨rfl, rfl⟩ := h
  have hz : ∀ (E : Env) vs c, RelL E.cl [.v (.string s), .v (.int .u8 n)] vs c → c = c0 ∧ vs = [.string s, .int .u8 n] := by
    intro E vs c hx
    simp only [RelL, Rel] at hx
    obtain ⟨y, ys, c1, c2, rfl, ⟨rfl, -, rfl⟩, ⟨y', ys', c3, c4, rfl, ⟨rfl, -, rfl⟩, ⟨rfl, rfl⟩, rfl⟩, rfl⟩ := hx
    exact ⟨rfl, rfl⟩
  refine prim_ok (x := .int .i64 (Lib.indexByte s.data.toList n.toNat.toUInt8)) Tryz.laysIB.f137 rfl rfl rfl rfl ?_ (fun E vs c hx => (hz E vs c hx).1)
  intro E vs hx hL
  obtain ⟨-, rfl⟩ := hz E vs c0 hx
  refine (Any.strings_IndexByte Tryz.laysIB s n E.w).mono ?_
  rintro e w' ⟨rfl, rfl⟩
  exact ⟨rfl, Adds.refl _⟩
theorem joinP_ok : ∀ args r outs, joinP args = some (r, outs) → CallOk Tryz.prog (Tryz.laysJn_ren.f 156) args r outs := by
  intro args r outs h
  unfold joinP at h
  split at h
  case h_2 => cases h
  rename_i τ xs p
  split at h
  case h_2 => cases h
  rename_i ss hss
  split at h
  case isFalse => cases h
  rename_i hb
  simp only [Option.some.injEq, Prod.mk.injEq] at h
  obtain ⟨rfl, rfl⟩ := h
  obtain rfl := strsOf_eq hss
  rw [List.length_map] at hb
  refine prim_ok (x := .string ⟨(Lib.join ss p.data.toList).toArray⟩) Tryz.laysJn.f156 rfl rfl rfl rfl ?_ ?_
  · intro E vs hx hL
    simp only [RelL, Rel] at hx
    obtain ⟨y, ys, c1, c2, rfl, ⟨-, A, cap, rfl, hcap, hxs⟩, ⟨y', ys', c3, c4, rfl, ⟨rfl, -, -⟩, ⟨rfl, -⟩, -⟩, -⟩ := hx
    rw [List.length_map] at hcap ⊢
    have hm : (ss.map fun s => (⟨s.toArray⟩ : ByteArray)).map (·.data.toList) = ss := by
      rw [List.map_map]
      conv => rhs; rw [← List.map_id ss]
      exact List.map_congr_left fun s _ => by simp
    have key : Calls Tryz.prog (Tryz.laysJn_ren.f 156) #[.slice A ss.length cap, .string p] E.w fun e w' => e = .returned (.string ⟨(Lib.join ss p.data.toList).toArray⟩) ∧ Go.RowKit.Below E.w.heap.size E.w w' := by
      rcases hxs with h0 | ⟨b, base, e, cells, T, fz, rfl, -, hcell, hr⟩
      · obtain rfl : ss = [] := by simpa using h0
        exact (Any.strings_Join_none Tryz.laysJn Tryz.laysJnX A cap p E.w).mono fun e w' ⟨he, hw⟩ => ⟨he, hw ▸ Go.RowKit.Below.refl _ _⟩
      · obtain ⟨he, hs⟩ := relR_S hr
        have := Any.strings_Join Tryz.laysJn Tryz.laysJnX b base cap (ss.map fun s => ⟨s.toArray⟩) p E.w (by
          intro j x hj
          rw [List.getElem?_map, Option.map_eq_some_iff] at hj
          obtain ⟨s, hj, rfl⟩ := hj
          have he1 : e = 1 := by rcases he with rfl | he; (cases hj); exact he
          subst he1
          have h1 : (seg cells base ((ss.map S).length * 1))[j]? = some (.string ⟨s.toArray⟩) := by rw [hs, List.getElem?_map, hj]; rfl
          have hlt : j < ss.length := (List.getElem?_eq_some_iff.1 hj).1
          rw [seg, List.getElem?_take_of_lt (by rw [List.length_map]; omega), List.getElem?_drop, Array.getElem?_toList] at h1
          have hc : E.cl.w.heap[b]? = E.w.heap[b]? := rfl
          rw [hc] at hcell
          simp only [World.cell?, hcell]
          exact h1) (by have := (Array.getElem?_eq_some_iff.1 hcell).1; exact this) (by rw [List.length_map]; exact hb.1) (by rw [List.length_map]; exact hcap) (by rw [hm]; exact hb.2)
        rw [hm, List.length_map] at this
        exact this
    refine key.mono ?_
    rintro e w' ⟨rfl, hB⟩
    exact ⟨rfl, ⟨hB.os, hB.tape, hB.output, hB.size, hB.block⟩⟩
  · intro E vs c hx
    simp only [RelL, Rel] at hx
    obtain ⟨y, ys, c1, c2, rfl, ⟨rfl, -⟩, ⟨y', ys', c3, c4, rfl, ⟨-, -, rfl⟩, ⟨-, rfl⟩, rfl⟩, rfl⟩ := hx
    rfl
end Go.Vm
