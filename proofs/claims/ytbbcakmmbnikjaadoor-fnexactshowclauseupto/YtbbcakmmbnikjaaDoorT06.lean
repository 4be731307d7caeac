import Derived.Test.YtbbcakmmbnikjaaDoorT05
import Derived.Test.YtbbcakmmbnikjaaDoorT03
import Derived.Shelf.Strconv.Itoa3
import Derived.Shelf.Strings.OnBuilder
import Derived.Shelf.Small.Strs
import Derived.Test.YtbbcakmmbnikjaaDoorProg
import Derived.KernelRfl

set_option autoImplicit false
set_option maxHeartbeats 8000000
set_option maxRecDepth 100000
set_option linter.unusedSimpArgs false
set_option linter.unusedVariables false
namespace Go.Vm
/-! ### all signs of a text -/
section
variable {l : List Sg} {τ : Bool}
@[go_sem] theorem clEs_Sg : clEs (l.map Sg.v) = true := clEs_map (fun _ => rfl) l
@[go_sem] theorem killL_Sg (d : Nat) : killL d (l.map Sg.v) = l.map Sg.v := killL_map (fun _ => rfl) d l
@[go_sem] theorem convL_Sg : convL τ (l.map Sg.v) = l.map Sg.v := convL_map (fun _ => rfl) l
@[go_sem] theorem noTagL_Sg : noTagL (l.map Sg.v) = true := noTagL_map (fun _ => rfl) l
@[go_sem] theorem mapE_Sg (m : Nat) (T : Mem) : mapT (closeE m) T (l.map Sg.v) = (l.map Sg.v, T) := mapE_cl m T _ clEs_Sg
@[go_sem] theorem repEs_Sg (k : Key) (ob : Ob) : repEs k ob (l.map Sg.v) = none := repEs_closed k ob _ clEs_Sg
@[go_sem] theorem snocSg {a n p : Int} {t : Str} {b : Bool} : l.map Sg.v ++ [.a [I a, S t, I n, I p, B b]] = (l ++ [Sg.mk a t n p b]).map Sg.v := by simp [Sg.v]
end
theorem spec_com_loop (s : Str) (hl : s.length ≤ 3000) (acc : List Sg) (m : Nat) : ∀ i, i + m = s.length →
    lw progA L.spec_SignsOf_0 ⟨[(0, S s), (4, .s (100000, 0) 0 acc.length), (5, I i)], [((100000, 0), 5, acc.map Sg.v)]⟩ =
      some (.exit 2, ⟨[(0, S s), (4, .s (100000, 0) 0 acc.length), (5, I ((i + pre (fun d => !isB 10 d) (s.drop i) : Nat) : Int))], [((100000, 0), 5, acc.map Sg.v)]⟩) := by
  induction m with
  | zero =>
    intro i hi
    rw [List.drop_eq_nil_of_le (by omega), lw_eq]
    have h : ¬ (i : Int) < s.length := by omega
    simp only [go_sem, Nat.reduceAdd, Nat.reduceSub, Nat.reduceMul, Nat.reduceEqDiff, Nat.reduceLeDiff, Nat.reduceBEq, reduceCtorEq, LB.spec_SignsOf_0, h, pre]
  | succ m ih =>
    intro i hi
    have h : (i : Int) < s.length := by omega
    obtain ⟨c, hc⟩ := get_some' (l := s) (i := i) (by omega)
    have ix := ix_S (l := s) (i := (i : Int)) (c := c) (by omega) (by simpa using hc)
    have e1 : w64 ((i : Int) + 1) = ((i + 1 : Nat) : Int) := by rw [w64_id] <;> omega
    rw [drop_cons' hc, lw_eq, pre]
    cases hw : isB 10 c with
    | false =>
      unfold isB at hw
      have i1 := ih (i + 1) (by omega)
      rw [if_pos (by rfl), show i + (pre (fun d => !isB 10 d) (s.drop (i + 1)) + 1) = i + 1 + pre (fun d => !isB 10 d) (s.drop (i + 1)) by omega]
      simp only [go_sem, Nat.reduceAdd, Nat.reduceSub, Nat.reduceMul, Nat.reduceEqDiff, Nat.reduceLeDiff, Nat.reduceBEq, reduceCtorEq, LB.spec_SignsOf_0, h, ix, hw, e1]
      exact i1
    | true =>
      unfold isB at hw
      rw [if_neg (by decide)]
      simp only [go_sem, Nat.reduceAdd, Nat.reduceSub, Nat.reduceMul, Nat.reduceEqDiff, Nat.reduceLeDiff, Nat.reduceBEq, reduceCtorEq, LB.spec_SignsOf_0, h, ix, hw, e1, Nat.add_zero]
theorem SignsOf1_ok (c : UInt8) : cr progA F.impl_SignsOf_1 [U8 c.toNat] = some (B (!isB 10 c)) := by
  rw [cr_fn pA_impl_SignsOf_1 rfl]
  unfold isB
  cases h : decide ((c.toNat : Int) = 10) <;> simp only [go_sem, Nat.reduceAdd, Nat.reduceSub, Nat.reduceMul, Nat.reduceEqDiff, Nat.reduceLeDiff, Nat.reduceBEq, reduceCtorEq, A.impl_SignsOf_1, h]
theorem near_ix {s : Str} {e : Nat} (h : e < s.length) (hl : s.length ≤ 3000) : ∃ d, ixV (S s) (I e) = some (U8 (d : UInt8).toNat) ∧ decide ((d.toNat : Int) = 40) = decide (s[e]? = some 40) := by
  obtain ⟨d, hd⟩ := get_some' (l := s) (i := e) h
  refine ⟨d, ix_S (by omega) (by simpa using hd), ?_⟩
  rw [hd]
  refine decide_eq_decide.2 ?_
  have := byte_eq (c := d) (d := 40)
  rw [show (((40 : UInt8).toNat : Nat) : Int) = 40 from rfl] at this
  rw [this]
  simp
theorem spec_SignsOf_loop (s : Str) (hl : s.length ≤ 3000) : ∀ n i (acc : List Sg), s.length ≤ i + n → i ≤ s.length → acc.length ≤ i →
    lw progA L.spec_SignsOf_1 ⟨[(0, S s), (4, .s (100000, 0) 0 acc.length), (5, I i)], [((100000, 0), 5, acc.map Sg.v)]⟩ =
      some (.exit 0, ⟨[(4, .s (100000, 0) 0 (acc.length + (sgs s n i).length))], [((100000, 0), 5, (acc ++ sgs s n i).map Sg.v)]⟩) := by
  intro n
  induction n with
  | zero =>
    intro i acc h1 h2 h3
    have h : ¬ (i : Int) < s.length := by omega
    rw [sgs, List.append_nil, List.length_nil, Nat.add_zero, lw_eq]
    simp only [go_sem, Nat.reduceAdd, Nat.reduceSub, Nat.reduceMul, Nat.reduceEqDiff, Nat.reduceLeDiff, Nat.reduceBEq, reduceCtorEq, LB.spec_SignsOf_1, h]
  | succ n ih =>
    intro i acc h1 h2 h3
    rw [lw_eq]
    by_cases hlt : i < s.length
    · have h : (i : Int) < s.length := by omega
      obtain ⟨c, hc⟩ := get_some' (l := s) (i := i) hlt
      have ix := ix_S (l := s) (i := (i : Int)) (c := c) (by omega) (by simpa using hc)
      have e1 : w64 ((i : Int) + 1) = ((i + 1 : Nat) : Int) := by rw [w64_id] <;> omega
      have bl := l05Blank_ok c
      simp only [sgs, hc]
      cases hb : blankB c with
      | true =>
        rw [hb] at bl
        have i1 := ih (i + 1) acc (by omega) (by omega) (by omega)
        rw [if_pos rfl]
        simp only [go_sem, Nat.reduceAdd, Nat.reduceSub, Nat.reduceMul, Nat.reduceEqDiff, Nat.reduceLeDiff, Nat.reduceBEq, reduceCtorEq, LB.spec_SignsOf_1, h, ix, bl, e1]
        exact i1
      | false =>
      rw [hb] at bl
      rw [if_neg (by decide)]
      cases h37 : isB 37 c with
      | true =>
        have hp := pre_lt (p := fun d => !isB 10 d) (s := s) (i := i) (by omega)
        have hp1 : 1 ≤ pre (fun d => !isB 10 d) (s.drop i) := pre_pos hc (by have := isB_eq (n := 37) h37; subst this; rfl)
        have i1 := ih (i + pre (fun d => !isB 10 d) (s.drop i)) acc (by omega) (by omega) (by omega)
        have cm := spec_com_loop s hl acc (s.length - i) i (by omega)
        unfold isB at h37
        rw [if_pos rfl]
        simp only [go_sem, Nat.reduceAdd, Nat.reduceSub, Nat.reduceMul, Nat.reduceEqDiff, Nat.reduceLeDiff, Nat.reduceBEq, reduceCtorEq, LB.spec_SignsOf_1, h, ix, bl, h37, cm]
        exact i1
      | false =>
      unfold isB at h37
      rw [if_neg (by decide)]
      have sg := l05Sign_ok s (by omega) i c hc
      obtain ⟨g1, g2⟩ := sgn_end s i c hc
      have i1 := ih (sgn s i c).2 (acc ++ [(sgn s i c).1.near' (decide (s[(sgn s i c).2]? = some 40))]) (by omega) g2 (by simp only [List.length_append, List.length_cons, List.length_nil]; omega)
      have l1 : decide ((acc.length + 1) * 48 ≤ lim) = true := decide_eq_true (by rw [lim_val]; omega)
      have l2 : decide (acc.length + 1 ≤ lim) = true := decide_eq_true (by rw [lim_val]; omega)
      have ea : acc.length + ((sgs s n (sgn s i c).2).length + 1) = acc.length + 1 + (sgs s n (sgn s i c).2).length := by omega
      rw [List.append_assoc, List.singleton_append] at i1
      unfold Sg.near' at i1
      rw [Sg.v] at sg
      by_cases hn : (sgn s i c).2 < s.length
      · have hn' : (((sgn s i c).2 : Nat) : Int) < s.length := by omega
        obtain ⟨d, ix2, hd⟩ := near_ix hn hl
        rw [← hd] at i1 ⊢
        simp only [go_sem, Nat.reduceAdd, Nat.reduceSub, Nat.reduceMul, Nat.reduceEqDiff, Nat.reduceLeDiff, Nat.reduceBEq, reduceCtorEq, LB.spec_SignsOf_1, h, ix, bl, h37, sg, hn', ix2, l1, l2, List.length_cons, List.length_nil, ea, Sg.near'] at i1 ⊢
        exact i1
      · have hn' : ¬ (((sgn s i c).2 : Nat) : Int) < s.length := by omega
        have hno : s[(sgn s i c).2]? = none := List.getElem?_eq_none (by omega)
        have hf : decide (s[(sgn s i c).2]? = some 40) = false := by rw [hno]; rfl
        rw [hf] at i1 ⊢
        simp only [go_sem, Nat.reduceAdd, Nat.reduceSub, Nat.reduceMul, Nat.reduceEqDiff, Nat.reduceLeDiff, Nat.reduceBEq, reduceCtorEq, LB.spec_SignsOf_1, h, ix, bl, h37, sg, hn', l1, l2, List.length_cons, List.length_nil, ea, Sg.near'] at i1 ⊢
        exact i1
    · have h : ¬ (i : Int) < s.length := by omega
      rw [sgs_end s _ i (by omega), List.append_nil, List.length_nil, Nat.add_zero]
      simp only [go_sem, Nat.reduceAdd, Nat.reduceSub, Nat.reduceMul, Nat.reduceEqDiff, Nat.reduceLeDiff, Nat.reduceBEq, reduceCtorEq, LB.spec_SignsOf_1, h]
theorem impl_SignsOf_loop (s : Str) (hl : s.length ≤ 3000) : ∀ n i (acc : List Sg), s.length ≤ i + n → i ≤ s.length → acc.length ≤ i →
    lw progA L.impl_SignsOf_0 ⟨[(0, S s), (4, .s (100000, 0) 0 acc.length), (5, I i)], [((100000, 0), 5, acc.map Sg.v)]⟩ =
      some (.exit 0, ⟨[(4, .s (100000, 0) 0 (acc.length + (sgs s n i).length))], [((100000, 0), 5, (acc ++ sgs s n i).map Sg.v)]⟩) := by
  intro n
  induction n with
  | zero =>
    intro i acc h1 h2 h3
    have h : ¬ (i : Int) < s.length := by omega
    rw [sgs, List.append_nil, List.length_nil, Nat.add_zero, lw_eq]
    simp only [go_sem, Nat.reduceAdd, Nat.reduceSub, Nat.reduceMul, Nat.reduceEqDiff, Nat.reduceLeDiff, Nat.reduceBEq, reduceCtorEq, LB.impl_SignsOf_0, h]
  | succ n ih =>
    intro i acc h1 h2 h3
    rw [lw_eq]
    by_cases hlt : i < s.length
    · have h : (i : Int) < s.length := by omega
      obtain ⟨c, hc⟩ := get_some' (l := s) (i := i) hlt
      have ix := ix_S (l := s) (i := (i : Int)) (c := c) (by omega) (by simpa using hc)
      have e1 : w64 ((i : Int) + 1) = ((i + 1 : Nat) : Int) := by rw [w64_id] <;> omega
      simp only [sgs, hc]
      by_cases hb : blankB c = true
      · have i1 := ih (i + 1) acc (by omega) (by omega) (by omega)
        rw [if_pos hb]
        unfold blankB isB at hb
        cases d32 : decide ((c.toNat : Int) = 32) with
        | true => simp only [go_sem, Nat.reduceAdd, Nat.reduceSub, Nat.reduceMul, Nat.reduceEqDiff, Nat.reduceLeDiff, Nat.reduceBEq, reduceCtorEq, LB.impl_SignsOf_0, h, ix, d32, e1]; exact i1
        | false =>
        cases d9 : decide ((c.toNat : Int) = 9) with
        | true => simp only [go_sem, Nat.reduceAdd, Nat.reduceSub, Nat.reduceMul, Nat.reduceEqDiff, Nat.reduceLeDiff, Nat.reduceBEq, reduceCtorEq, LB.impl_SignsOf_0, h, ix, d32, d9, e1]; exact i1
        | false =>
        rw [d32, d9] at hb
        have d10 : decide ((c.toNat : Int) = 10) = true := hb
        simp only [go_sem, Nat.reduceAdd, Nat.reduceSub, Nat.reduceMul, Nat.reduceEqDiff, Nat.reduceLeDiff, Nat.reduceBEq, reduceCtorEq, LB.impl_SignsOf_0, h, ix, d32, d9, d10, e1]; exact i1
      rw [if_neg hb]
      unfold blankB isB at hb
      simp only [Bool.not_eq_true, Bool.or_eq_false_iff] at hb
      obtain ⟨⟨d32, d9⟩, d10⟩ := hb
      cases h37 : isB 37 c with
      | true =>
        have hp := pre_lt (p := fun d => !isB 10 d) (s := s) (i := i) (by omega)
        have hp1 : 1 ≤ pre (fun d => !isB 10 d) (s.drop i) := pre_pos hc (by have := isB_eq (n := 37) h37; subst this; rfl)
        have i1 := ih (i + pre (fun d => !isB 10 d) (s.drop i)) acc (by omega) (by omega) (by omega)
        have cm := run_ok (fun d => !isB 10 d) F.impl_SignsOf_1 SignsOf1_ok s (by omega) i (by omega)
        unfold isB at h37
        rw [if_pos rfl]
        simp only [go_sem, Nat.reduceAdd, Nat.reduceSub, Nat.reduceMul, Nat.reduceEqDiff, Nat.reduceLeDiff, Nat.reduceBEq, reduceCtorEq, LB.impl_SignsOf_0, h, ix, d32, d9, d10, h37, cm]
        exact i1
      | false =>
      unfold isB at h37
      rw [if_neg (by decide)]
      have sg := nextSign_ok s (by omega) i c hc
      obtain ⟨g1, g2⟩ := sgn_end s i c hc
      have i1 := ih (sgn s i c).2 (acc ++ [(sgn s i c).1.near' (decide (s[(sgn s i c).2]? = some 40))]) (by omega) g2 (by simp only [List.length_append, List.length_cons, List.length_nil]; omega)
      have l1 : decide ((acc.length + 1) * 48 ≤ lim) = true := decide_eq_true (by rw [lim_val]; omega)
      have l2 : decide (acc.length + 1 ≤ lim) = true := decide_eq_true (by rw [lim_val]; omega)
      have ea : acc.length + ((sgs s n (sgn s i c).2).length + 1) = acc.length + 1 + (sgs s n (sgn s i c).2).length := by omega
      rw [List.append_assoc, List.singleton_append] at i1
      unfold Sg.near' at i1
      rw [Sg.v] at sg
      by_cases hn : (sgn s i c).2 < s.length
      · have hn' : (((sgn s i c).2 : Nat) : Int) < s.length := by omega
        obtain ⟨d, ix2, hd⟩ := near_ix hn hl
        rw [← hd] at i1 ⊢
        simp only [go_sem, Nat.reduceAdd, Nat.reduceSub, Nat.reduceMul, Nat.reduceEqDiff, Nat.reduceLeDiff, Nat.reduceBEq, reduceCtorEq, LB.impl_SignsOf_0, h, ix, d32, d9, d10, h37, sg, hn', ix2, l1, l2, List.length_cons, List.length_nil, ea, Sg.near'] at i1 ⊢
        exact i1
      · have hn' : ¬ (((sgn s i c).2 : Nat) : Int) < s.length := by omega
        have hno : s[(sgn s i c).2]? = none := List.getElem?_eq_none (by omega)
        have hf : decide (s[(sgn s i c).2]? = some 40) = false := by rw [hno]; rfl
        rw [hf] at i1 ⊢
        simp only [go_sem, Nat.reduceAdd, Nat.reduceSub, Nat.reduceMul, Nat.reduceEqDiff, Nat.reduceLeDiff, Nat.reduceBEq, reduceCtorEq, LB.impl_SignsOf_0, h, ix, d32, d9, d10, h37, sg, hn', l1, l2, List.length_cons, List.length_nil, ea, Sg.near'] at i1 ⊢
        exact i1
    · have h : ¬ (i : Int) < s.length := by omega
      rw [sgs_end s _ i (by omega), List.append_nil, List.length_nil, Nat.add_zero]
      simp only [go_sem, Nat.reduceAdd, Nat.reduceSub, Nat.reduceMul, Nat.reduceEqDiff, Nat.reduceLeDiff, Nat.reduceBEq, reduceCtorEq, LB.impl_SignsOf_0, h]
def signsV (s : Str) : V := if s.length ≤ 3000 then .t [.o 5 ((signs s).map Sg.v), B true] else .t [.o 5 [], B false]
theorem spec_SignsOf_ok (s : Str) : cr progA F.spec_SignsOf [S s] = some (signsV s) := by
  rw [cr_fn pA_spec_SignsOf rfl]
  unfold signsV
  by_cases h : s.length ≤ 3000
  · have h' : ¬ (3000 : Int) < s.length := by omega
    have hlp := spec_SignsOf_loop s h s.length 0 [] (by omega) (by omega) (Nat.le_refl _)
    simp only [List.nil_append, List.length_nil, List.map_nil, Int.natCast_zero, Nat.zero_add] at hlp
    rw [if_pos h]
    unfold signs
    simp only [go_sem, Nat.reduceAdd, Nat.reduceSub, Nat.reduceMul, Nat.reduceEqDiff, Nat.reduceLeDiff, Nat.reduceBEq, reduceCtorEq, A.spec_SignsOf, h', hlp]
  · have h' : (3000 : Int) < s.length := by omega
    rw [if_neg h]
    simp only [go_sem, Nat.reduceAdd, Nat.reduceSub, Nat.reduceMul, Nat.reduceEqDiff, Nat.reduceLeDiff, Nat.reduceBEq, reduceCtorEq, A.spec_SignsOf, h']
theorem impl_SignsOf_ok (s : Str) : cr progA F.impl_SignsOf [S s] = some (signsV s) := by
  rw [cr_fn pA_impl_SignsOf rfl]
  unfold signsV
  by_cases h : s.length ≤ 3000
  · have h' : ¬ (3000 : Int) < s.length := by omega
    have hlp := impl_SignsOf_loop s h s.length 0 [] (by omega) (by omega) (Nat.le_refl _)
    simp only [List.nil_append, List.length_nil, List.map_nil, Int.natCast_zero, Nat.zero_add] at hlp
    rw [if_pos h]
    unfold signs
    simp only [go_sem, Nat.reduceAdd, Nat.reduceSub, Nat.reduceMul, Nat.reduceEqDiff, Nat.reduceLeDiff, Nat.reduceBEq, reduceCtorEq, A.impl_SignsOf, h', hlp]
  · have h' : (3000 : Int) < s.length := by omega
    rw [if_neg h]
    simp only [go_sem, Nat.reduceAdd, Nat.reduceSub, Nat.reduceMul, Nat.reduceEqDiff, Nat.reduceLeDiff, Nat.reduceBEq, reduceCtorEq, A.impl_SignsOf, h']
end Go.Vm

set_option autoImplicit false
set_option maxHeartbeats 8000000
set_option maxRecDepth 100000
set_option linter.unusedSimpArgs false
set_option linter.unusedVariables false
namespace Go.Vm
/-! ### how atoms are written -/
@[go_sem] theorem noTag_Sgv (x : Sg) : noTag x.v = true := (rfl)
@[go_sem] theorem conv_Sgv (τ : Bool) (x : Sg) : conv τ x.v = x.v := (rfl)
theorem one_one : ((1 : Nat) : Int) = 1 := rfl
theorem qText_eq (s : Str) (h : s.length ≤ 2^40) : binV .add (S [39]) (S s) = some (S (39 :: s)) ∧ binV .add (S (39 :: s)) (S [39]) = some (S (qText s)) :=
  ⟨binS_add (by simp only [List.length_cons, List.length_nil]; omega), binS_add (by simp only [List.length_cons, List.length_nil]; omega)⟩
theorem spec_AtomText_ok (s : Str) (h : s.length ≤ 3000) : cr progA F.spec_AtomText [S s] = some (S (atomText s)) := by
  have e := spec_SignsOf_ok s
  unfold signsV at e
  rw [if_pos h] at e
  obtain ⟨q1, q2⟩ := qText_eq s (by omega)
  rw [cr_fn pA_spec_AtomText rfl]
  unfold atomText
  cases hs : signs s with
  | nil => rw [hs] at e; simp only [go_sem, Nat.reduceAdd, Nat.reduceSub, Nat.reduceMul, Nat.reduceEqDiff, Nat.reduceLeDiff, Nat.reduceBEq, reduceCtorEq, A.spec_AtomText, e, List.map_nil, List.length_nil, Int.reduceEq, decide_false, q1, q2]
  | cons x r =>
    rw [hs] at e
    cases r with
    | cons y r =>
      have hn : decide (((r.length + 1 + 1 : Nat) : Int) = 1) = false := decide_eq_false (by omega)
      simp only [go_sem, Nat.reduceAdd, Nat.reduceSub, Nat.reduceMul, Nat.reduceEqDiff, Nat.reduceLeDiff, Nat.reduceBEq, reduceCtorEq, A.spec_AtomText, e, List.map_cons, List.length_cons, hn, q1, q2]
    | nil =>
      simp only
      by_cases hk : x.kind = 1
      · have dk : decide (x.kind = 1) = true := decide_eq_true hk
        by_cases ht : x.text = s
        · have dt : decide (x.text = s) = true := decide_eq_true ht
          rw [if_pos ⟨hk, ht⟩]
          simp only [go_sem, Nat.reduceAdd, Nat.reduceSub, Nat.reduceMul, Nat.reduceEqDiff, Nat.reduceLeDiff, Nat.reduceBEq, reduceCtorEq, A.spec_AtomText, e, List.map_cons, List.map_nil, List.length_cons, List.length_nil, one_one, Int.reduceEq, decide_true, Sg.v, dk, dt, q1, q2]
        · have dt : decide (x.text = s) = false := decide_eq_false ht
          rw [if_neg fun h => ht h.2]
          simp only [go_sem, Nat.reduceAdd, Nat.reduceSub, Nat.reduceMul, Nat.reduceEqDiff, Nat.reduceLeDiff, Nat.reduceBEq, reduceCtorEq, A.spec_AtomText, e, List.map_cons, List.map_nil, List.length_cons, List.length_nil, one_one, Int.reduceEq, decide_true, Sg.v, dk, dt, q1, q2]
      · have dk : decide (x.kind = 1) = false := decide_eq_false hk
        rw [if_neg fun h => hk h.1]
        simp only [go_sem, Nat.reduceAdd, Nat.reduceSub, Nat.reduceMul, Nat.reduceEqDiff, Nat.reduceLeDiff, Nat.reduceBEq, reduceCtorEq, A.spec_AtomText, e, List.map_cons, List.map_nil, List.length_cons, List.length_nil, one_one, Int.reduceEq, decide_true, Sg.v, dk, q1, q2]
theorem impl_AtomText_ok (s : Str) (h : s.length ≤ 3000) : cr progA F.impl_AtomText [S s] = some (S (atomText s)) := by
  have e := impl_SignsOf_ok s
  unfold signsV at e
  rw [if_pos h] at e
  obtain ⟨q1, q2⟩ := qText_eq s (by omega)
  rw [cr_fn pA_impl_AtomText rfl]
  unfold atomText
  cases hs : signs s with
  | nil => rw [hs] at e; simp only [go_sem, Nat.reduceAdd, Nat.reduceSub, Nat.reduceMul, Nat.reduceEqDiff, Nat.reduceLeDiff, Nat.reduceBEq, reduceCtorEq, A.impl_AtomText, e, List.map_nil, List.length_nil, Int.reduceEq, decide_false, q1, q2]
  | cons x r =>
    rw [hs] at e
    cases r with
    | cons y r =>
      have hn : decide (((r.length + 1 + 1 : Nat) : Int) = 1) = false := decide_eq_false (by omega)
      simp only [go_sem, Nat.reduceAdd, Nat.reduceSub, Nat.reduceMul, Nat.reduceEqDiff, Nat.reduceLeDiff, Nat.reduceBEq, reduceCtorEq, A.impl_AtomText, e, List.map_cons, List.length_cons, hn, q1, q2]
    | nil =>
      simp only
      by_cases hk : x.kind = 1
      · have dk : decide (x.kind = 1) = true := decide_eq_true hk
        by_cases ht : x.text = s
        · have dt : decide (x.text = s) = true := decide_eq_true ht
          rw [if_pos ⟨hk, ht⟩]
          simp only [go_sem, Nat.reduceAdd, Nat.reduceSub, Nat.reduceMul, Nat.reduceEqDiff, Nat.reduceLeDiff, Nat.reduceBEq, reduceCtorEq, A.impl_AtomText, e, List.map_cons, List.map_nil, List.length_cons, List.length_nil, one_one, Int.reduceEq, decide_true, Sg.v, dk, dt, q1, q2]
        · have dt : decide (x.text = s) = false := decide_eq_false ht
          rw [if_neg fun h => ht h.2]
          simp only [go_sem, Nat.reduceAdd, Nat.reduceSub, Nat.reduceMul, Nat.reduceEqDiff, Nat.reduceLeDiff, Nat.reduceBEq, reduceCtorEq, A.impl_AtomText, e, List.map_cons, List.map_nil, List.length_cons, List.length_nil, one_one, Int.reduceEq, decide_true, Sg.v, dk, dt, q1, q2]
      · have dk : decide (x.kind = 1) = false := decide_eq_false hk
        rw [if_neg fun h => hk h.1]
        simp only [go_sem, Nat.reduceAdd, Nat.reduceSub, Nat.reduceMul, Nat.reduceEqDiff, Nat.reduceLeDiff, Nat.reduceBEq, reduceCtorEq, A.impl_AtomText, e, List.map_cons, List.map_nil, List.length_cons, List.length_nil, one_one, Int.reduceEq, decide_true, Sg.v, dk, q1, q2]
theorem impl_PrefixOf_ok (s : Str) : cr progA F.impl_PrefixOf [S s] = some (preV s) := by
  rw [cr_fn pA_impl_PrefixOf rfl]
  by_cases h1 : s = [58, 45]
  · subst h1; simp (decide := true) only [go_sem, Nat.reduceAdd, Nat.reduceSub, Nat.reduceMul, Nat.reduceEqDiff, Nat.reduceLeDiff, Nat.reduceBEq, reduceCtorEq, A.impl_PrefixOf]; rfl
  by_cases h2 : s = [92, 43]
  · subst h2; simp (decide := true) only [go_sem, Nat.reduceAdd, Nat.reduceSub, Nat.reduceMul, Nat.reduceEqDiff, Nat.reduceLeDiff, Nat.reduceBEq, reduceCtorEq, A.impl_PrefixOf]; rfl
  by_cases h3 : s = [45]
  · subst h3; simp (decide := true) only [go_sem, Nat.reduceAdd, Nat.reduceSub, Nat.reduceMul, Nat.reduceEqDiff, Nat.reduceLeDiff, Nat.reduceBEq, reduceCtorEq, A.impl_PrefixOf]; rfl
  simp only [go_sem, Nat.reduceAdd, Nat.reduceSub, Nat.reduceMul, Nat.reduceEqDiff, Nat.reduceLeDiff, Nat.reduceBEq, reduceCtorEq, A.impl_PrefixOf, h1, h2, h3]
  simp [preV, prefixOf, h1, h2, h3]
theorem spec_PrefixOf_ok (s : Str) : cr progA F.spec_PrefixOf [S s] = some (preV s) := by
  rw [cr_fn pA_spec_PrefixOf rfl]
  by_cases h1 : s = [58, 45]
  · subst h1; simp (decide := true) only [go_sem, Nat.reduceAdd, Nat.reduceSub, Nat.reduceMul, Nat.reduceEqDiff, Nat.reduceLeDiff, Nat.reduceBEq, reduceCtorEq, A.spec_PrefixOf]; rfl
  by_cases h2 : s = [92, 43]
  · subst h2; simp (decide := true) only [go_sem, Nat.reduceAdd, Nat.reduceSub, Nat.reduceMul, Nat.reduceEqDiff, Nat.reduceLeDiff, Nat.reduceBEq, reduceCtorEq, A.spec_PrefixOf]; rfl
  by_cases h3 : s = [45]
  · subst h3; simp (decide := true) only [go_sem, Nat.reduceAdd, Nat.reduceSub, Nat.reduceMul, Nat.reduceEqDiff, Nat.reduceLeDiff, Nat.reduceBEq, reduceCtorEq, A.spec_PrefixOf]; rfl
  simp only [go_sem, Nat.reduceAdd, Nat.reduceSub, Nat.reduceMul, Nat.reduceEqDiff, Nat.reduceLeDiff, Nat.reduceBEq, reduceCtorEq, A.spec_PrefixOf, h1, h2, h3]
  simp [preV, prefixOf, h1, h2, h3]
theorem l07Op_ok (s : Str) : cr progA F.spec_l07Op [S s] = some (B (isOp s)) := by
  have e1 := spec_InfixOf_ok s
  have e2 := spec_PrefixOf_ok s
  unfold opV at e1
  unfold preV at e2
  rw [cr_fn pA_spec_l07Op rfl]
  unfold isOp
  cases h1 : decide ((infixOf s).prio ≠ 0) <;> cases h2 : decide ((prefixOf s).prio ≠ 0) <;> rw [h1] at e1 <;> rw [h2] at e2 <;> simp only [go_sem, Nat.reduceAdd, Nat.reduceSub, Nat.reduceMul, Nat.reduceEqDiff, Nat.reduceLeDiff, Nat.reduceBEq, reduceCtorEq, A.spec_l07Op, e1, e2, Bool.or_true, Bool.or_false, Bool.true_or]
theorem impl_isOp_ok (s : Str) : cr progA F.impl_isOp [S s] = some (B (isOp s)) := by
  have e1 := impl_InfixOf_ok s
  have e2 := impl_PrefixOf_ok s
  unfold opV at e1
  unfold preV at e2
  rw [cr_fn pA_impl_isOp rfl]
  unfold isOp
  cases h1 : decide ((infixOf s).prio ≠ 0) <;> cases h2 : decide ((prefixOf s).prio ≠ 0) <;> rw [h1] at e1 <;> rw [h2] at e2 <;> simp only [go_sem, Nat.reduceAdd, Nat.reduceSub, Nat.reduceMul, Nat.reduceEqDiff, Nat.reduceLeDiff, Nat.reduceBEq, reduceCtorEq, A.impl_isOp, e1, e2, Bool.or_true, Bool.or_false, Bool.true_or]
theorem impl_signText_ok (s : Str) (h : s.length ≤ 3000) : cr progA F.impl_signText [S s] = some (S (signText s)) := by
  have e := impl_AtomText_ok s h
  rw [cr_fn pA_impl_signText rfl]
  unfold signText
  by_cases h1 : s = [44]
  · have d : decide (s = [44]) = true := decide_eq_true h1
    rw [if_pos h1]
    simp only [go_sem, Nat.reduceAdd, Nat.reduceSub, Nat.reduceMul, Nat.reduceEqDiff, Nat.reduceLeDiff, Nat.reduceBEq, reduceCtorEq, A.impl_signText, d]
    rw [h1]
  · have d : decide (s = [44]) = false := decide_eq_false h1
    rw [if_neg h1]
    simp only [go_sem, Nat.reduceAdd, Nat.reduceSub, Nat.reduceMul, Nat.reduceEqDiff, Nat.reduceLeDiff, Nat.reduceBEq, reduceCtorEq, A.impl_signText, d, e]
/-! what terms are -/
def isStr (t : Tm) (s : Str) (n : Int) : Bool := decide (t.kind = 4) && (decide (t.name = s) && decide ((t.kids.length : Int) = n))
def isAt (t : Tm) (s : Str) : Bool := decide (t.kind = 2) && decide (t.name = s)
theorem impl_isStruct_ok (t : Tm) (v : V) (hb : BT t v) (s : Str) (n : Int) : cr progA F.impl_isStruct [v, S s, I n] = some (B (isStr t s n)) := by
  obtain ⟨τ, vs, rfl, hv⟩ := BT_shape hb
  have hl := RL_length hv
  rw [cr_fn pA_impl_isStruct rfl]
  unfold isStr
  cases h1 : decide (t.kind = 4) <;> cases h2 : decide (t.name = s) <;> simp only [go_sem, Nat.reduceAdd, Nat.reduceSub, Nat.reduceMul, Nat.reduceEqDiff, Nat.reduceLeDiff, Nat.reduceBEq, reduceCtorEq, A.impl_isStruct, h1, h2, hl, Bool.true_and, Bool.false_and]
theorem l03Is_ok (t : Tm) (v : V) (hb : BT t v) (s : Str) (n : Int) : cr progA F.spec_l03Is [v, S s, I n] = some (B (isStr t s n)) := by
  obtain ⟨τ, vs, rfl, hv⟩ := BT_shape hb
  have hl := RL_length hv
  rw [cr_fn pA_spec_l03Is rfl]
  unfold isStr
  cases h1 : decide (t.kind = 4) <;> cases h2 : decide (t.name = s) <;> simp only [go_sem, Nat.reduceAdd, Nat.reduceSub, Nat.reduceMul, Nat.reduceEqDiff, Nat.reduceLeDiff, Nat.reduceBEq, reduceCtorEq, A.spec_l03Is, h1, h2, hl, Bool.true_and, Bool.false_and]
theorem impl_isAtom_ok (t : Tm) (v : V) (hb : BT t v) (s : Str) : cr progA F.impl_isAtom [v, S s] = some (B (isAt t s)) := by
  obtain ⟨τ, vs, rfl, hv⟩ := BT_shape hb
  rw [cr_fn pA_impl_isAtom rfl]
  unfold isAt
  cases h1 : decide (t.kind = 2) <;> simp only [go_sem, Nat.reduceAdd, Nat.reduceSub, Nat.reduceMul, Nat.reduceEqDiff, Nat.reduceLeDiff, Nat.reduceBEq, reduceCtorEq, A.impl_isAtom, h1, Bool.true_and, Bool.false_and]
theorem impl_isPair_ok (t : Tm) (v : V) (hb : BT t v) : cr progA F.impl_isPair [v] = some (B (isStr t [46] 2)) := by
  have h := impl_isStruct_ok t v hb [46] 2
  obtain ⟨τ, vs, rfl, hv⟩ := BT_shape hb
  rw [cr_fn pA_impl_isPair rfl]
  simp only [go_sem, Nat.reduceAdd, Nat.reduceSub, Nat.reduceMul, Nat.reduceEqDiff, Nat.reduceLeDiff, Nat.reduceBEq, reduceCtorEq, A.impl_isPair, h]
end Go.Vm

set_option autoImplicit false
set_option maxHeartbeats 8000000
set_option maxRecDepth 100000
set_option linter.unusedSimpArgs false
set_option linter.unusedVariables false
namespace Go.Vm
open Go.Lib (itoa join joinTail decDigits)
/-! ### what is written, case by case -/
def Rt (t : Tm) : Prop := ∃ d, rightT d t = true
theorem Rt_kids {t : Tm} (h : Rt t) : ∀ u ∈ t.kids, Rt u := by
  obtain ⟨d, h⟩ := h
  exact fun u hu => ⟨d + 1, (rightT_one h).2 u hu⟩
theorem Rt_ok {t : Tm} (h : Rt t) : okOne t = true := by obtain ⟨d, h⟩ := h; exact (rightT_one h).1
theorem Rt_len (p : Bool) {t : Tm} (h : Rt t) : (wr p t).length + 10 ≤ 60 * nT t ∧ (wrR p t).length ≤ 60 * nT t := by
  obtain ⟨d, h⟩ := h; exact wr_len p t d h
theorem held_len (p : Bool) (m : Int) {t : Tm} (h : Rt t) : (held p m t).length + 8 ≤ 60 * nT t := by
  have h1 := (Rt_len p h).1
  have h2 := hold_len p m (prioOf t) (wr p t)
  unfold held
  omega
theorem isStr_of {t : Tm} {s : Str} (h : isStr t s 2 = true) : t.kind = 4 ∧ t.name = s ∧ ∃ a b, t.kids = [a, b] := by
  unfold isStr at h
  simp only [Bool.and_eq_true, decide_eq_true_eq] at h
  refine ⟨h.1, h.2.1, ?_⟩
  have h2 : t.kids.length = 2 := by omega
  rcases hk : t.kids with _ | ⟨x, _ | ⟨y, _ | ⟨z, r⟩⟩⟩ <;> rw [hk] at h2 <;> simp at h2
  exact ⟨x, y, rfl⟩
theorem isStr_mk {t a b : Tm} {s : Str} (h1 : t.kind = 4) (h2 : t.name = s) (h3 : t.kids = [a, b]) : isStr t s 2 = true := by
  unfold isStr; rw [decide_eq_true h1, decide_eq_true h2, h3]; rfl
theorem nT_two {t a b : Tm} (h : t.kids = [a, b]) : nT t = nT a + nT b + 1 := by
  have := nT_kids t
  rw [h] at this
  simp only [nTs] at this
  omega
theorem held_eq (p : Bool) (m : Int) (t : Tm) : held p m t = hold p m (wk p t).prio (wk p t).raw := by unfold held wr; rw [wk_prio]
theorem wr_var (p : Bool) {t : Tm} (h : t.kind = 1) : wr p t = [95] ++ itoa t.num := by rw [wr_eq]; unfold rawW; rw [if_pos h]
theorem wr_int (p : Bool) {t : Tm} (h : t.kind = 3) : wr p t = itoa t.num := by rw [wr_eq]; unfold rawW; rw [if_neg (by omega), if_pos h]
theorem wr_atom (p : Bool) {t : Tm} (h : t.kind = 2) : wr p t = if t.name = [91, 93] then [91, 93] else if isOp t.name = true then [40] ++ atomText t.name ++ [41] else atomText t.name := by
  rw [wr_eq]; unfold rawW; rw [if_neg (by omega), if_neg (by omega), if_pos h]
theorem wr_pair (p : Bool) {t a b : Tm} (h : isStr t [46] 2 = true) (hk : t.kids = [a, b]) : wr p t = [91] ++ held p 999 a ++ wrR p b := by
  obtain ⟨h1, h2, -⟩ := isStr_of h
  rw [wr_eq, hk, held_eq]
  unfold rawW
  rw [if_neg (by omega), if_neg (by omega), if_neg (by omega)]
  simp only [List.map_cons, List.map_nil]
  rw [if_pos h2]
  rfl
theorem wr_inf (p : Bool) {t a b : Tm} (h : t.kind = 4) (hk : t.kids = [a, b]) (hi : (infixOf t.name).prio ≠ 0) : wr p t = infW p t.name (wk p a) (wk p b) := by
  rw [wr_eq, hk]
  unfold rawW
  rw [if_neg (by omega), if_neg (by omega), if_neg (by omega)]
  simp only [List.map_cons, List.map_nil]
  rw [if_neg (by intro e; rw [e] at hi; exact hi rfl), if_pos hi]
theorem gen_eq (p : Bool) (s : Str) (ks : List Tm) : genW p s (ks.map (wk p)) = atomText s ++ [40] ++ join (ks.map (held p 999)) [44] ++ [41] := by
  unfold genW
  rw [List.map_map]
  have : ((fun k : Kd => hold p 999 k.prio k.raw) ∘ wk p) = held p 999 := by funext t; rw [held_eq]; rfl
  rw [this]
theorem wr_gen (p : Bool) {t : Tm} (h : t.kind = 4) (h1 : isStr t [46] 2 = false) (h2 : prioOf t = 0) : wr p t = atomText t.name ++ [40] ++ join (t.kids.map (held p 999)) [44] ++ [41] := by
  rw [wr_eq, ← gen_eq]
  unfold rawW
  rw [if_neg (by omega), if_neg (by omega), if_neg (by omega)]
  rcases hk : t.kids with _ | ⟨x, _ | ⟨y, _ | ⟨z, r⟩⟩⟩ <;> simp only [List.map_cons, List.map_nil]
  have hn : ¬ t.name = [46] := fun e => by rw [isStr_mk h e hk] at h1; cases h1
  have hp : ¬ (infixOf t.name).prio ≠ 0 := by
    unfold prioOf at h2
    rw [if_pos ⟨h, by rw [hk]; rfl⟩] at h2
    exact fun e => e h2
  rw [if_neg hn, if_neg hp]
theorem wrR_pair (p : Bool) {t a b : Tm} (h : isStr t [46] 2 = true) (hk : t.kids = [a, b]) : wrR p t = [44] ++ held p 999 a ++ wrR p b := by
  obtain ⟨h1, h2, -⟩ := isStr_of h
  rw [wrR_eq, hk, held_eq]
  unfold restW
  rw [if_neg (by omega)]
  simp only [List.map_cons, List.map_nil]
  rw [if_pos ⟨h1, h2⟩]
  rfl
theorem wrR_nil (p : Bool) {t : Tm} (h : isAt t [91, 93] = true) : wrR p t = [93] := by
  unfold isAt at h
  simp only [Bool.and_eq_true, decide_eq_true_eq] at h
  rw [wrR_eq]
  unfold restW
  rw [if_pos h]
theorem wrR_else (p : Bool) {t : Tm} (h : isAt t [91, 93] = false) (h1 : isStr t [46] 2 = false) : wrR p t = [124] ++ held p 999 t ++ [93] := by
  have hn : ¬ (t.kind = 2 ∧ t.name = [91, 93]) := fun ⟨e1, e2⟩ => by unfold isAt at h; rw [decide_eq_true e1, decide_eq_true e2] at h; cases h
  rw [wrR_eq]
  unfold restW
  rw [if_neg hn]
  rcases hk : t.kids with _ | ⟨x, _ | ⟨y, _ | ⟨z, r⟩⟩⟩ <;> simp only [List.map_cons, List.map_nil] <;> try rfl
  rw [if_neg fun e => by rw [isStr_mk e.1 e.2 hk] at h1; cases h1]
  rfl
theorem itoa_neg {n : Int} (h : n < 0) : itoa n = [45] ++ itoa (0 - n) := by
  unfold itoa
  rw [if_pos h, if_neg (by omega), show (0 - n).toNat = n.natAbs by omega]
  rfl
theorem join_cons' (x : Str) (r : List Str) : join (x :: r) [44] = x ++ joinTail [44] r := Go.Lib.join_cons x r [44]
theorem joinTail_cons (x : Str) (r : List Str) : joinTail [44] (x :: r) = [44] ++ x ++ joinTail [44] r := by simp [joinTail]
theorem RL_two {R : Tm → V → Prop} {a b : Tm} {vs : List V} (h : RL R [a, b] vs) : ∃ va vb, vs = [va, vb] ∧ R a va ∧ R b vb := by
  simp only [RL] at h
  obtain ⟨va, r, rfl, h1, vb, r', rfl, h2, rfl⟩ := h
  exact ⟨va, vb, rfl, h1, h2⟩
end Go.Vm

set_option autoImplicit false
set_option maxHeartbeats 8000000
set_option maxRecDepth 100000
set_option linter.unusedSimpArgs false
set_option linter.unusedVariables false
namespace Go.Vm
open Go.Lib (itoa join joinTail)

theorem l07Row_loop (N : Nat) (hN : N ≤ 401) (hW : ∀ u, nT u < N → Rt u → WT u → ∀ v, BT u v → cr progA F.spec_l07Write [v] = some (S (held false 999 u))) :
    ∀ (n : Nat) (b : Tm), nT b ≤ n → nT b < N → Rt b → WT b → ∀ (t a : Tm) (v : V), BT t v → t.kids = [a, b] → ∀ acc : Str, acc.length + 60 * nT b ≤ 2^40 →
    ∃ t' v' a' b' acc', BT t' v' ∧ t'.kids = [a', b'] ∧ isStr b' [46] 2 = false ∧ nT b' ≤ nT b ∧ Rt b' ∧ WT b' ∧ acc' ++ wrR false b' = acc ++ wrR false b ∧ acc'.length + 60 * nT b' ≤ 2^40 ∧
      lw progA L.spec_l07Row_0 ⟨[(1, .p (100000, 0) 0 0), (3, S acc)], [((100000, 0), 4, [v])]⟩ = some (.exit 0, ⟨[(1, .p (100000, 0) 0 0), (3, S acc')], [((100000, 0), 4, [v'])]⟩) := by
  intro n
  induction n with
  | zero => intro b hn; have := nT_pos b; omega
  | succ n ih =>
    intro b hn hbN hr hw t a v hb hk acc hacc
    obtain ⟨τ, vs, rfl, hv⟩ := BT_shape hb
    rw [hk] at hv
    obtain ⟨va, vb, rfl, ha, hb'⟩ := RL_two hv
    have is := l03Is_ok b vb hb' [46] 2
    have ca := BT_cells ha
    have cb := BT_cells hb'
    cases h2 : isStr b [46] 2 with
    | false =>
      refine ⟨t, _, a, b, acc, hb, hk, h2, Nat.le_refl _, hr, hw, rfl, hacc, ?_⟩
      rw [h2] at is
      obtain ⟨τb, vsb, rfl, -⟩ := BT_shape hb'
      rw [lw_eq]
      simp only [go_sem, Nat.reduceAdd, Nat.reduceSub, Nat.reduceMul, Nat.reduceEqDiff, Nat.reduceLeDiff, Nat.reduceBEq, reduceCtorEq, LB.spec_l07Row_0, is]
    | true =>
      rw [h2] at is
      obtain ⟨-, -, a2, b2, hk2⟩ := isStr_of h2
      have hnt := nT_two hk2
      have ra := Rt_kids hr a2 (by rw [hk2]; simp)
      have rb := Rt_kids hr b2 (by rw [hk2]; simp)
      have wa := WT_kids hw a2 (by rw [hk2]; simp)
      have wb := WT_kids hw b2 (by rw [hk2]; simp)
      have hl := held_len false 999 ra
      obtain ⟨t', v', a', b', acc', g1, g2, g3, g4, g5, g6, g7, g8, g9⟩ := ih b2 (by have := nT_pos a2; omega) (by omega) rb wb b a2 vb hb' hk2 (acc ++ [44] ++ held false 999 a2) (by simp only [List.length_append, List.length_cons, List.length_nil]; omega)
      refine ⟨t', v', a', b', acc', g1, g2, g3, by omega, g5, g6, ?_, g8, ?_⟩
      · rw [g7, wrR_pair false h2 hk2]; simp only [List.append_assoc]
      · obtain ⟨τb, vsb, rfl, hvb⟩ := BT_shape hb'
        rw [hk2] at hvb
        obtain ⟨va2, vb2, rfl, ha2, hb2⟩ := RL_two hvb
        have cw2 := hW a2 (by omega) ra wa va2 ha2
        have s1 : binV .add (S acc) (S [44]) = _ := binS_add (by simp only [List.length_cons, List.length_nil]; omega)
        have s2 : binV .add (S (acc ++ [44])) (S (held false 999 a2)) = _ := binS_add (by simp only [List.length_append, List.length_cons, List.length_nil]; omega)
        obtain ⟨τa, vsa, rfl, -⟩ := BT_shape ha2
        obtain ⟨τ2, vs2, rfl, -⟩ := BT_shape hb2
        rw [lw_eq]
        simp only [go_sem, Nat.reduceAdd, Nat.reduceSub, Nat.reduceMul, Nat.reduceEqDiff, Nat.reduceLeDiff, Nat.reduceBEq, reduceCtorEq, LB.spec_l07Row_0, is, cw2, s1, s2]
        exact g9
theorem l07Row_ok (t : Tm) (h2 : isStr t [46] 2 = true) (hN : nT t ≤ 400) (hr : Rt t) (hw : WT t) (hW : ∀ u, nT u < nT t → Rt u → WT u → ∀ v, BT u v → cr progA F.spec_l07Write [v] = some (S (held false 999 u))) (v : V) (hb : BT t v) :
    cr progA F.spec_l07Row [v] = some (S (wr false t)) := by
  obtain ⟨-, -, a, b, hk⟩ := isStr_of h2
  have hnt := nT_two hk
  have ra := Rt_kids hr a (by rw [hk]; simp)
  have rb := Rt_kids hr b (by rw [hk]; simp)
  have wa := WT_kids hw a (by rw [hk]; simp)
  have wb := WT_kids hw b (by rw [hk]; simp)
  have hl := held_len false 999 ra
  have hpa := nT_pos a
  obtain ⟨t', v', a', b', acc', g1, g2, g3, g4, g5, g6, g7, g8, g9⟩ := l07Row_loop (nT t) (by omega) hW (nT b) b (Nat.le_refl _) (by omega) rb wb t a v hb hk ([91] ++ held false 999 a) (by simp only [List.length_append, List.length_cons, List.length_nil]; omega)
  have hl' := held_len false 999 g5
  rw [wr_pair false h2 hk, ← g7]
  obtain ⟨τ, vs, rfl, hv⟩ := BT_shape hb
  rw [hk] at hv
  obtain ⟨va, vb, rfl, ha, hb'⟩ := RL_two hv
  obtain ⟨τ', vs', rfl, hv'⟩ := BT_shape g1
  rw [g2] at hv'
  obtain ⟨va', vb', rfl, ha', hb2⟩ := RL_two hv'
  have cw1 := hW a (by omega) ra wa va ha
  have cw2 := hW b' (by omega) g5 g6 vb' hb2
  have s1 : binV .add (S [91]) (S (held false 999 a)) = _ := binS_add (by simp only [List.length_cons, List.length_nil]; omega)
  obtain ⟨τa, vsa, rfl, -⟩ := BT_shape ha
  obtain ⟨τb, vsb, rfl, -⟩ := BT_shape hb'
  obtain ⟨τc, vsc, rfl, -⟩ := BT_shape ha'
  obtain ⟨τd, vsd, rfl, -⟩ := BT_shape hb2
  rw [cr_fn pA_spec_l07Row rfl]
  simp only [List.cons_append, List.nil_append] at g9 s1
  cases hn : isAt b' [91, 93] with
  | true =>
    have s2 : binV .add (S acc') (S [93]) = _ := binS_add (by simp only [List.length_cons, List.length_nil]; omega)
    rw [wrR_nil false hn]
    unfold isAt at hn
    rw [Bool.and_eq_true] at hn
    simp only [go_sem, Nat.reduceAdd, Nat.reduceSub, Nat.reduceMul, Nat.reduceEqDiff, Nat.reduceLeDiff, Nat.reduceBEq, reduceCtorEq, A.spec_l07Row, cw1, s1, g9, hn.1, hn.2, s2]
  | false =>
    have s2 : binV .add (S acc') (S [124]) = _ := binS_add (by simp only [List.length_cons, List.length_nil]; omega)
    have s3 : binV .add (S (acc' ++ [124])) (S (held false 999 b')) = _ := binS_add (by simp only [List.length_append, List.length_cons, List.length_nil]; omega)
    have s4 : binV .add (S (acc' ++ [124] ++ held false 999 b')) (S [93]) = _ := binS_add (by simp only [List.length_append, List.length_cons, List.length_nil]; omega)
    have he : acc' ++ ([124] ++ held false 999 b' ++ [93]) = acc' ++ [124] ++ held false 999 b' ++ [93] := by simp only [List.append_assoc]
    rw [wrR_else false hn g3, he]
    unfold isAt at hn
    cases d2 : decide (b'.kind = 2) with
    | false => simp only [go_sem, Nat.reduceAdd, Nat.reduceSub, Nat.reduceMul, Nat.reduceEqDiff, Nat.reduceLeDiff, Nat.reduceBEq, reduceCtorEq, A.spec_l07Row, cw1, s1, g9, d2, s2, cw2, s3, s4]
    | true =>
      rw [d2, Bool.true_and] at hn
      simp only [go_sem, Nat.reduceAdd, Nat.reduceSub, Nat.reduceMul, Nat.reduceEqDiff, Nat.reduceLeDiff, Nat.reduceBEq, reduceCtorEq, A.spec_l07Row, cw1, s1, g9, d2, hn, s2, cw2, s3, s4]
theorem l07Gen_loop (t : Tm) (τ : Bool) (vs : List V) (hv : RL BT t.kids vs) (hlim : t.kids.length ≤ 5) (hks : ∀ u ∈ t.kids, ∀ v, BT u v → cr progA F.spec_l07Write [v] = some (S (held false 999 u))) (hbd : ∀ u ∈ t.kids, (held false 999 u).length ≤ 30000) (m : Nat) :
    ∀ (i : Nat) (acc : Str), i + m = t.kids.length → 1 ≤ i → acc.length + m * 30001 ≤ 2^40 →
    lw progA L.spec_l07Write_0 ⟨[(1, .p (100000, 0) 0 0), (6, S acc), (7, I i)], [((100000, 0), 4, [.a [I t.kind, S t.name, I t.num, .i τ vs]])]⟩ =
      some (.exit 1, ⟨[(6, S (acc ++ joinTail [44] ((t.kids.drop i).map (held false 999))))], [((100000, 0), 4, [.a [I t.kind, S t.name, I t.num, .i τ vs]])]⟩) := by
  have hn := RL_length hv
  induction m with
  | zero =>
    intro i acc hi h1 h2
    have h : ¬ (i : Int) < t.kids.length := by omega
    rw [List.drop_eq_nil_of_le (by omega), lw_eq]
    simp only [go_sem, Nat.reduceAdd, Nat.reduceSub, Nat.reduceMul, Nat.reduceEqDiff, Nat.reduceLeDiff, Nat.reduceBEq, reduceCtorEq, LB.spec_l07Write_0, hn, h, List.map_nil, joinTail, List.flatten_nil, List.append_nil]
  | succ m ih =>
    intro i acc hi h1 h2
    have h : (i : Int) < t.kids.length := by omega
    have h0 : (0 : Int) < i := by omega
    obtain ⟨u, hu⟩ := get_some' (l := t.kids) (i := i) (by omega)
    have hm := List.mem_of_getElem? hu
    obtain ⟨v, gv, hbt⟩ := RL_get hv hu
    have a1 := fun T => addr_i (τ := τ) (T := T) gv (BT_cells hbt)
    have cc := hks u hm v hbt
    have hl := hbd u hm
    have e1 : w64 ((i : Int) + 1) = ((i + 1 : Nat) : Int) := by rw [w64_id] <;> omega
    have s1 : binV .add (S acc) (S [44]) = _ := binS_add (by simp only [List.length_cons, List.length_nil]; omega)
    have s2 : binV .add (S (acc ++ [44])) (S (held false 999 u)) = _ := binS_add (by simp only [List.length_append, List.length_cons, List.length_nil]; omega)
    have i1 := ih (i + 1) (acc ++ [44] ++ held false 999 u) (by omega) (by omega) (by simp only [List.length_append, List.length_cons, List.length_nil]; omega)
    have he : acc ++ ([44] ++ held false 999 u ++ joinTail [44] ((t.kids.drop (i + 1)).map (held false 999))) = acc ++ [44] ++ held false 999 u ++ joinTail [44] ((t.kids.drop (i + 1)).map (held false 999)) := by simp only [List.append_assoc]
    rw [drop_cons' hu, List.map_cons, joinTail_cons, he]
    obtain ⟨σ1, ws, rfl, -⟩ := BT_shape hbt
    rw [lw_eq]
    simp only [go_sem, Nat.reduceAdd, Nat.reduceSub, Nat.reduceMul, Nat.reduceEqDiff, Nat.reduceLeDiff, Nat.reduceBEq, reduceCtorEq, LB.spec_l07Write_0, hn, h, h0, a1, gv, cc, e1, s1, s2]
    exact i1
theorem l07Gen_first (t : Tm) (τ : Bool) (vs : List V) (hv : RL BT t.kids vs) (hlim : t.kids.length ≤ 5) (h1 : 1 ≤ t.kids.length) (hks : ∀ u ∈ t.kids, ∀ v, BT u v → cr progA F.spec_l07Write [v] = some (S (held false 999 u))) (hbd : ∀ u ∈ t.kids, (held false 999 u).length ≤ 30000) (acc : Str) (hacc : acc.length ≤ 100000) :
    lw progA L.spec_l07Write_0 ⟨[(1, .p (100000, 0) 0 0), (6, S acc), (7, I 0)], [((100000, 0), 4, [.a [I t.kind, S t.name, I t.num, .i τ vs]])]⟩ =
      some (.exit 1, ⟨[(6, S (acc ++ join (t.kids.map (held false 999)) [44]))], [((100000, 0), 4, [.a [I t.kind, S t.name, I t.num, .i τ vs]])]⟩) := by
  have hn := RL_length hv
  have h : (0 : Int) < t.kids.length := by omega
  obtain ⟨u, hu⟩ := get_some' (l := t.kids) (i := 0) (by omega)
  have hm := List.mem_of_getElem? hu
  obtain ⟨v, gv, hbt⟩ := RL_get hv hu
  have a1 := fun T => addr_i (τ := τ) (T := T) gv (BT_cells hbt)
  have cc := hks u hm v hbt
  have hl := hbd u hm
  have e1 : w64 ((0 : Int) + 1) = ((1 : Nat) : Int) := rfl
  have s2 : binV .add (S acc) (S (held false 999 u)) = _ := binS_add (by omega)
  have i1 := l07Gen_loop t τ vs hv hlim hks hbd (t.kids.length - 1) 1 (acc ++ held false 999 u) (by omega) (by omega) (by simp only [List.length_append]; omega)
  have hd := drop_cons' hu
  rw [List.drop_zero] at hd
  have hj : join (t.kids.map (held false 999)) [44] = held false 999 u ++ joinTail [44] ((t.kids.drop 1).map (held false 999)) := by
    conv => lhs; rw [hd]
    rw [List.map_cons, join_cons']
  rw [hj, ← List.append_assoc]
  simp only [Int.natCast_zero] at a1
  obtain ⟨σ1, ws, rfl, -⟩ := BT_shape hbt
  rw [lw_eq]
  simp only [go_sem, Nat.reduceAdd, Nat.reduceSub, Nat.reduceMul, Nat.reduceEqDiff, Nat.reduceLeDiff, Nat.reduceBEq, reduceCtorEq, LB.spec_l07Write_0, hn, h, a1, gv, cc, e1, s2]
  exact i1

theorem l28Row_loop (N : Nat) (hN : N ≤ 401) (hW : ∀ u, nT u < N → Rt u → WT u → ∀ v, BT u v → cr progA F.spec_l28Held [v, I 999] = some (S (held true 999 u))) :
    ∀ (n : Nat) (b : Tm), nT b ≤ n → nT b < N → Rt b → WT b → ∀ (t a : Tm) (v : V), BT t v → t.kids = [a, b] → ∀ acc : Str, acc.length + 60 * nT b ≤ 2^40 →
    ∃ t' v' a' b' acc', BT t' v' ∧ t'.kids = [a', b'] ∧ isStr b' [46] 2 = false ∧ nT b' ≤ nT b ∧ Rt b' ∧ WT b' ∧ acc' ++ wrR true b' = acc ++ wrR true b ∧ acc'.length + 60 * nT b' ≤ 2^40 ∧
      lw progA L.spec_l28Row_0 ⟨[(1, .p (100000, 0) 0 0), (3, S acc)], [((100000, 0), 4, [v])]⟩ = some (.exit 0, ⟨[(1, .p (100000, 0) 0 0), (3, S acc')], [((100000, 0), 4, [v'])]⟩) := by
  intro n
  induction n with
  | zero => intro b hn; have := nT_pos b; omega
  | succ n ih =>
    intro b hn hbN hr hw t a v hb hk acc hacc
    obtain ⟨τ, vs, rfl, hv⟩ := BT_shape hb
    rw [hk] at hv
    obtain ⟨va, vb, rfl, ha, hb'⟩ := RL_two hv
    have is := l03Is_ok b vb hb' [46] 2
    have ca := BT_cells ha
    have cb := BT_cells hb'
    cases h2 : isStr b [46] 2 with
    | false =>
      refine ⟨t, _, a, b, acc, hb, hk, h2, Nat.le_refl _, hr, hw, rfl, hacc, ?_⟩
      rw [h2] at is
      obtain ⟨τb, vsb, rfl, -⟩ := BT_shape hb'
      rw [lw_eq]
      simp only [go_sem, Nat.reduceAdd, Nat.reduceSub, Nat.reduceMul, Nat.reduceEqDiff, Nat.reduceLeDiff, Nat.reduceBEq, reduceCtorEq, LB.spec_l28Row_0, is]
    | true =>
      rw [h2] at is
      obtain ⟨-, -, a2, b2, hk2⟩ := isStr_of h2
      have hnt := nT_two hk2
      have ra := Rt_kids hr a2 (by rw [hk2]; simp)
      have rb := Rt_kids hr b2 (by rw [hk2]; simp)
      have wa := WT_kids hw a2 (by rw [hk2]; simp)
      have wb := WT_kids hw b2 (by rw [hk2]; simp)
      have hl := held_len true 999 ra
      obtain ⟨t', v', a', b', acc', g1, g2, g3, g4, g5, g6, g7, g8, g9⟩ := ih b2 (by have := nT_pos a2; omega) (by omega) rb wb b a2 vb hb' hk2 (acc ++ [44] ++ held true 999 a2) (by simp only [List.length_append, List.length_cons, List.length_nil]; omega)
      refine ⟨t', v', a', b', acc', g1, g2, g3, by omega, g5, g6, ?_, g8, ?_⟩
      · rw [g7, wrR_pair true h2 hk2]; simp only [List.append_assoc]
      · obtain ⟨τb, vsb, rfl, hvb⟩ := BT_shape hb'
        rw [hk2] at hvb
        obtain ⟨va2, vb2, rfl, ha2, hb2⟩ := RL_two hvb
        have cw2 := hW a2 (by omega) ra wa va2 ha2
        have s1 : binV .add (S acc) (S [44]) = _ := binS_add (by simp only [List.length_cons, List.length_nil]; omega)
        have s2 : binV .add (S (acc ++ [44])) (S (held true 999 a2)) = _ := binS_add (by simp only [List.length_append, List.length_cons, List.length_nil]; omega)
        obtain ⟨τa, vsa, rfl, -⟩ := BT_shape ha2
        obtain ⟨τ2, vs2, rfl, -⟩ := BT_shape hb2
        rw [lw_eq]
        simp only [go_sem, Nat.reduceAdd, Nat.reduceSub, Nat.reduceMul, Nat.reduceEqDiff, Nat.reduceLeDiff, Nat.reduceBEq, reduceCtorEq, LB.spec_l28Row_0, is, cw2, s1, s2]
        exact g9
theorem l28Row_ok (t : Tm) (h2 : isStr t [46] 2 = true) (hN : nT t ≤ 400) (hr : Rt t) (hw : WT t) (hW : ∀ u, nT u < nT t → Rt u → WT u → ∀ v, BT u v → cr progA F.spec_l28Held [v, I 999] = some (S (held true 999 u))) (v : V) (hb : BT t v) :
    cr progA F.spec_l28Row [v] = some (S (wr true t)) := by
  obtain ⟨-, -, a, b, hk⟩ := isStr_of h2
  have hnt := nT_two hk
  have ra := Rt_kids hr a (by rw [hk]; simp)
  have rb := Rt_kids hr b (by rw [hk]; simp)
  have wa := WT_kids hw a (by rw [hk]; simp)
  have wb := WT_kids hw b (by rw [hk]; simp)
  have hl := held_len true 999 ra
  have hpa := nT_pos a
  obtain ⟨t', v', a', b', acc', g1, g2, g3, g4, g5, g6, g7, g8, g9⟩ := l28Row_loop (nT t) (by omega) hW (nT b) b (Nat.le_refl _) (by omega) rb wb t a v hb hk ([91] ++ held true 999 a) (by simp only [List.length_append, List.length_cons, List.length_nil]; omega)
  have hl' := held_len true 999 g5
  rw [wr_pair true h2 hk, ← g7]
  obtain ⟨τ, vs, rfl, hv⟩ := BT_shape hb
  rw [hk] at hv
  obtain ⟨va, vb, rfl, ha, hb'⟩ := RL_two hv
  obtain ⟨τ', vs', rfl, hv'⟩ := BT_shape g1
  rw [g2] at hv'
  obtain ⟨va', vb', rfl, ha', hb2⟩ := RL_two hv'
  have cw1 := hW a (by omega) ra wa va ha
  have cw2 := hW b' (by omega) g5 g6 vb' hb2
  have s1 : binV .add (S [91]) (S (held true 999 a)) = _ := binS_add (by simp only [List.length_cons, List.length_nil]; omega)
  obtain ⟨τa, vsa, rfl, -⟩ := BT_shape ha
  obtain ⟨τb, vsb, rfl, -⟩ := BT_shape hb'
  obtain ⟨τc, vsc, rfl, -⟩ := BT_shape ha'
  obtain ⟨τd, vsd, rfl, -⟩ := BT_shape hb2
  rw [cr_fn pA_spec_l28Row rfl]
  simp only [List.cons_append, List.nil_append] at g9 s1
  cases hn : isAt b' [91, 93] with
  | true =>
    have s2 : binV .add (S acc') (S [93]) = _ := binS_add (by simp only [List.length_cons, List.length_nil]; omega)
    rw [wrR_nil true hn]
    unfold isAt at hn
    rw [Bool.and_eq_true] at hn
    simp only [go_sem, Nat.reduceAdd, Nat.reduceSub, Nat.reduceMul, Nat.reduceEqDiff, Nat.reduceLeDiff, Nat.reduceBEq, reduceCtorEq, A.spec_l28Row, cw1, s1, g9, hn.1, hn.2, s2]
  | false =>
    have s2 : binV .add (S acc') (S [124]) = _ := binS_add (by simp only [List.length_cons, List.length_nil]; omega)
    have s3 : binV .add (S (acc' ++ [124])) (S (held true 999 b')) = _ := binS_add (by simp only [List.length_append, List.length_cons, List.length_nil]; omega)
    have s4 : binV .add (S (acc' ++ [124] ++ held true 999 b')) (S [93]) = _ := binS_add (by simp only [List.length_append, List.length_cons, List.length_nil]; omega)
    have he : acc' ++ ([124] ++ held true 999 b' ++ [93]) = acc' ++ [124] ++ held true 999 b' ++ [93] := by simp only [List.append_assoc]
    rw [wrR_else true hn g3, he]
    unfold isAt at hn
    cases d2 : decide (b'.kind = 2) with
    | false => simp only [go_sem, Nat.reduceAdd, Nat.reduceSub, Nat.reduceMul, Nat.reduceEqDiff, Nat.reduceLeDiff, Nat.reduceBEq, reduceCtorEq, A.spec_l28Row, cw1, s1, g9, d2, s2, cw2, s3, s4]
    | true =>
      rw [d2, Bool.true_and] at hn
      simp only [go_sem, Nat.reduceAdd, Nat.reduceSub, Nat.reduceMul, Nat.reduceEqDiff, Nat.reduceLeDiff, Nat.reduceBEq, reduceCtorEq, A.spec_l28Row, cw1, s1, g9, d2, hn, s2, cw2, s3, s4]
theorem l28Gen_loop (t : Tm) (τ : Bool) (vs : List V) (hv : RL BT t.kids vs) (hlim : t.kids.length ≤ 5) (hks : ∀ u ∈ t.kids, ∀ v, BT u v → cr progA F.spec_l28Held [v, I 999] = some (S (held true 999 u))) (hbd : ∀ u ∈ t.kids, (held true 999 u).length ≤ 30000) (m : Nat) :
    ∀ (i : Nat) (acc : Str), i + m = t.kids.length → 1 ≤ i → acc.length + m * 30001 ≤ 2^40 →
    lw progA L.spec_l28Write_0 ⟨[(1, .p (100000, 0) 0 0), (6, S acc), (7, I i)], [((100000, 0), 4, [.a [I t.kind, S t.name, I t.num, .i τ vs]])]⟩ =
      some (.exit 0, ⟨[(6, S (acc ++ joinTail [44] ((t.kids.drop i).map (held true 999))))], [((100000, 0), 4, [.a [I t.kind, S t.name, I t.num, .i τ vs]])]⟩) := by
  have hn := RL_length hv
  induction m with
  | zero =>
    intro i acc hi h1 h2
    have h : ¬ (i : Int) < t.kids.length := by omega
    rw [List.drop_eq_nil_of_le (by omega), lw_eq]
    simp only [go_sem, Nat.reduceAdd, Nat.reduceSub, Nat.reduceMul, Nat.reduceEqDiff, Nat.reduceLeDiff, Nat.reduceBEq, reduceCtorEq, LB.spec_l28Write_0, hn, h, List.map_nil, joinTail, List.flatten_nil, List.append_nil]
  | succ m ih =>
    intro i acc hi h1 h2
    have h : (i : Int) < t.kids.length := by omega
    have h0 : (0 : Int) < i := by omega
    obtain ⟨u, hu⟩ := get_some' (l := t.kids) (i := i) (by omega)
    have hm := List.mem_of_getElem? hu
    obtain ⟨v, gv, hbt⟩ := RL_get hv hu
    have a1 := fun T => addr_i (τ := τ) (T := T) gv (BT_cells hbt)
    have cc := hks u hm v hbt
    have hl := hbd u hm
    have e1 : w64 ((i : Int) + 1) = ((i + 1 : Nat) : Int) := by rw [w64_id] <;> omega
    have s1 : binV .add (S acc) (S [44]) = _ := binS_add (by simp only [List.length_cons, List.length_nil]; omega)
    have s2 : binV .add (S (acc ++ [44])) (S (held true 999 u)) = _ := binS_add (by simp only [List.length_append, List.length_cons, List.length_nil]; omega)
    have i1 := ih (i + 1) (acc ++ [44] ++ held true 999 u) (by omega) (by omega) (by simp only [List.length_append, List.length_cons, List.length_nil]; omega)
    have he : acc ++ ([44] ++ held true 999 u ++ joinTail [44] ((t.kids.drop (i + 1)).map (held true 999))) = acc ++ [44] ++ held true 999 u ++ joinTail [44] ((t.kids.drop (i + 1)).map (held true 999)) := by simp only [List.append_assoc]
    rw [drop_cons' hu, List.map_cons, joinTail_cons, he]
    obtain ⟨σ1, ws, rfl, -⟩ := BT_shape hbt
    rw [lw_eq]
    simp only [go_sem, Nat.reduceAdd, Nat.reduceSub, Nat.reduceMul, Nat.reduceEqDiff, Nat.reduceLeDiff, Nat.reduceBEq, reduceCtorEq, LB.spec_l28Write_0, hn, h, h0, a1, gv, cc, e1, s1, s2]
    exact i1
theorem l28Gen_first (t : Tm) (τ : Bool) (vs : List V) (hv : RL BT t.kids vs) (hlim : t.kids.length ≤ 5) (h1 : 1 ≤ t.kids.length) (hks : ∀ u ∈ t.kids, ∀ v, BT u v → cr progA F.spec_l28Held [v, I 999] = some (S (held true 999 u))) (hbd : ∀ u ∈ t.kids, (held true 999 u).length ≤ 30000) (acc : Str) (hacc : acc.length ≤ 100000) :
    lw progA L.spec_l28Write_0 ⟨[(1, .p (100000, 0) 0 0), (6, S acc), (7, I 0)], [((100000, 0), 4, [.a [I t.kind, S t.name, I t.num, .i τ vs]])]⟩ =
      some (.exit 0, ⟨[(6, S (acc ++ join (t.kids.map (held true 999)) [44]))], [((100000, 0), 4, [.a [I t.kind, S t.name, I t.num, .i τ vs]])]⟩) := by
  have hn := RL_length hv
  have h : (0 : Int) < t.kids.length := by omega
  obtain ⟨u, hu⟩ := get_some' (l := t.kids) (i := 0) (by omega)
  have hm := List.mem_of_getElem? hu
  obtain ⟨v, gv, hbt⟩ := RL_get hv hu
  have a1 := fun T => addr_i (τ := τ) (T := T) gv (BT_cells hbt)
  have cc := hks u hm v hbt
  have hl := hbd u hm
  have e1 : w64 ((0 : Int) + 1) = ((1 : Nat) : Int) := rfl
  have s2 : binV .add (S acc) (S (held true 999 u)) = _ := binS_add (by omega)
  have i1 := l28Gen_loop t τ vs hv hlim hks hbd (t.kids.length - 1) 1 (acc ++ held true 999 u) (by omega) (by omega) (by simp only [List.length_append]; omega)
  have hd := drop_cons' hu
  rw [List.drop_zero] at hd
  have hj : join (t.kids.map (held true 999)) [44] = held true 999 u ++ joinTail [44] ((t.kids.drop 1).map (held true 999)) := by
    conv => lhs; rw [hd]
    rw [List.map_cons, join_cons']
  rw [hj, ← List.append_assoc]
  simp only [Int.natCast_zero] at a1
  obtain ⟨σ1, ws, rfl, -⟩ := BT_shape hbt
  rw [lw_eq]
  simp only [go_sem, Nat.reduceAdd, Nat.reduceSub, Nat.reduceMul, Nat.reduceEqDiff, Nat.reduceLeDiff, Nat.reduceBEq, reduceCtorEq, LB.spec_l28Write_0, hn, h, a1, gv, cc, e1, s2]
  exact i1
end Go.Vm

set_option autoImplicit false
set_option maxHeartbeats 8000000
set_option maxRecDepth 100000
set_option linter.unusedSimpArgs false
set_option linter.unusedVariables false
namespace Go.Vm
open Go.Lib (itoa join joinTail)
theorem two_two : ((2 : Nat) : Int) = 2 := rfl
theorem prio_inf {t : Tm} : decide (prioOf t ≠ 0) = (decide (t.kind = 4) && (decide ((infixOf t.name).prio ≠ 0) && decide ((t.kids.length : Int) = 2))) := by
  unfold prioOf
  by_cases h1 : t.kind = 4 <;> by_cases h2 : t.kids.length = 2
  · rw [if_pos ⟨h1, h2⟩, decide_eq_true h1, decide_eq_true (show (t.kids.length : Int) = 2 by omega), Bool.true_and, Bool.and_true]
  · rw [if_neg (fun h => h2 h.2), decide_eq_false (show ¬ (t.kids.length : Int) = 2 by omega), Bool.and_false, Bool.and_false]; rfl
  · rw [if_neg (fun h => h1 h.1), decide_eq_false h1, Bool.false_and]; rfl
  · rw [if_neg (fun h => h1 h.1), decide_eq_false h1, Bool.false_and]; rfl
theorem two_of {t : Tm} (h : (t.kids.length : Int) = 2) : ∃ a b, t.kids = [a, b] := by
  have h2 : t.kids.length = 2 := by omega
  rcases hk : t.kids with _ | ⟨x, _ | ⟨y, _ | ⟨z, r⟩⟩⟩ <;> rw [hk] at h2 <;> simp at h2
  exact ⟨x, y, rfl⟩
theorem l07Write_ok' : ∀ (n : Nat) (t : Tm), nT t ≤ n → nT t ≤ 400 → Rt t → WT t → ∀ v, BT t v → cr progA F.spec_l07Write [v] = some (S (held false 999 t)) := by
  intro n
  induction n with
  | zero => intro t hn; have := nT_pos t; omega
  | succ n ih =>
    intro t hn hN hr hw v hb
    rw [held_false]
    have hW : ∀ u, nT u < nT t → Rt u → WT u → ∀ v, BT u v → cr progA F.spec_l07Write [v] = some (S (held false 999 u)) := fun u h1 h2 h3 => ih u (by omega) (by omega) h2 h3
    obtain ⟨hk4, hnm, hnum, hkid, hnok⟩ := okOne_kind (Rt_ok hr)
    have at_ := spec_AtomText_ok t.name (by omega)
    have atl := atomText_len t.name
    have hrow := fun h2 => l07Row_ok t h2 hN hr hw hW v hb
    have is := l03Is_ok t v hb [46] 2
    have inf := spec_InfixOf_ok t.name
    unfold opV at inf
    have op := l07Op_ok t.name
    obtain ⟨τ, vs, rfl, hv⟩ := BT_shape hb
    have hl := RL_length hv
    rw [cr_fn pA_spec_l07Write rfl]
    by_cases k1 : t.kind = 1
    · have d1 : decide (t.kind = 1) = true := decide_eq_true k1
      have hd := hnum (.inr k1)
      have dec := spec_Decimal_ok t.num (by omega) (by omega)
      have := itoa_len t.num (by omega) (by omega)
      have s1 : binV .add (S [95]) (S (itoa t.num)) = _ := binS_add (by simp only [List.length_cons, List.length_nil]; omega)
      rw [wr_var false k1]
      simp only [go_sem, Nat.reduceAdd, Nat.reduceSub, Nat.reduceMul, Nat.reduceEqDiff, Nat.reduceLeDiff, Nat.reduceBEq, reduceCtorEq, A.spec_l07Write, d1, dec, s1]
    have d1 : decide (t.kind = 1) = false := decide_eq_false k1
    by_cases k3 : t.kind = 3
    · have d3 : decide (t.kind = 3) = true := decide_eq_true k3
      have hd := hnum (.inl k3)
      rw [wr_int false k3]
      by_cases hneg : t.num < 0
      · have dec := spec_Decimal_ok (0 - t.num) (by omega) (by omega)
        have := itoa_len (0 - t.num) (by omega) (by omega)
        have e0 : w64 (0 - t.num) = 0 - t.num := by rw [w64_id] <;> omega
        have s1 : binV .add (S [45]) (S (itoa (0 - t.num))) = _ := binS_add (by simp only [List.length_cons, List.length_nil]; omega)
        rw [itoa_neg hneg]
        simp only [go_sem, Nat.reduceAdd, Nat.reduceSub, Nat.reduceMul, Nat.reduceEqDiff, Nat.reduceLeDiff, Nat.reduceBEq, reduceCtorEq, A.spec_l07Write, d1, d3, hneg, e0, dec, s1]
      · have dec := spec_Decimal_ok t.num (by omega) (by omega)
        simp only [go_sem, Nat.reduceAdd, Nat.reduceSub, Nat.reduceMul, Nat.reduceEqDiff, Nat.reduceLeDiff, Nat.reduceBEq, reduceCtorEq, A.spec_l07Write, d1, d3, hneg, dec]
    have d3 : decide (t.kind = 3) = false := decide_eq_false k3
    by_cases k2 : t.kind = 2
    · have d2 : decide (t.kind = 2) = true := decide_eq_true k2
      rw [wr_atom false k2]
      by_cases hnil : t.name = [91, 93]
      · have dn : decide (t.name = [91, 93]) = true := decide_eq_true hnil
        rw [if_pos hnil]
        simp only [go_sem, Nat.reduceAdd, Nat.reduceSub, Nat.reduceMul, Nat.reduceEqDiff, Nat.reduceLeDiff, Nat.reduceBEq, reduceCtorEq, A.spec_l07Write, d1, d3, d2, dn]
      have dn : decide (t.name = [91, 93]) = false := decide_eq_false hnil
      rw [if_neg hnil]
      cases ho : isOp t.name with
      | true =>
        rw [ho] at op
        have s1 : binV .add (S [40]) (S (atomText t.name)) = _ := binS_add (by simp only [List.length_cons, List.length_nil]; omega)
        have s2 : binV .add (S ([40] ++ atomText t.name)) (S [41]) = _ := binS_add (by simp only [List.length_append, List.length_cons, List.length_nil]; omega)
        simp only [List.cons_append, List.nil_append] at s1 s2
        rw [if_pos rfl]
        simp only [go_sem, Nat.reduceAdd, Nat.reduceSub, Nat.reduceMul, Nat.reduceEqDiff, Nat.reduceLeDiff, Nat.reduceBEq, reduceCtorEq, A.spec_l07Write, d1, d3, d2, dn, op, at_, s1, s2]
      | false =>
        rw [ho] at op
        rw [if_neg (by decide)]
        simp only [go_sem, Nat.reduceAdd, Nat.reduceSub, Nat.reduceMul, Nat.reduceEqDiff, Nat.reduceLeDiff, Nat.reduceBEq, reduceCtorEq, A.spec_l07Write, d1, d3, d2, dn, op, at_]
    have d2 : decide (t.kind = 2) = false := decide_eq_false k2
    have k4 : t.kind = 4 := by rcases hk4 with h | h | h | h <;> first | exact h | contradiction
    have d4 : decide (t.kind = 4) = true := decide_eq_true k4
    cases hp : isStr t [46] 2 with
    | true =>
      have hrw := hrow hp
      rw [hp] at is
      simp only [go_sem, Nat.reduceAdd, Nat.reduceSub, Nat.reduceMul, Nat.reduceEqDiff, Nat.reduceLeDiff, Nat.reduceBEq, reduceCtorEq, A.spec_l07Write, d1, d3, d2, is, hrw]
    | false =>
    rw [hp] at is
    have pi := prio_inf (t := t)
    rw [d4, Bool.true_and] at pi
    have hkl := (hkid k4).2
    have h1k := (hkid k4).1
    have hks : ∀ u ∈ t.kids, ∀ v, BT u v → cr progA F.spec_l07Write [v] = some (S (held false 999 u)) := fun u hu => hW u (by have := nT_kids t; have := nTs_mem hu; omega) (Rt_kids hr u hu) (WT_kids hw u hu)
    have hbd : ∀ u ∈ t.kids, (held false 999 u).length ≤ 30000 := fun u hu => by
      have h1 := held_len false 999 (Rt_kids hr u hu)
      have := nT_kids t; have := nTs_mem hu; omega
    have gen : prioOf t = 0 → ∃ acc', join (t.kids.map (held false 999)) [44] = acc' ∧ acc'.length ≤ 200000 ∧ binV .add (S (atomText t.name)) (S [40]) = some (S (atomText t.name ++ [40])) ∧ binV .add (S (atomText t.name ++ [40] ++ acc')) (S [41]) = some (S (wr false t)) := by
      intro h0
      have hw' := wr_gen false k4 hp h0
      have hlen := (Rt_len false hr).1
      have hL : (join (t.kids.map (held false 999)) [44]).length ≤ 200000 := by
        rw [hw'] at hlen
        simp only [List.length_append] at hlen
        omega
      refine ⟨_, rfl, hL, binS_add (by simp only [List.length_cons, List.length_nil]; omega), ?_⟩
      rw [hw']
      exact binS_add (by simp only [List.length_append, List.length_cons, List.length_nil]; omega)
    have first := l07Gen_first t τ vs hv hkl h1k hks hbd (atomText t.name ++ [40]) (by simp only [List.length_append, List.length_cons, List.length_nil]; omega)
    by_cases hi : (infixOf t.name).prio ≠ 0
    · have di : decide ((infixOf t.name).prio ≠ 0) = true := decide_eq_true hi
      rw [di] at inf pi
      by_cases h2 : (t.kids.length : Int) = 2
      · have d22 : decide ((t.kids.length : Int) = 2) = true := decide_eq_true h2
        obtain ⟨a, b, hk⟩ := two_of h2
        have hnt := nT_two hk
        have ha0 := hks a (by rw [hk]; simp)
        have hb0 := hks b (by rw [hk]; simp)
        have hla := hbd a (by rw [hk]; simp)
        have hlb := hbd b (by rw [hk]; simp)
        rw [hk] at hv
        obtain ⟨va, vb, rfl, hva, hvb⟩ := RL_two hv
        have ca := ha0 va hva
        have cb := hb0 vb hvb
        rw [held_false] at ca cb hla hlb
        obtain ⟨τa, vsa, rfl, -⟩ := BT_shape hva
        obtain ⟨τb, vsb, rfl, -⟩ := BT_shape hvb
        rw [wr_inf false k4 hk hi]
        have hst := signText_len t.name
        have s1 : binV .add (S [40]) (S (wr false a)) = _ := binS_add (by simp only [List.length_cons, List.length_nil]; omega)
        have s2 : binV .add (S ([40] ++ wr false a)) (S [32]) = _ := binS_add (by simp only [List.length_append, List.length_cons, List.length_nil]; omega)
        have s3 : binV .add (S ([40] ++ wr false a ++ [32])) (S (signText t.name)) = _ := binS_add (by simp only [List.length_append, List.length_cons, List.length_nil]; omega)
        have s4 : binV .add (S ([40] ++ wr false a ++ [32] ++ signText t.name)) (S [32]) = _ := binS_add (by simp only [List.length_append, List.length_cons, List.length_nil]; omega)
        have s5 : binV .add (S ([40] ++ wr false a ++ [32] ++ signText t.name ++ [32])) (S (wr false b)) = _ := binS_add (by simp only [List.length_append, List.length_cons, List.length_nil]; omega)
        have s6 : binV .add (S ([40] ++ wr false a ++ [32] ++ signText t.name ++ [32] ++ wr false b)) (S [41]) = _ := binS_add (by simp only [List.length_append, List.length_cons, List.length_nil]; omega)
        unfold infW
        rw [if_neg (by decide)]
        show _ = some (S ([40] ++ wr false a ++ [32] ++ signText t.name ++ [32] ++ wr false b ++ [41]))
        have hz : ¬ (infixOf t.name).prio = 0 := hi
        rw [hk] at hl
        by_cases hc : t.name = [44]
        · have dc : decide (t.name = [44]) = true := decide_eq_true hc
          unfold signText at s3 s4 s5 s6 ⊢
          rw [if_pos hc] at s3 s4 s5 s6 ⊢
          simp only [List.cons_append, List.nil_append] at s1 s2 s3 s4 s5 s6 ⊢
          simp only [go_sem, Nat.reduceAdd, Nat.reduceSub, Nat.reduceMul, Nat.reduceEqDiff, Nat.reduceLeDiff, Nat.reduceBEq, reduceCtorEq, A.spec_l07Write, d1, d3, d2, is, inf, hz, two_two, at_, dc, ca, cb, s1, s2, s3, s4, s5, s6, List.length_cons, List.length_nil]
        · have dc : decide (t.name = [44]) = false := decide_eq_false hc
          unfold signText at s3 s4 s5 s6 ⊢
          rw [if_neg hc] at s3 s4 s5 s6 ⊢
          simp only [List.cons_append, List.nil_append] at s1 s2 s3 s4 s5 s6 ⊢
          simp only [go_sem, Nat.reduceAdd, Nat.reduceSub, Nat.reduceMul, Nat.reduceEqDiff, Nat.reduceLeDiff, Nat.reduceBEq, reduceCtorEq, A.spec_l07Write, d1, d3, d2, is, inf, hz, two_two, at_, dc, ca, cb, s1, s2, s3, s4, s5, s6, List.length_cons, List.length_nil]
      · have d22 : decide ((t.kids.length : Int) = 2) = false := decide_eq_false h2
        rw [d22] at pi
        have h0 : prioOf t = 0 := by simpa using pi
        obtain ⟨acc', g1, g2, g3, g4⟩ := gen h0
        rw [g1] at first
        have hz : ¬ (infixOf t.name).prio = 0 := hi
        simp only [go_sem, Nat.reduceAdd, Nat.reduceSub, Nat.reduceMul, Nat.reduceEqDiff, Nat.reduceLeDiff, Nat.reduceBEq, reduceCtorEq, A.spec_l07Write, d1, d3, d2, is, inf, hz, d22, hl, at_, g3, first, g4]
    · have di : decide ((infixOf t.name).prio ≠ 0) = false := decide_eq_false hi
      rw [di] at inf pi
      have h0 : prioOf t = 0 := by simpa using pi
      obtain ⟨acc', g1, g2, g3, g4⟩ := gen h0
      rw [g1] at first
      have hz : (infixOf t.name).prio = 0 := by simpa using hi
      simp only [go_sem, Nat.reduceAdd, Nat.reduceSub, Nat.reduceMul, Nat.reduceEqDiff, Nat.reduceLeDiff, Nat.reduceBEq, reduceCtorEq, A.spec_l07Write, d1, d3, d2, is, inf, hz, hl, at_, g3, first, g4]
theorem l07Write_ok (t : Tm) (hN : nT t ≤ 400) (hr : Rt t) (hw : WT t) (v : V) (hb : BT t v) : cr progA F.spec_l07Write [v] = some (S (wr false t)) := by
  rw [l07Write_ok' (nT t) t (Nat.le_refl _) hN hr hw v hb, held_false]
end Go.Vm

set_option autoImplicit false
set_option maxHeartbeats 8000000
set_option maxRecDepth 100000
set_option linter.unusedSimpArgs false
set_option linter.unusedVariables false
namespace Go.Vm
open Go.Lib (itoa join joinTail)
/-! ### the program's writer, with a writer of kids and one of infix terms -/
theorem wwRest_loop (p : Bool) (gk : Nat) (N : Nat) (hN : N ≤ 401) (hW : ∀ u, nT u < N → Rt u → WT u → ∀ v, BT u v → cr progA gk [v] = some (S (held p 999 u))) :
    ∀ (n : Nat) (b : Tm), nT b ≤ n → nT b < N → Rt b → WT b → ∀ (v : V), BT b v → ∀ acc : Str, acc.length + 60 * nT b ≤ 2^40 →
    ∃ b' v' acc', BT b' v' ∧ isStr b' [46] 2 = false ∧ nT b' ≤ nT b ∧ Rt b' ∧ WT b' ∧ acc' ++ wrR p b' = acc ++ wrR p b ∧ acc'.length + 60 * nT b' ≤ 2^40 ∧
      lw progA L.impl_writeWith_1 ⟨[(1, Fc gk), (7, S acc), (8, .p (100000, 0) 0 0)], [((100000, 0), 4, [v])]⟩ = some (.exit 1, ⟨[(1, Fc gk), (7, S acc'), (8, .p (100000, 0) 0 0)], [((100000, 0), 4, [v'])]⟩) := by
  intro n
  induction n with
  | zero => intro b hn; have := nT_pos b; omega
  | succ n ih =>
    intro b hn hbN hr hw v hb acc hacc
    have is := impl_isPair_ok b v hb
    cases h2 : isStr b [46] 2 with
    | false =>
      refine ⟨b, v, acc, hb, h2, Nat.le_refl _, hr, hw, rfl, hacc, ?_⟩
      rw [h2] at is
      obtain ⟨τb, vsb, rfl, -⟩ := BT_shape hb
      rw [lw_eq]
      simp only [go_sem, Nat.reduceAdd, Nat.reduceSub, Nat.reduceMul, Nat.reduceEqDiff, Nat.reduceLeDiff, Nat.reduceBEq, reduceCtorEq, LB.impl_writeWith_1, is]
    | true =>
      rw [h2] at is
      obtain ⟨-, -, a2, b2, hk2⟩ := isStr_of h2
      have hnt := nT_two hk2
      have ra := Rt_kids hr a2 (by rw [hk2]; simp)
      have rb := Rt_kids hr b2 (by rw [hk2]; simp)
      have wa := WT_kids hw a2 (by rw [hk2]; simp)
      have wb := WT_kids hw b2 (by rw [hk2]; simp)
      have hl := held_len p 999 ra
      obtain ⟨τb, vsb, rfl, hvb⟩ := BT_shape hb
      rw [hk2] at hvb
      obtain ⟨va2, vb2, rfl, ha2, hb2⟩ := RL_two hvb
      obtain ⟨b', v', acc', g1, g3, g4, g5, g6, g7, g8, g9⟩ := ih b2 (by have := nT_pos a2; omega) (by omega) rb wb vb2 hb2 (acc ++ ([44] ++ held p 999 a2)) (by simp only [List.length_append, List.length_cons, List.length_nil]; omega)
      refine ⟨b', v', acc', g1, g3, by omega, g5, g6, ?_, g8, ?_⟩
      · rw [g7, wrR_pair p h2 hk2]; simp only [List.append_assoc]
      · have cw2 := hW a2 (by omega) ra wa va2 ha2
        have s1 : binV .add (S [44]) (S (held p 999 a2)) = _ := binS_add (by simp only [List.length_cons, List.length_nil]; omega)
        have s2 : binV .add (S acc) (S ([44] ++ held p 999 a2)) = _ := binS_add (by simp only [List.length_append, List.length_cons, List.length_nil]; omega)
        simp only [List.cons_append, List.nil_append] at s1 s2 g9
        obtain ⟨τa, vsa, rfl, -⟩ := BT_shape ha2
        obtain ⟨τ2, vs2, rfl, -⟩ := BT_shape hb2
        rw [lw_eq]
        simp only [go_sem, Nat.reduceAdd, Nat.reduceSub, Nat.reduceMul, Nat.reduceEqDiff, Nat.reduceLeDiff, Nat.reduceBEq, reduceCtorEq, LB.impl_writeWith_1, is, cw2, s1, s2]
        exact g9
theorem wwKids_loop (p : Bool) (gk : Nat) (t : Tm) (τ : Bool) (vs : List V) (hv : RL BT t.kids vs) (hlim : t.kids.length ≤ 5) (hks : ∀ u ∈ t.kids, ∀ v, BT u v → cr progA gk [v] = some (S (held p 999 u))) (m : Nat) :
    ∀ (i : Nat) (acc : List Str), i + m = t.kids.length → acc.length = i →
    lw progA L.impl_writeWith_0 ⟨[(1, Fc gk), (3, .p (100000, 0) 0 0), (9, .s (100000, 1) 0 acc.length), (98, .i τ vs), (99, I t.kids.length), (100, I i)], [((100000, 0), 4, [.a [I t.kind, S t.name, I t.num, .i τ vs]]), ((100000, 1), 1, acc.map S)]⟩ =
      some (.exit 3, ⟨[(3, .p (100000, 0) 0 0), (9, .s (100000, 1) 0 (acc.length + ((t.kids.drop i).map (held p 999)).length))], [((100000, 0), 4, [.a [I t.kind, S t.name, I t.num, .i τ vs]]), ((100000, 1), 1, (acc ++ (t.kids.drop i).map (held p 999)).map S)]⟩) := by
  have hn := RL_length hv
  induction m with
  | zero =>
    intro i acc hi ha
    have h : ¬ (i : Int) < t.kids.length := by omega
    rw [List.drop_eq_nil_of_le (by omega), List.map_nil, List.append_nil, List.length_nil, Nat.add_zero, lw_eq]
    simp only [go_sem, Nat.reduceAdd, Nat.reduceSub, Nat.reduceMul, Nat.reduceEqDiff, Nat.reduceLeDiff, Nat.reduceBEq, reduceCtorEq, LB.impl_writeWith_0, hn, h]
  | succ m ih =>
    intro i acc hi ha
    have h : (i : Int) < t.kids.length := by omega
    obtain ⟨u, hu⟩ := get_some' (l := t.kids) (i := i) (by omega)
    have hm := List.mem_of_getElem? hu
    obtain ⟨v, gv, hbt⟩ := RL_get hv hu
    have a1 := fun T => addr_i (τ := τ) (T := T) gv (BT_cells hbt)
    have cc := hks u hm v hbt
    have e1 : w64 ((i : Int) + 1) = ((i + 1 : Nat) : Int) := by rw [w64_id] <;> omega
    have l1 : decide ((acc.length + 1) * 16 ≤ lim) = true := decide_eq_true (by rw [lim_val]; omega)
    have l2 : decide (acc.length + 1 ≤ lim) = true := decide_eq_true (by rw [lim_val]; omega)
    have i1 := ih (i + 1) (acc ++ [held p 999 u]) (by omega) (by simp only [List.length_append, List.length_cons, List.length_nil]; omega)
    have ea : acc.length + (((t.kids.drop (i + 1)).map (held p 999)).length + 1) = acc.length + 1 + ((t.kids.drop (i + 1)).map (held p 999)).length := by omega
    rw [List.append_assoc, List.singleton_append, List.length_append, List.length_cons, List.length_nil, Nat.zero_add] at i1
    rw [drop_cons' hu, List.map_cons, List.length_cons, ea]
    obtain ⟨σ1, ws, rfl, -⟩ := BT_shape hbt
    rw [lw_eq]
    simp only [go_sem, Nat.reduceAdd, Nat.reduceSub, Nat.reduceMul, Nat.reduceEqDiff, Nat.reduceLeDiff, Nat.reduceBEq, reduceCtorEq, LB.impl_writeWith_0, hn, h, a1, gv, cc, e1, l1, l2, List.length_cons, List.length_nil]
    simp only [List.length_map] at i1 ⊢
    exact i1
theorem writeWith_ok (p : Bool) (gk gi : Nat) (t : Tm) (hN : nT t ≤ 400) (hr : Rt t) (hw : WT t)
    (hW : ∀ u, nT u < nT t → Rt u → WT u → ∀ v, BT u v → cr progA gk [v] = some (S (held p 999 u)))
    (hI : ∀ a b, t.kind = 4 → t.kids = [a, b] → (infixOf t.name).prio ≠ 0 → ∀ v, BT t v → cr progA gi [v] = some (S (infW p t.name (wk p a) (wk p b)))) (v : V) (hb : BT t v) :
    cr progA F.impl_writeWith [v, Fc gk, Fc gi] = some (S (wr p t)) := by
  obtain ⟨hk4, hnm, hnum, hkid, hnok⟩ := okOne_kind (Rt_ok hr)
  have at_ := impl_AtomText_ok t.name (by omega)
  have atl := atomText_len t.name
  have ia := impl_isAtom_ok t v hb [91, 93]
  have is := impl_isPair_ok t v hb
  have inf := impl_isInfix_ok t v hb
  have op := impl_isOp_ok t.name
  have hgi := fun a b h1 h2 h3 => hI a b h1 h2 h3 v hb
  obtain ⟨τ, vs, rfl, hv⟩ := BT_shape hb
  have hl := RL_length hv
  rw [cr_fn pA_impl_writeWith rfl]
  by_cases k1 : t.kind = 1
  · have d1 : decide (t.kind = 1) = true := decide_eq_true k1
    have hd := hnum (.inr k1)
    have dec := impl_Decimal_ok t.num (by omega) (by omega)
    have := itoa_len t.num (by omega) (by omega)
    have s1 : binV .add (S [95]) (S (itoa t.num)) = _ := binS_add (by simp only [List.length_cons, List.length_nil]; omega)
    rw [wr_var p k1]
    simp only [go_sem, Nat.reduceAdd, Nat.reduceSub, Nat.reduceMul, Nat.reduceEqDiff, Nat.reduceLeDiff, Nat.reduceBEq, reduceCtorEq, A.impl_writeWith, d1, dec, s1]
  have d1 : decide (t.kind = 1) = false := decide_eq_false k1
  by_cases k3 : t.kind = 3
  · have d3 : decide (t.kind = 3) = true := decide_eq_true k3
    have hd := hnum (.inl k3)
    have dec := impl_Decimal_ok t.num (by omega) (by omega)
    rw [wr_int p k3]
    simp only [go_sem, Nat.reduceAdd, Nat.reduceSub, Nat.reduceMul, Nat.reduceEqDiff, Nat.reduceLeDiff, Nat.reduceBEq, reduceCtorEq, A.impl_writeWith, d1, d3, dec]
  have d3 : decide (t.kind = 3) = false := decide_eq_false k3
  by_cases k2 : t.kind = 2
  · have d2 : decide (t.kind = 2) = true := decide_eq_true k2
    unfold isAt at ia
    rw [d2, Bool.true_and] at ia
    rw [wr_atom p k2]
    by_cases hnil : t.name = [91, 93]
    · rw [decide_eq_true hnil] at ia
      rw [if_pos hnil]
      simp only [go_sem, Nat.reduceAdd, Nat.reduceSub, Nat.reduceMul, Nat.reduceEqDiff, Nat.reduceLeDiff, Nat.reduceBEq, reduceCtorEq, A.impl_writeWith, d1, d3, ia]
    rw [decide_eq_false hnil] at ia
    rw [if_neg hnil]
    cases ho : isOp t.name with
    | true =>
      rw [ho] at op
      have s1 : binV .add (S [40]) (S (atomText t.name)) = _ := binS_add (by simp only [List.length_cons, List.length_nil]; omega)
      have s2 : binV .add (S ([40] ++ atomText t.name)) (S [41]) = _ := binS_add (by simp only [List.length_append, List.length_cons, List.length_nil]; omega)
      simp only [List.cons_append, List.nil_append] at s1 s2
      rw [if_pos rfl]
      simp only [go_sem, Nat.reduceAdd, Nat.reduceSub, Nat.reduceMul, Nat.reduceEqDiff, Nat.reduceLeDiff, Nat.reduceBEq, reduceCtorEq, A.impl_writeWith, d1, d3, ia, d2, op, at_, s1, s2]
    | false =>
      rw [ho] at op
      rw [if_neg (by decide)]
      simp only [go_sem, Nat.reduceAdd, Nat.reduceSub, Nat.reduceMul, Nat.reduceEqDiff, Nat.reduceLeDiff, Nat.reduceBEq, reduceCtorEq, A.impl_writeWith, d1, d3, ia, d2, op, at_]
  have d2 : decide (t.kind = 2) = false := decide_eq_false k2
  have k4 : t.kind = 4 := by rcases hk4 with h | h | h | h <;> first | exact h | contradiction
  have d4 : decide (t.kind = 4) = true := decide_eq_true k4
  unfold isAt at ia
  rw [d2, Bool.false_and] at ia
  have hlen := (Rt_len p hr).1
  cases hp : isStr t [46] 2 with
  | true =>
    rw [hp] at is
    obtain ⟨-, -, a, b, hk⟩ := isStr_of hp
    have hnt := nT_two hk
    have ra := Rt_kids hr a (by rw [hk]; simp)
    have rb := Rt_kids hr b (by rw [hk]; simp)
    have wa := WT_kids hw a (by rw [hk]; simp)
    have wb := WT_kids hw b (by rw [hk]; simp)
    have hla := held_len p 999 ra
    have hpa := nT_pos a
    rw [hk] at hv
    obtain ⟨va, vb, rfl, ha, hb'⟩ := RL_two hv
    obtain ⟨b', v', acc', g1, g3, g4, g5, g6, g7, g8, g9⟩ := wwRest_loop p gk (nT t) (by omega) hW (nT b) b (Nat.le_refl _) (by omega) rb wb vb hb' ([91] ++ held p 999 a) (by simp only [List.length_append, List.length_cons, List.length_nil]; omega)
    have hl' := held_len p 999 g5
    rw [wr_pair p hp hk, ← g7]
    have ia2 := impl_isAtom_ok b' v' g1 [91, 93]
    have cw1 := hW a (by omega) ra wa va ha
    have cw2 := hW b' (by omega) g5 g6 v' g1
    have s1 : binV .add (S [91]) (S (held p 999 a)) = _ := binS_add (by simp only [List.length_cons, List.length_nil]; omega)
    obtain ⟨τa, vsa, rfl, -⟩ := BT_shape ha
    obtain ⟨τb, vsb, rfl, -⟩ := BT_shape hb'
    obtain ⟨τd, vsd, rfl, -⟩ := BT_shape g1
    simp only [List.cons_append, List.nil_append] at g9 s1
    cases hn : isAt b' [91, 93] with
    | true =>
      have s2 : binV .add (S acc') (S [93]) = _ := binS_add (by simp only [List.length_cons, List.length_nil]; omega)
      rw [wrR_nil p hn]
      rw [hn] at ia2
      simp only [go_sem, Nat.reduceAdd, Nat.reduceSub, Nat.reduceMul, Nat.reduceEqDiff, Nat.reduceLeDiff, Nat.reduceBEq, reduceCtorEq, A.impl_writeWith, d1, d3, ia, d2, is, cw1, s1, g9, ia2, s2]
    | false =>
      have s2 : binV .add (S [124]) (S (held p 999 b')) = _ := binS_add (by simp only [List.length_cons, List.length_nil]; omega)
      have s3 : binV .add (S acc') (S ([124] ++ held p 999 b')) = _ := binS_add (by simp only [List.length_append, List.length_cons, List.length_nil]; omega)
      have s4 : binV .add (S (acc' ++ ([124] ++ held p 999 b'))) (S [93]) = _ := binS_add (by simp only [List.length_append, List.length_cons, List.length_nil]; omega)
      have he : acc' ++ ([124] ++ held p 999 b' ++ [93]) = acc' ++ ([124] ++ held p 999 b') ++ [93] := by simp only [List.append_assoc]
      rw [wrR_else p hn g3, he]
      rw [hn] at ia2
      simp only [List.cons_append, List.nil_append] at s2 s3 s4 ⊢
      simp only [go_sem, Nat.reduceAdd, Nat.reduceSub, Nat.reduceMul, Nat.reduceEqDiff, Nat.reduceLeDiff, Nat.reduceBEq, reduceCtorEq, A.impl_writeWith, d1, d3, ia, d2, is, cw1, s1, g9, ia2, s2, cw2, s3, s4]
  | false =>
  rw [hp] at is
  have pi := prio_inf (t := t)
  rw [d4, Bool.true_and] at pi
  have hkl := (hkid k4).2
  have h1k := (hkid k4).1
  by_cases h0 : prioOf t = 0
  · rw [decide_eq_false (show ¬ prioOf t ≠ 0 from fun h => h h0)] at inf
    have hks : ∀ u ∈ t.kids, ∀ v, BT u v → cr progA gk [v] = some (S (held p 999 u)) := fun u hu => hW u (by have := nT_kids t; have := nTs_mem hu; omega) (Rt_kids hr u hu) (WT_kids hw u hu)
    have lp := wwKids_loop p gk t τ vs hv hkl hks t.kids.length 0 [] (by omega) rfl
    simp only [List.drop_zero, List.length_nil, Nat.zero_add, List.map_nil, List.nil_append, Int.natCast_zero] at lp
    have hw' := wr_gen p k4 hp h0
    have hL : (join (t.kids.map (held p 999)) [44]).length ≤ 200000 := by
      rw [hw'] at hlen
      simp only [List.length_append] at hlen
      omega
    have jn := cr_join pA_strings_Join true (t.kids.map (held p 999)) [44] (by rw [List.length_map]; omega) (by omega)
    have s1 : binV .add (S (atomText t.name)) (S [40]) = _ := binS_add (by simp only [List.length_cons, List.length_nil]; omega)
    have s2 : binV .add (S (atomText t.name ++ [40])) (S (join (t.kids.map (held p 999)) [44])) = _ := binS_add (by simp only [List.length_append, List.length_cons, List.length_nil]; omega)
    have s3 : binV .add (S (atomText t.name ++ [40] ++ join (t.kids.map (held p 999)) [44])) (S [41]) = _ := binS_add (by simp only [List.length_append, List.length_cons, List.length_nil]; omega)
    rw [hw']
    simp only [go_sem, Nat.reduceAdd, Nat.reduceSub, Nat.reduceMul, Nat.reduceEqDiff, Nat.reduceLeDiff, Nat.reduceBEq, reduceCtorEq, A.impl_writeWith, d1, d3, ia, d2, is, inf, hl, lp, at_, jn, s1, s2, s3]
  · rw [decide_eq_true h0] at inf
    have hc : t.kind = 4 ∧ t.kids.length = 2 := by
      unfold prioOf at h0
      by_cases hc : t.kind = 4 ∧ t.kids.length = 2
      · exact hc
      · rw [if_neg hc] at h0; exact absurd rfl h0
    obtain ⟨a, b, hk⟩ := two_of (t := t) (by omega)
    have hi : (infixOf t.name).prio ≠ 0 := by unfold prioOf at h0; rw [if_pos hc] at h0; exact h0
    have g := hgi a b k4 hk hi
    rw [wr_inf p k4 hk hi]
    simp only [go_sem, Nat.reduceAdd, Nat.reduceSub, Nat.reduceMul, Nat.reduceEqDiff, Nat.reduceLeDiff, Nat.reduceBEq, reduceCtorEq, A.impl_writeWith, d1, d3, ia, d2, is, inf, g]
end Go.Vm

set_option autoImplicit false
set_option maxHeartbeats 8000000
set_option maxRecDepth 100000
set_option linter.unusedSimpArgs false
set_option linter.unusedVariables false
namespace Go.Vm
theorem impl_write_ok' : ∀ (n : Nat) (t : Tm), nT t ≤ n → nT t ≤ 400 → Rt t → WT t → ∀ v, BT t v → cr progA F.impl_write [v] = some (S (wr false t)) := by
  intro n
  induction n with
  | zero => intro t hn; have := nT_pos t; omega
  | succ n ih =>
    intro t hn hN hr hw v hb
    have hW : ∀ u, nT u < nT t → Rt u → WT u → ∀ v, BT u v → cr progA F.impl_write [v] = some (S (wr false u)) := fun u h1 h2 h3 => ih u (by omega) (by omega) h2 h3
    have hI : ∀ a b, t.kind = 4 → t.kids = [a, b] → (infixOf t.name).prio ≠ 0 → ∀ v, BT t v → cr progA F.impl_write_1 [v] = some (S (infW false t.name (wk false a) (wk false b))) := by
      intro a b k4 hk hi v hb
      obtain ⟨-, hnm, -, -, -⟩ := okOne_kind (Rt_ok hr)
      have hnt := nT_two hk
      have ra := Rt_kids hr a (by rw [hk]; simp)
      have rb := Rt_kids hr b (by rw [hk]; simp)
      have hla := (Rt_len false ra).1
      have hlb := (Rt_len false rb).1
      have hpa := nT_pos a
      have hpb := nT_pos b
      have st := impl_signText_ok t.name (by omega)
      have hst := signText_len t.name
      obtain ⟨τ, vs, rfl, hv⟩ := BT_shape hb
      rw [hk] at hv
      obtain ⟨va, vb, rfl, hva, hvb⟩ := RL_two hv
      have ca := hW a (by omega) ra (WT_kids hw a (by rw [hk]; simp)) va hva
      have cb := hW b (by omega) rb (WT_kids hw b (by rw [hk]; simp)) vb hvb
      obtain ⟨τa, vsa, rfl, -⟩ := BT_shape hva
      obtain ⟨τb, vsb, rfl, -⟩ := BT_shape hvb
      have s1 : binV .add (S [40]) (S (wr false a)) = _ := binS_add (by simp only [List.length_cons, List.length_nil]; omega)
      have s2 : binV .add (S ([40] ++ wr false a)) (S [32]) = _ := binS_add (by simp only [List.length_append, List.length_cons, List.length_nil]; omega)
      have s3 : binV .add (S ([40] ++ wr false a ++ [32])) (S (signText t.name)) = _ := binS_add (by simp only [List.length_append, List.length_cons, List.length_nil]; omega)
      have s4 : binV .add (S ([40] ++ wr false a ++ [32] ++ signText t.name)) (S [32]) = _ := binS_add (by simp only [List.length_append, List.length_cons, List.length_nil]; omega)
      have s5 : binV .add (S ([40] ++ wr false a ++ [32] ++ signText t.name ++ [32])) (S (wr false b)) = _ := binS_add (by simp only [List.length_append, List.length_cons, List.length_nil]; omega)
      have s6 : binV .add (S ([40] ++ wr false a ++ [32] ++ signText t.name ++ [32] ++ wr false b)) (S [41]) = _ := binS_add (by simp only [List.length_append, List.length_cons, List.length_nil]; omega)
      unfold infW
      rw [if_neg (by decide)]
      show _ = some (S ([40] ++ wr false a ++ [32] ++ signText t.name ++ [32] ++ wr false b ++ [41]))
      simp only [List.cons_append, List.nil_append] at s1 s2 s3 s4 s5 s6 ⊢
      rw [cr_fn pA_impl_write_1 rfl]
      simp only [go_sem, Nat.reduceAdd, Nat.reduceSub, Nat.reduceMul, Nat.reduceEqDiff, Nat.reduceLeDiff, Nat.reduceBEq, reduceCtorEq, A.impl_write_1, ca, cb, st, s1, s2, s3, s4, s5, s6]
    have g := writeWith_ok false F.impl_write F.impl_write_1 t hN hr hw (fun u h1 h2 h3 v hb => by rw [held_false]; exact hW u h1 h2 h3 v hb) hI v hb
    obtain ⟨τ, vs, rfl, hv⟩ := BT_shape hb
    rw [cr_fn pA_impl_write rfl]
    simp only [go_sem, Nat.reduceAdd, Nat.reduceSub, Nat.reduceMul, Nat.reduceEqDiff, Nat.reduceLeDiff, Nat.reduceBEq, reduceCtorEq, A.impl_write, g]
def writeT (p : Bool) (t : Tm) : Str := if termOk t = true then wr p t else []
theorem termOk_of {t : Tm} (h : termOk t = true) : nT t ≤ 400 ∧ Rt t := by
  unfold termOk at h
  simp only [Bool.and_eq_true, decide_eq_true_eq] at h
  exact ⟨h.1, 1, h.2⟩
theorem writeT_len (p : Bool) (t : Tm) : (writeT p t).length ≤ 24000 := by
  unfold writeT
  split
  · rename_i h
    obtain ⟨h1, h2⟩ := termOk_of h
    have := (Rt_len p h2).1
    omega
  · simp
theorem impl_WriteTerm_ok (t : Tm) (hw : WT t) (v : V) (hb : BT t v) : cr progA F.impl_WriteTerm [v] = some (S (writeT false t)) := by
  have ok := impl_TermOk_ok t hw v hb
  have wt := fun h1 h2 => impl_write_ok' (nT t) t (Nat.le_refl _) h1 h2 hw v hb
  obtain ⟨τ, vs, rfl, hv⟩ := BT_shape hb
  rw [cr_fn pA_impl_WriteTerm rfl]
  unfold writeT
  cases h : termOk t with
  | false => rw [h] at ok; rw [if_neg (by decide)]; simp only [go_sem, Nat.reduceAdd, Nat.reduceSub, Nat.reduceMul, Nat.reduceEqDiff, Nat.reduceLeDiff, Nat.reduceBEq, reduceCtorEq, A.impl_WriteTerm, ok]
  | true =>
    obtain ⟨h1, h2⟩ := termOk_of h
    have g := wt h1 h2
    rw [h] at ok
    rw [if_pos rfl]
    simp only [go_sem, Nat.reduceAdd, Nat.reduceSub, Nat.reduceMul, Nat.reduceEqDiff, Nat.reduceLeDiff, Nat.reduceBEq, reduceCtorEq, A.impl_WriteTerm, ok, g]
theorem spec_WriteTerm_ok (t : Tm) (hw : WT t) (v : V) (hb : BT t v) : cr progA F.spec_WriteTerm [v] = some (S (writeT false t)) := by
  have ok := spec_TermOk_ok t hw v hb
  have wt := fun h1 h2 => l07Write_ok t h1 h2 hw v hb
  obtain ⟨τ, vs, rfl, hv⟩ := BT_shape hb
  rw [cr_fn pA_spec_WriteTerm rfl]
  unfold writeT
  cases h : termOk t with
  | false => rw [h] at ok; rw [if_neg (by decide)]; simp only [go_sem, Nat.reduceAdd, Nat.reduceSub, Nat.reduceMul, Nat.reduceEqDiff, Nat.reduceLeDiff, Nat.reduceBEq, reduceCtorEq, A.spec_WriteTerm, ok]
  | true =>
    obtain ⟨h1, h2⟩ := termOk_of h
    have g := wt h1 h2
    rw [h] at ok
    rw [if_pos rfl]
    simp only [go_sem, Nat.reduceAdd, Nat.reduceSub, Nat.reduceMul, Nat.reduceEqDiff, Nat.reduceLeDiff, Nat.reduceBEq, reduceCtorEq, A.spec_WriteTerm, ok, g]
/-! clauses -/
def showClause (c : Cl) : Str := (if isAt c.body [116, 114, 117, 101] = true then writeT false c.head else writeT false c.head ++ ([32, 58, 45, 32] ++ writeT false c.body)) ++ [46, 10]
theorem showClause_len (c : Cl) : (showClause c).length ≤ 50000 := by
  have h1 := writeT_len false c.head
  have h2 := writeT_len false c.body
  unfold showClause
  split <;> simp only [List.length_append, List.length_cons, List.length_nil] <;> omega
theorem impl_ShowClause_ok (c : Cl) (hw : wCl c) (v : V) (h : bCl c v) : cr progA F.impl_ShowClause [v] = some (S (showClause c)) := by
  obtain ⟨τ0, vs0, τ1, vs1, rfl, h0, h1⟩ := h
  have w1 := impl_WriteTerm_ok c.head hw.1.1 _ (BT_of (τ := τ0) h0)
  have w2 := impl_WriteTerm_ok c.body hw.2.1.1 _ (BT_of (τ := τ1) h1)
  have ia := impl_isAtom_ok c.body _ (BT_of (τ := τ1) h1) [116, 114, 117, 101]
  have l1 := writeT_len false c.head
  have l2 := writeT_len false c.body
  have s1 : binV .add (S [32, 58, 45, 32]) (S (writeT false c.body)) = _ := binS_add (by simp only [List.length_cons, List.length_nil]; omega)
  have s2 : binV .add (S (writeT false c.head)) (S ([32, 58, 45, 32] ++ writeT false c.body)) = _ := binS_add (by simp only [List.length_append, List.length_cons, List.length_nil]; omega)
  have s3 : binV .add (S (writeT false c.head ++ ([32, 58, 45, 32] ++ writeT false c.body))) (S [46, 10]) = _ := binS_add (by simp only [List.length_append, List.length_cons, List.length_nil]; omega)
  have s4 : binV .add (S (writeT false c.head)) (S [46, 10]) = _ := binS_add (by simp only [List.length_cons, List.length_nil]; omega)
  rw [cr_fn pA_impl_ShowClause rfl]
  unfold showClause
  simp only [List.cons_append, List.nil_append] at s1 s2 s3 s4 ⊢
  cases hi : isAt c.body [116, 114, 117, 101] with
  | true => rw [hi] at ia; rw [if_pos rfl]; simp only [go_sem, Nat.reduceAdd, Nat.reduceSub, Nat.reduceMul, Nat.reduceEqDiff, Nat.reduceLeDiff, Nat.reduceBEq, reduceCtorEq, A.impl_ShowClause, w1, ia, s4]
  | false => rw [hi] at ia; rw [if_neg (by decide)]; simp only [go_sem, Nat.reduceAdd, Nat.reduceSub, Nat.reduceMul, Nat.reduceEqDiff, Nat.reduceLeDiff, Nat.reduceBEq, reduceCtorEq, A.impl_ShowClause, w1, ia, w2, s1, s2, s3]
theorem spec_ShowClause_ok (c : Cl) (hw : wCl c) (v : V) (h : bCl c v) : cr progA F.spec_ShowClause [v] = some (S (showClause c)) := by
  obtain ⟨τ0, vs0, τ1, vs1, rfl, h0, h1⟩ := h
  have w1 := spec_WriteTerm_ok c.head hw.1.1 _ (BT_of (τ := τ0) h0)
  have w2 := spec_WriteTerm_ok c.body hw.2.1.1 _ (BT_of (τ := τ1) h1)
  have l1 := writeT_len false c.head
  have l2 := writeT_len false c.body
  have s1 : binV .add (S (writeT false c.head)) (S [32, 58, 45, 32]) = _ := binS_add (by simp only [List.length_cons, List.length_nil]; omega)
  have s2 : binV .add (S (writeT false c.head ++ [32, 58, 45, 32])) (S (writeT false c.body)) = _ := binS_add (by simp only [List.length_append, List.length_cons, List.length_nil]; omega)
  have s3 : binV .add (S (writeT false c.head ++ [32, 58, 45, 32] ++ writeT false c.body)) (S [46, 10]) = _ := binS_add (by simp only [List.length_append, List.length_cons, List.length_nil]; omega)
  have s4 : binV .add (S (writeT false c.head)) (S [46, 10]) = _ := binS_add (by simp only [List.length_cons, List.length_nil]; omega)
  rw [cr_fn pA_spec_ShowClause rfl]
  unfold showClause isAt
  rw [← List.append_assoc]
  cases d1 : decide (c.body.kind = 2) with
  | false => rw [Bool.false_and, if_neg (by decide)]; simp only [go_sem, Nat.reduceAdd, Nat.reduceSub, Nat.reduceMul, Nat.reduceEqDiff, Nat.reduceLeDiff, Nat.reduceBEq, reduceCtorEq, A.spec_ShowClause, w1, d1, w2, s1, s2, s3]
  | true =>
    cases d2 : decide (c.body.name = [116, 114, 117, 101]) with
    | true => rw [Bool.and_self, if_pos rfl]; simp only [go_sem, Nat.reduceAdd, Nat.reduceSub, Nat.reduceMul, Nat.reduceEqDiff, Nat.reduceLeDiff, Nat.reduceBEq, reduceCtorEq, A.spec_ShowClause, w1, d1, d2, s4]
    | false => rw [Bool.and_false, if_neg (by decide)]; simp only [go_sem, Nat.reduceAdd, Nat.reduceSub, Nat.reduceMul, Nat.reduceEqDiff, Nat.reduceLeDiff, Nat.reduceBEq, reduceCtorEq, A.spec_ShowClause, w1, d1, d2, w2, s1, s2, s3]
end Go.Vm

set_option autoImplicit false
set_option maxRecDepth 100000
set_option linter.unusedSimpArgs false
set_option linter.unusedVariables false
namespace Go.Vm
def linesOf : List Str → Str
  | [] => []
  | s :: ss => s ++ [10] ++ linesOf ss
theorem linesOf_app : ∀ (a b : List Str), linesOf (a ++ b) = linesOf a ++ linesOf b
  | [], b => rfl
  | s :: a, b => by simp only [List.cons_append, linesOf, linesOf_app a b, List.append_assoc]
theorem linesOf_next {ss : List Str} {i : Nat} {s : Str} (h : ss[i]? = some s) : linesOf (ss.take (i + 1)) = linesOf (ss.take i) ++ (s ++ [10]) := by
  rw [List.take_succ_eq_append_getElem (List.getElem?_eq_some_iff.1 h).1, linesOf_app, (List.getElem?_eq_some_iff.1 h).2]
  simp [linesOf]
theorem linesOf_len : ∀ (ss : List Str), (∀ s ∈ ss, s.length ≤ Lm) → (linesOf ss).length ≤ ss.length * (Lm + 1)
  | [], _ => by simp [linesOf]
  | s :: ss, h => by
    have := linesOf_len ss fun t ht => h t (by simp [ht])
    have := h s (by simp)
    simp only [linesOf, List.length_append, List.length_cons, List.length_nil, Nat.add_mul]
    omega
theorem cr_true {f : Nat} {xs : List V} (hs : cr progA f xs = some (B true)) : ∃ outs, cw progA f xs = some (B true, outs) := by
  unfold cr at hs
  cases hc : cw progA f xs with
  | none => rw [hc] at hs; cases hs
  | some r => rw [hc] at hs; obtain ⟨a, b⟩ := r; simp only [Option.map_some, Option.some.injEq] at hs; subst hs; exact ⟨b, rfl⟩
end Go.Vm

set_option autoImplicit false
set_option maxHeartbeats 8000000
set_option maxRecDepth 100000
set_option linter.unusedSimpArgs false
set_option linter.unusedVariables false
namespace Go.Vm
theorem law_ShowClause (x : Cl) (hw : wCl x) (v : V) (h : bCl x v) : ∃ outs, cw progA F.laws_FnExactShowClause [v] = some (B true, outs) := by
  apply cr_true
  obtain ⟨m, hm⟩ := szClause_ok x hw v 1048576 h
  have ht := toClause_ok x hw v h
  have hp1 := spec_ShowClause_ok x hw _ (b_iCl false x)
  have hp2 := fun τ => impl_ShowClause_ok x hw _ (b_iCl τ x)
  have he := fun τ τ' => (eqClause_ok x hw x _ _ (b_iCl τ x) (b_iCl τ' x)).trans (by rw [decide_eq_true (rfl : x = x)])
  simp only [iCl] at hp1 hp2 he
  simp only [oCl] at ht
  obtain ⟨τ0, vs0, τ1, vs1, rfl, h0, h1⟩ := h
  rw [cr_fn pA_laws_FnExactShowClause rfl]
  by_cases hneg : m < 0
  · simp only [go_sem, Nat.reduceAdd, Nat.reduceSub, Nat.reduceMul, Nat.reduceEqDiff, Nat.reduceLeDiff, Nat.reduceBEq, reduceCtorEq, A.laws_FnExactShowClause, C.laws_FnExactShowClause_2, C.laws_FnExactShowClause_1, C.laws_FnExactShowClause_0, hm, hneg]
  · simp only [go_sem, Nat.reduceAdd, Nat.reduceSub, Nat.reduceMul, Nat.reduceEqDiff, Nat.reduceLeDiff, Nat.reduceBEq, reduceCtorEq, A.laws_FnExactShowClause, C.laws_FnExactShowClause_2, C.laws_FnExactShowClause_1, C.laws_FnExactShowClause_0, hm, hneg, ht, hp1, hp2, he]
/-! all clauses -/
def showDb : List Cl → Str
  | [] => []
  | c :: cs => showClause c ++ showDb cs
theorem showDb_len : ∀ cs : List Cl, (showDb cs).length ≤ cs.length * 50000
  | [] => Nat.le_refl _
  | c :: cs => by
    have := showDb_len cs
    have := showClause_len c
    simp only [showDb, List.length_append, List.length_cons]
    omega
end Go.Vm

set_option autoImplicit false
set_option maxHeartbeats 8000000
set_option maxRecDepth 100000
set_option linter.unusedSimpArgs false
set_option linter.unusedVariables false
namespace Go.Vm
open Go.Lib (itoa join joinTail)
/-! ### plain writing -/
theorem held_of {m : Int} {t : Tm} : held true m t = if m < prioOf t then [40] ++ wr true t ++ [41] else wr true t := by
  unfold held hold
  by_cases h : m < prioOf t
  · rw [if_pos ⟨rfl, h⟩, if_pos h]
  · rw [if_neg (fun e => h e.2), if_neg h]
theorem bracketed_of (t : Tm) (hN : nT t ≤ 400) (hr : Rt t) (hp : ∀ v, BT t v → cr progA F.impl_plain [v] = some (S (wr true t))) (m : Int) (v : V) (hb : BT t v) :
    cr progA F.impl_bracketed [v, I m] = some (S (held true m t)) := by
  have pr := impl_PrioOf_ok t v hb
  have g := hp v hb
  have hl := (Rt_len true hr).1
  have s1 : binV .add (S [40]) (S (wr true t)) = _ := binS_add (by simp only [List.length_cons, List.length_nil]; omega)
  have s2 : binV .add (S ([40] ++ wr true t)) (S [41]) = _ := binS_add (by simp only [List.length_append, List.length_cons, List.length_nil]; omega)
  obtain ⟨τ, vs, rfl, hv⟩ := BT_shape hb
  rw [held_of, cr_fn pA_impl_bracketed rfl]
  simp only [List.cons_append, List.nil_append] at s1 s2
  by_cases h : m < prioOf t
  · rw [if_pos h]; simp only [go_sem, Nat.reduceAdd, Nat.reduceSub, Nat.reduceMul, Nat.reduceEqDiff, Nat.reduceLeDiff, Nat.reduceBEq, reduceCtorEq, A.impl_bracketed, pr, h, g, s1, s2]
  · rw [if_neg h]; simp only [go_sem, Nat.reduceAdd, Nat.reduceSub, Nat.reduceMul, Nat.reduceEqDiff, Nat.reduceLeDiff, Nat.reduceBEq, reduceCtorEq, A.impl_bracketed, pr, h, g]
theorem l28Held_of (t : Tm) (hN : nT t ≤ 400) (hr : Rt t) (hp : ∀ v, BT t v → cr progA F.spec_l28Write [v] = some (S (wr true t))) (m : Int) (v : V) (hb : BT t v) :
    cr progA F.spec_l28Held [v, I m] = some (S (held true m t)) := by
  have pr := spec_PrioOf_ok t v hb
  have g := hp v hb
  have hl := (Rt_len true hr).1
  have s1 : binV .add (S [40]) (S (wr true t)) = _ := binS_add (by simp only [List.length_cons, List.length_nil]; omega)
  have s2 : binV .add (S ([40] ++ wr true t)) (S [41]) = _ := binS_add (by simp only [List.length_append, List.length_cons, List.length_nil]; omega)
  obtain ⟨τ, vs, rfl, hv⟩ := BT_shape hb
  rw [held_of, cr_fn pA_spec_l28Held rfl]
  simp only [List.cons_append, List.nil_append] at s1 s2
  by_cases h : m < prioOf t
  · rw [if_pos h]; simp only [go_sem, Nat.reduceAdd, Nat.reduceSub, Nat.reduceMul, Nat.reduceEqDiff, Nat.reduceLeDiff, Nat.reduceBEq, reduceCtorEq, A.spec_l28Held, pr, h, g, s1, s2]
  · rw [if_neg h]; simp only [go_sem, Nat.reduceAdd, Nat.reduceSub, Nat.reduceMul, Nat.reduceEqDiff, Nat.reduceLeDiff, Nat.reduceBEq, reduceCtorEq, A.spec_l28Held, pr, h, g]
theorem inf_true {t a b : Tm} : infW true t.name (wk true a) (wk true b) = held true (infixOf t.name).left a ++ [32] ++ signText t.name ++ [32] ++ held true (infixOf t.name).right b := by
  unfold infW
  rw [if_pos rfl, held_eq, held_eq]
theorem impl_plain_ok' : ∀ (n : Nat) (t : Tm), nT t ≤ n → nT t ≤ 400 → Rt t → WT t → ∀ v, BT t v → cr progA F.impl_plain [v] = some (S (wr true t)) := by
  intro n
  induction n with
  | zero => intro t hn; have := nT_pos t; omega
  | succ n ih =>
    intro t hn hN hr hw v hb
    have hB : ∀ u, nT u < nT t → Rt u → WT u → ∀ m v, BT u v → cr progA F.impl_bracketed [v, I m] = some (S (held true m u)) := fun u h1 h2 h3 => bracketed_of u (by omega) h2 (fun v hb => ih u (by omega) (by omega) h2 h3 v hb)
    have hW : ∀ u, nT u < nT t → Rt u → WT u → ∀ v, BT u v → cr progA F.impl_plain_1 [v] = some (S (held true 999 u)) := by
      intro u h1 h2 h3 v hb
      have g := hB u h1 h2 h3 999 v hb
      obtain ⟨τ, vs, rfl, hv⟩ := BT_shape hb
      rw [cr_fn pA_impl_plain_1 rfl]
      simp only [go_sem, Nat.reduceAdd, Nat.reduceSub, Nat.reduceMul, Nat.reduceEqDiff, Nat.reduceLeDiff, Nat.reduceBEq, reduceCtorEq, A.impl_plain_1, g]
    have hI : ∀ a b, t.kind = 4 → t.kids = [a, b] → (infixOf t.name).prio ≠ 0 → ∀ v, BT t v → cr progA F.impl_plain_2 [v] = some (S (infW true t.name (wk true a) (wk true b))) := by
      intro a b k4 hk hi v hb
      obtain ⟨-, hnm, -, -, -⟩ := okOne_kind (Rt_ok hr)
      have hnt := nT_two hk
      have ra := Rt_kids hr a (by rw [hk]; simp)
      have rb := Rt_kids hr b (by rw [hk]; simp)
      have hla := held_len true (infixOf t.name).left ra
      have hlb := held_len true (infixOf t.name).right rb
      have hpa := nT_pos a
      have hpb := nT_pos b
      have st := impl_signText_ok t.name (by omega)
      have hst := signText_len t.name
      have inf := impl_InfixOf_ok t.name
      unfold opV at inf
      obtain ⟨τ, vs, rfl, hv⟩ := BT_shape hb
      rw [hk] at hv
      obtain ⟨va, vb, rfl, hva, hvb⟩ := RL_two hv
      have ca := hB a (by omega) ra (WT_kids hw a (by rw [hk]; simp)) (infixOf t.name).left va hva
      have cb := hB b (by omega) rb (WT_kids hw b (by rw [hk]; simp)) (infixOf t.name).right vb hvb
      obtain ⟨τa, vsa, rfl, -⟩ := BT_shape hva
      obtain ⟨τb, vsb, rfl, -⟩ := BT_shape hvb
      rw [inf_true]
      generalize hA : held true (infixOf t.name).left a = A1 at *
      generalize hB' : held true (infixOf t.name).right b = B1 at *
      have s2 : binV .add (S A1) (S [32]) = _ := binS_add (by simp only [List.length_cons, List.length_nil]; omega)
      have s3 : binV .add (S (A1 ++ [32])) (S (signText t.name)) = _ := binS_add (by simp only [List.length_append, List.length_cons, List.length_nil]; omega)
      have s4 : binV .add (S (A1 ++ [32] ++ signText t.name)) (S [32]) = _ := binS_add (by simp only [List.length_append, List.length_cons, List.length_nil]; omega)
      have s5 : binV .add (S (A1 ++ [32] ++ signText t.name ++ [32])) (S B1) = _ := binS_add (by simp only [List.length_append, List.length_cons, List.length_nil]; omega)
      rw [cr_fn pA_impl_plain_2 rfl]
      simp only [go_sem, Nat.reduceAdd, Nat.reduceSub, Nat.reduceMul, Nat.reduceEqDiff, Nat.reduceLeDiff, Nat.reduceBEq, reduceCtorEq, A.impl_plain_2, inf, ca, cb, st, s2, s3, s4, s5]
    have g := writeWith_ok true F.impl_plain_1 F.impl_plain_2 t hN hr hw hW hI v hb
    obtain ⟨τ, vs, rfl, hv⟩ := BT_shape hb
    rw [cr_fn pA_impl_plain rfl]
    simp only [go_sem, Nat.reduceAdd, Nat.reduceSub, Nat.reduceMul, Nat.reduceEqDiff, Nat.reduceLeDiff, Nat.reduceBEq, reduceCtorEq, A.impl_plain, g]
theorem wr_tf {t : Tm} (hr : Rt t) (h : t.kind ≠ 4) : wr true t = wr false t := by
  obtain ⟨hk, -⟩ := okOne_kind (Rt_ok hr)
  rcases hk with h1 | h1 | h1 | h1
  · rw [wr_var true h1, wr_var false h1]
  · rw [wr_atom true h1, wr_atom false h1]
  · rw [wr_int true h1, wr_int false h1]
  · exact absurd h1 h
theorem l28Write_ok' : ∀ (n : Nat) (t : Tm), nT t ≤ n → nT t ≤ 400 → Rt t → WT t → ∀ v, BT t v → cr progA F.spec_l28Write [v] = some (S (wr true t)) := by
  intro n
  induction n with
  | zero => intro t hn; have := nT_pos t; omega
  | succ n ih =>
    intro t hn hN hr hw v hb
    have hB : ∀ u, nT u < nT t → Rt u → WT u → ∀ m v, BT u v → cr progA F.spec_l28Held [v, I m] = some (S (held true m u)) := fun u h1 h2 h3 => l28Held_of u (by omega) h2 (fun v hb => ih u (by omega) (by omega) h2 h3 v hb)
    have hW : ∀ u, nT u < nT t → Rt u → WT u → ∀ v, BT u v → cr progA F.spec_l28Held [v, I 999] = some (S (held true 999 u)) := fun u h1 h2 h3 v hb => hB u h1 h2 h3 999 v hb
    obtain ⟨hk4, hnm, hnum, hkid, hnok⟩ := okOne_kind (Rt_ok hr)
    have at_ := spec_AtomText_ok t.name (by omega)
    have atl := atomText_len t.name
    have hrow := fun h2 => l28Row_ok t h2 hN hr hw hW v hb
    have is := l03Is_ok t v hb [46] 2
    have inf := spec_InfixOf_ok t.name
    unfold opV at inf
    have w7 := l07Write_ok t hN hr hw v hb
    obtain ⟨τ, vs, rfl, hv⟩ := BT_shape hb
    have hl := RL_length hv
    rw [cr_fn pA_spec_l28Write rfl]
    by_cases k4 : t.kind = 4
    case neg =>
      have d4 : decide (t.kind = 4) = false := decide_eq_false k4
      rw [wr_tf hr k4]
      simp only [go_sem, Nat.reduceAdd, Nat.reduceSub, Nat.reduceMul, Nat.reduceEqDiff, Nat.reduceLeDiff, Nat.reduceBEq, reduceCtorEq, A.spec_l28Write, d4, w7]
    have d4 : decide (t.kind = 4) = true := decide_eq_true k4
    cases hp : isStr t [46] 2 with
    | true =>
      have hrw := hrow hp
      rw [hp] at is
      simp only [go_sem, Nat.reduceAdd, Nat.reduceSub, Nat.reduceMul, Nat.reduceEqDiff, Nat.reduceLeDiff, Nat.reduceBEq, reduceCtorEq, A.spec_l28Write, d4, is, hrw]
    | false =>
    rw [hp] at is
    have pi := prio_inf (t := t)
    rw [d4, Bool.true_and] at pi
    have hkl := (hkid k4).2
    have h1k := (hkid k4).1
    have hks : ∀ u ∈ t.kids, ∀ v, BT u v → cr progA F.spec_l28Held [v, I 999] = some (S (held true 999 u)) := fun u hu => hW u (by have := nT_kids t; have := nTs_mem hu; omega) (Rt_kids hr u hu) (WT_kids hw u hu)
    have hbd : ∀ u ∈ t.kids, (held true 999 u).length ≤ 30000 := fun u hu => by
      have h1 := held_len true 999 (Rt_kids hr u hu)
      have := nT_kids t; have := nTs_mem hu; omega
    have gen : prioOf t = 0 → ∃ acc', join (t.kids.map (held true 999)) [44] = acc' ∧ acc'.length ≤ 200000 ∧ binV .add (S (atomText t.name)) (S [40]) = some (S (atomText t.name ++ [40])) ∧ binV .add (S (atomText t.name ++ [40] ++ acc')) (S [41]) = some (S (wr true t)) := by
      intro h0
      have hw' := wr_gen true k4 hp h0
      have hlen := (Rt_len true hr).1
      have hL : (join (t.kids.map (held true 999)) [44]).length ≤ 200000 := by
        rw [hw'] at hlen
        simp only [List.length_append] at hlen
        omega
      refine ⟨_, rfl, hL, binS_add (by simp only [List.length_cons, List.length_nil]; omega), ?_⟩
      rw [hw']
      exact binS_add (by simp only [List.length_append, List.length_cons, List.length_nil]; omega)
    have first := l28Gen_first t τ vs hv hkl h1k hks hbd (atomText t.name ++ [40]) (by simp only [List.length_append, List.length_cons, List.length_nil]; omega)
    by_cases hi : (infixOf t.name).prio ≠ 0
    · have di : decide ((infixOf t.name).prio ≠ 0) = true := decide_eq_true hi
      rw [di] at inf pi
      have hz : ¬ (infixOf t.name).prio = 0 := hi
      by_cases h2 : (t.kids.length : Int) = 2
      · obtain ⟨a, b, hk⟩ := two_of h2
        have hnt := nT_two hk
        have hpa := nT_pos a
        have hpb := nT_pos b
        have ra := Rt_kids hr a (by rw [hk]; simp)
        have rb := Rt_kids hr b (by rw [hk]; simp)
        have hla := held_len true (infixOf t.name).left ra
        have hlb := held_len true (infixOf t.name).right rb
        rw [hk] at hv
        obtain ⟨va, vb, rfl, hva, hvb⟩ := RL_two hv
        have ca := hB a (by omega) ra (WT_kids hw a (by rw [hk]; simp)) (infixOf t.name).left va hva
        have cb := hB b (by omega) rb (WT_kids hw b (by rw [hk]; simp)) (infixOf t.name).right vb hvb
        obtain ⟨τa, vsa, rfl, -⟩ := BT_shape hva
        obtain ⟨τb, vsb, rfl, -⟩ := BT_shape hvb
        rw [wr_inf true k4 hk hi, inf_true]
        generalize hA : held true (infixOf t.name).left a = A1 at *
        generalize hB' : held true (infixOf t.name).right b = B1 at *
        have hst := signText_len t.name
        have s2 : binV .add (S A1) (S [32]) = _ := binS_add (by simp only [List.length_cons, List.length_nil]; omega)
        have s3 : binV .add (S (A1 ++ [32])) (S (signText t.name)) = _ := binS_add (by simp only [List.length_append, List.length_cons, List.length_nil]; omega)
        have s4 : binV .add (S (A1 ++ [32] ++ signText t.name)) (S [32]) = _ := binS_add (by simp only [List.length_append, List.length_cons, List.length_nil]; omega)
        have s5 : binV .add (S (A1 ++ [32] ++ signText t.name ++ [32])) (S B1) = _ := binS_add (by simp only [List.length_append, List.length_cons, List.length_nil]; omega)
        by_cases hc : t.name = [44]
        · have dc : decide (t.name = [44]) = true := decide_eq_true hc
          unfold signText at s3 s4 s5 ⊢
          rw [if_pos hc] at s3 s4 s5 ⊢
          simp only [go_sem, Nat.reduceAdd, Nat.reduceSub, Nat.reduceMul, Nat.reduceEqDiff, Nat.reduceLeDiff, Nat.reduceBEq, reduceCtorEq, A.spec_l28Write, d4, is, inf, hz, two_two, at_, dc, ca, cb, s2, s3, s4, s5, List.length_cons, List.length_nil]
        · have dc : decide (t.name = [44]) = false := decide_eq_false hc
          unfold signText at s3 s4 s5 ⊢
          rw [if_neg hc] at s3 s4 s5 ⊢
          simp only [go_sem, Nat.reduceAdd, Nat.reduceSub, Nat.reduceMul, Nat.reduceEqDiff, Nat.reduceLeDiff, Nat.reduceBEq, reduceCtorEq, A.spec_l28Write, d4, is, inf, hz, two_two, at_, dc, ca, cb, s2, s3, s4, s5, List.length_cons, List.length_nil]
      · have d22 : decide ((t.kids.length : Int) = 2) = false := decide_eq_false h2
        rw [d22] at pi
        have h0 : prioOf t = 0 := by simpa using pi
        obtain ⟨acc', g1, g2, g3, g4⟩ := gen h0
        rw [g1] at first
        simp only [go_sem, Nat.reduceAdd, Nat.reduceSub, Nat.reduceMul, Nat.reduceEqDiff, Nat.reduceLeDiff, Nat.reduceBEq, reduceCtorEq, A.spec_l28Write, d4, is, inf, hz, d22, hl, at_, g3, first, g4]
    · have di : decide ((infixOf t.name).prio ≠ 0) = false := decide_eq_false hi
      rw [di] at inf pi
      have h0 : prioOf t = 0 := by simpa using pi
      obtain ⟨acc', g1, g2, g3, g4⟩ := gen h0
      rw [g1] at first
      have hz : (infixOf t.name).prio = 0 := by simpa using hi
      simp only [go_sem, Nat.reduceAdd, Nat.reduceSub, Nat.reduceMul, Nat.reduceEqDiff, Nat.reduceLeDiff, Nat.reduceBEq, reduceCtorEq, A.spec_l28Write, d4, is, inf, hz, hl, at_, g3, first, g4]
theorem impl_WritePlain_ok (t : Tm) (hw : WT t) (v : V) (hb : BT t v) : cr progA F.impl_WritePlain [v] = some (S (writeT true t)) := by
  have ok := impl_TermOk_ok t hw v hb
  have wt := fun h1 h2 => impl_plain_ok' (nT t) t (Nat.le_refl _) h1 h2 hw v hb
  obtain ⟨τ, vs, rfl, hv⟩ := BT_shape hb
  rw [cr_fn pA_impl_WritePlain rfl]
  unfold writeT
  cases h : termOk t with
  | false => rw [h] at ok; rw [if_neg (by decide)]; simp only [go_sem, Nat.reduceAdd, Nat.reduceSub, Nat.reduceMul, Nat.reduceEqDiff, Nat.reduceLeDiff, Nat.reduceBEq, reduceCtorEq, A.impl_WritePlain, ok]
  | true =>
    obtain ⟨h1, h2⟩ := termOk_of h
    have g := wt h1 h2
    rw [h] at ok
    rw [if_pos rfl]
    simp only [go_sem, Nat.reduceAdd, Nat.reduceSub, Nat.reduceMul, Nat.reduceEqDiff, Nat.reduceLeDiff, Nat.reduceBEq, reduceCtorEq, A.impl_WritePlain, ok, g]
theorem spec_WritePlain_ok (t : Tm) (hw : WT t) (v : V) (hb : BT t v) : cr progA F.spec_WritePlain [v] = some (S (writeT true t)) := by
  have ok := spec_TermOk_ok t hw v hb
  have wt := fun h1 h2 => l28Write_ok' (nT t) t (Nat.le_refl _) h1 h2 hw v hb
  obtain ⟨τ, vs, rfl, hv⟩ := BT_shape hb
  rw [cr_fn pA_spec_WritePlain rfl]
  unfold writeT
  cases h : termOk t with
  | false => rw [h] at ok; rw [if_neg (by decide)]; simp only [go_sem, Nat.reduceAdd, Nat.reduceSub, Nat.reduceMul, Nat.reduceEqDiff, Nat.reduceLeDiff, Nat.reduceBEq, reduceCtorEq, A.spec_WritePlain, ok]
  | true =>
    obtain ⟨h1, h2⟩ := termOk_of h
    have g := wt h1 h2
    rw [h] at ok
    rw [if_pos rfl]
    simp only [go_sem, Nat.reduceAdd, Nat.reduceSub, Nat.reduceMul, Nat.reduceEqDiff, Nat.reduceLeDiff, Nat.reduceBEq, reduceCtorEq, A.spec_WritePlain, ok, g]
theorem bracketed_ok (t : Tm) (hN : nT t ≤ 400) (hr : Rt t) (hw : WT t) (m : Int) (v : V) (hb : BT t v) : cr progA F.impl_bracketed [v, I m] = some (S (held true m t)) :=
  bracketed_of t hN hr (fun v hb => impl_plain_ok' (nT t) t (Nat.le_refl _) hN hr hw v hb) m v hb
theorem l28Held_ok (t : Tm) (hN : nT t ≤ 400) (hr : Rt t) (hw : WT t) (m : Int) (v : V) (hb : BT t v) : cr progA F.spec_l28Held [v, I m] = some (S (held true m t)) :=
  l28Held_of t hN hr (fun v hb => l28Write_ok' (nT t) t (Nat.le_refl _) hN hr hw v hb) m v hb
theorem law_WritePlain (t : Tm) (hw : wTm t) (v : V) (h : BT t v) : ∃ outs, cw progA F.laws_FnExactWritePlain [v] = some (B true, outs) := by
  apply cr_true
  obtain ⟨m, hm⟩ := szTerm_ok t hw.1 v 1048576 h
  have ht := toTerm_ok t hw.1 v h
  have hp1 := spec_WritePlain_ok t hw.1 _ (BT_iT false t)
  have hp2 := fun τ => impl_WritePlain_ok t hw.1 _ (BT_iT τ t)
  have he := fun τ τ' => (eqTerm_ok t hw.1 t _ _ (BT_iT τ t) (BT_iT τ' t)).trans (by rw [decide_eq_true (rfl : t = t)])
  simp only [iT_mk] at hp1 hp2 he
  rw [oT_mk] at ht
  obtain ⟨τ, vs, rfl, hv⟩ := BT_shape h
  rw [cr_fn pA_laws_FnExactWritePlain rfl]
  by_cases hneg : m < 0
  · simp only [go_sem, Nat.reduceAdd, Nat.reduceSub, Nat.reduceMul, Nat.reduceEqDiff, Nat.reduceLeDiff, Nat.reduceBEq, reduceCtorEq, A.laws_FnExactWritePlain, C.laws_FnExactWritePlain_2, C.laws_FnExactWritePlain_1, C.laws_FnExactWritePlain_0, hm, hneg]
  · simp only [go_sem, Nat.reduceAdd, Nat.reduceSub, Nat.reduceMul, Nat.reduceEqDiff, Nat.reduceLeDiff, Nat.reduceBEq, reduceCtorEq, A.laws_FnExactWritePlain, C.laws_FnExactWritePlain_2, C.laws_FnExactWritePlain_1, C.laws_FnExactWritePlain_0, hm, hneg, ht, hp1, hp2, he]
end Go.Vm

set_option autoImplicit false
set_option maxRecDepth 100000
set_option linter.unusedVariables false
set_option linter.unusedSimpArgs false
namespace Go.Proofs
open Go.Shelf
def Tryd.laysItoa_ren : Go.Shelf.Ren := ⟨fun | 171 => 126 | 243 => 147 | 246 => 164 | 283 => 176 | 284 => 177 | 285 => 178 | 286 => 179 | 129 => 181 | 317 => 180 | 318 => 182 | 319 => 183 | 320 => 184 | 337 => 185 | 338 => 186 | n => n, fun | 3 => 3 | 9 => 9 | 2 => 2 | 4 => 4 | 171 => 153 | 0 => 0 | 53 => 154 | 37 => 90 | 5 => 5 | 173 => 157 | 212 => 160 | 51 => 147 | 20 => 20 | 213 => 161 | 46 => 137 | 232 => 165 | 233 => 166 | n => n, fun | 17 => 3 | 18 => 4 | 19 => 5 | n => n⟩
theorem Tryd.laysItoa : Go.Proofs.LaysM.n171 Tryd.prog Tryd.laysItoa_ren where
  mixed := by kernel_rfl
  f129 := Tryd.func181.trans (congrArg some (by kernel_rfl))
  f171 := Tryd.func126.trans (congrArg some (by kernel_rfl))
  f243 := Tryd.func147.trans (congrArg some (by kernel_rfl))
  f246 := Tryd.func164.trans (congrArg some (by kernel_rfl))
  f283 := Tryd.func176.trans (congrArg some (by kernel_rfl))
  f284 := Tryd.func177.trans (congrArg some (by kernel_rfl))
  f285 := Tryd.func178.trans (congrArg some (by kernel_rfl))
  f286 := Tryd.func179.trans (congrArg some (by kernel_rfl))
  f317 := Tryd.func180.trans (congrArg some (by kernel_rfl))
  f318 := Tryd.func182.trans (congrArg some (by kernel_rfl))
  f319 := Tryd.func183.trans (congrArg some (by kernel_rfl))
  f320 := Tryd.func184.trans (congrArg some (by kernel_rfl))
  f337 := Tryd.func185.trans (congrArg some (by kernel_rfl))
  f338 := Tryd.func186.trans (congrArg some (by kernel_rfl))
  t0 := Tryd.underlying0
  a0 := Tryd.isAgg0
  z0 := Tryd.sizeOf0
  v0 := Tryd.zeroValue0
  t2 := Tryd.underlying2
  a2 := Tryd.isAgg2
  z2 := Tryd.sizeOf2
  v2 := Tryd.zeroValue2
  t3 := Tryd.underlying3
  a3 := Tryd.isAgg3
  z3 := Tryd.sizeOf3
  v3 := Tryd.zeroValue3
  t4 := Tryd.underlying4
  a4 := Tryd.isAgg4
  z4 := Tryd.sizeOf4
  v4 := Tryd.zeroValue4
  t5 := Tryd.underlying5
  a5 := Tryd.isAgg5
  z5 := Tryd.sizeOf5
  v5 := Tryd.zeroValue5
  t9 := Tryd.underlying9
  a9 := Tryd.isAgg9
  z9 := Tryd.sizeOf9
  v9 := Tryd.zeroValue9
  t20 := Tryd.underlying20
  a20 := Tryd.isAgg20
  z20 := Tryd.sizeOf20
  v20 := Tryd.zeroValue20
  t37 := Tryd.underlying90
  a37 := Tryd.isAgg90
  z37 := Tryd.sizeOf90
  v37 := Tryd.zeroValue90
  t46 := Tryd.underlying137
  a46 := Tryd.isAgg137
  z46 := Tryd.sizeOf137
  v46 := Tryd.zeroValue137
  t51 := Tryd.underlying147
  a51 := Tryd.isAgg147
  z51 := Tryd.sizeOf147
  v51 := Tryd.zeroValue147
  t53 := Tryd.underlying154
  a53 := Tryd.isAgg154
  z53 := Tryd.sizeOf154
  v53 := Tryd.zeroValue154
  t171 := Tryd.underlying153
  a171 := Tryd.isAgg153
  z171 := Tryd.sizeOf153
  v171 := Tryd.zeroValue153
  t173 := Tryd.underlying157
  a173 := Tryd.isAgg157
  z173 := Tryd.sizeOf157
  v173 := Tryd.zeroValue157
  t212 := Tryd.underlying160
  a212 := Tryd.isAgg160
  z212 := Tryd.sizeOf160
  v212 := Tryd.zeroValue160
  t213 := Tryd.underlying161
  a213 := Tryd.isAgg161
  z213 := Tryd.sizeOf161
  t232 := Tryd.underlying165
  a232 := Tryd.isAgg165
  z232 := Tryd.sizeOf165
  v232 := Tryd.zeroValue165
  t233 := Tryd.underlying166
  a233 := Tryd.isAgg166
  z233 := Tryd.sizeOf166
  v233 := Tryd.zeroValue166
  g17 := by kernel_rfl
  g18 := by kernel_rfl
  g19 := by kernel_rfl
  i0 := by kernel_rfl
  i2 := by kernel_rfl
  i3 := by kernel_rfl
  i4 := by kernel_rfl
  i5 := by kernel_rfl
  i9 := by kernel_rfl
  i20 := by kernel_rfl
  i37 := by kernel_rfl
  i46 := by kernel_rfl
  i51 := by kernel_rfl
  i53 := by kernel_rfl
  i171 := by kernel_rfl
  i173 := by kernel_rfl
  i212 := by kernel_rfl
  i232 := by kernel_rfl
  i233 := by kernel_rfl
  m17 := by kernel_rfl
  m18 := by kernel_rfl
  m19 := by kernel_rfl
end Go.Proofs
namespace Go.Vm
open Go.Proofs
/-- what the library's table holds -/
instance layD : Lay where
  B b := b = Tryd.laysItoa_ren.g 17
  L w := Lib.TabIs Tryd.prog w "internal/strconv.uint64pow10" .u64 Lib.pow10Tab
  st w w' h hL := by
    unfold Lib.TabIs World.var? at *
    rw [Tryd.laysItoa.m17] at *
    simp only [Option.bind_some] at *
    rw [h _ rfl]; exact hL
theorem itoaP_ok : ∀ args r outs, itoaP args = some (r, outs) → CallOk Tryd.prog (Tryd.laysItoa_ren.f 171) args r outs := by
  intro args r outs h
  unfold itoaP at h
  split at h
  case h_2 => cases h
  rename_i n
  split at h
  case isFalse => cases h
  rename_i hb
  simp only [Option.some.injEq, Prod.mk.injEq] at h
  obtain ⟨rfl, rfl⟩ := h
  have hz : ∀ (E : Env) vs c, RelL E.cl [I n] vs c → c = c0 ∧ vs = [.int .i64 n] := by
    intro E vs c hx
    simp only [RelL, I, Rel] at hx
    obtain ⟨y, ys, c1, c2, rfl, ⟨rfl, -, rfl⟩, ⟨rfl, rfl⟩, rfl⟩ := hx
    exact ⟨rfl, rfl⟩
  refine prim_ok (x := .string ⟨(Lib.itoa n).toArray⟩) Tryd.laysItoa.f171 rfl rfl rfl rfl ?_ (fun E vs c hx => (hz E vs c hx).1)
  intro E vs hx hL
  obtain ⟨-, rfl⟩ := hz E vs c0 hx
  refine (Any.strconv_Itoa Tryd.laysItoa n hb.1 hb.2 E.w hL).mono ?_
  rintro e w' ⟨rfl, k, os, rfl⟩
  exact ⟨rfl, adds_grow _ _ _⟩
end Go.Vm
namespace Go.Proofs
open Go.Shelf
def Tryd.laysIB_ren : Go.Shelf.Ren := ⟨fun | 137 => 152 | 217 => 148 | 266 => 165 | n => n, fun | 9 => 9 | 5 => 5 | 3 => 3 | n => n, fun | n => n⟩
theorem Tryd.laysIB : Go.Proofs.Lays.n137 Tryd.prog Tryd.laysIB_ren where
  mixed := by kernel_rfl
  f137 := Tryd.func152.trans (congrArg some (by kernel_rfl))
  f217 := Tryd.func148.trans (congrArg some (by kernel_rfl))
  f266 := Tryd.func165.trans (congrArg some (by kernel_rfl))
  t3 := Tryd.underlying3
  a3 := Tryd.isAgg3
  z3 := Tryd.sizeOf3
  v3 := Tryd.zeroValue3
  t5 := Tryd.underlying5
  a5 := Tryd.isAgg5
  z5 := Tryd.sizeOf5
  v5 := Tryd.zeroValue5
  t9 := Tryd.underlying9
  a9 := Tryd.isAgg9
  z9 := Tryd.sizeOf9
  v9 := Tryd.zeroValue9
def Tryd.laysJn_ren : Go.Shelf.Ren := ⟨fun | 156 => 123 | 165 => 142 | 166 => 143 | 169 => 144 | 240 => 162 | 241 => 163 | 276 => 174 | 277 => 175 | n => n, fun | 31 => 58 | 9 => 9 | 3 => 3 | 4 => 4 | 0 => 0 | 20 => 20 | 72 => 130 | 76 => 134 | 70 => 128 | 37 => 90 | 75 => 133 | 127 => 145 | 164 => 150 | 5 => 5 | 80 => 136 | n => n, fun | n => n⟩
theorem Tryd.laysJn : Go.Proofs.Lays.n156 Tryd.prog Tryd.laysJn_ren where
  mixed := by kernel_rfl
  f156 := Tryd.func123.trans (congrArg some (by kernel_rfl))
  f165 := Tryd.func142.trans (congrArg some (by kernel_rfl))
  f166 := Tryd.func143.trans (congrArg some (by kernel_rfl))
  f169 := Tryd.func144.trans (congrArg some (by kernel_rfl))
  f240 := Tryd.func162.trans (congrArg some (by kernel_rfl))
  f241 := Tryd.func163.trans (congrArg some (by kernel_rfl))
  f276 := Tryd.func174.trans (congrArg some (by kernel_rfl))
  f277 := Tryd.func175.trans (congrArg some (by kernel_rfl))
  t0 := Tryd.underlying0
  a0 := Tryd.isAgg0
  z0 := Tryd.sizeOf0
  v0 := Tryd.zeroValue0
  t3 := Tryd.underlying3
  a3 := Tryd.isAgg3
  z3 := Tryd.sizeOf3
  v3 := Tryd.zeroValue3
  t4 := Tryd.underlying4
  a4 := Tryd.isAgg4
  z4 := Tryd.sizeOf4
  v4 := Tryd.zeroValue4
  t9 := Tryd.underlying9
  a9 := Tryd.isAgg9
  z9 := Tryd.sizeOf9
  v9 := Tryd.zeroValue9
  t20 := Tryd.underlying20
  a20 := Tryd.isAgg20
  z20 := Tryd.sizeOf20
  v20 := Tryd.zeroValue20
  t31 := Tryd.underlying58
  a31 := Tryd.isAgg58
  z31 := Tryd.sizeOf58
  v31 := Tryd.zeroValue58
  t37 := Tryd.underlying90
  a37 := Tryd.isAgg90
  z37 := Tryd.sizeOf90
  v37 := Tryd.zeroValue90
  t70 := Tryd.underlying128
  a70 := Tryd.isAgg128
  z70 := Tryd.sizeOf128
  v70 := Tryd.zeroValue128
  t72 := Tryd.underlying130
  a72 := Tryd.isAgg130
  z72 := Tryd.sizeOf130
  v72 := Tryd.zeroValue130
  t75 := Tryd.underlying133
  a75 := Tryd.isAgg133
  z75 := Tryd.sizeOf133
  v75 := Tryd.zeroValue133
  t76 := Tryd.underlying134
  a76 := Tryd.isAgg134
  z76 := Tryd.sizeOf134
  v76 := Tryd.zeroValue134
  t127 := Tryd.underlying145
  a127 := Tryd.isAgg145
  z127 := Tryd.sizeOf145
  v127 := Tryd.zeroValue145
  t164 := Tryd.underlying150
  a164 := Tryd.isAgg150
  z164 := Tryd.sizeOf150
  v164 := Tryd.zeroValue150
theorem Tryd.laysJnX : Go.Proofs.Builder.Extra Tryd.prog Tryd.laysJn_ren where
  t5 := Tryd.underlying5
  a5 := Tryd.isAgg5
  z5 := Tryd.sizeOf5
  v5 := Tryd.zeroValue5
  infoByte := by kernel_rfl
  cellsByte := by kernel_rfl
  sizeByte := by kernel_rfl
  neB5 := by decide
  sizeBuilder := by kernel_rfl
  liesBuilder := by kernel_rfl
end Go.Proofs
namespace Go.Vm
open Go.Proofs
theorem ixbP_ok : ∀ args r outs, ixbP args = some (r, outs) → CallOk Tryd.prog (Tryd.laysIB_ren.f 137) args r outs := by
  intro args r outs h
  unfold ixbP at h
  split at h
  case h_2 => cases h
  rename_i s n
  simp only [Option.some.injEq, Prod.mk.injEq] at h
  obtain ⟨rfl, rfl⟩ := h
  have hz : ∀ (E : Env) vs c, RelL E.cl [.v (.string s), .v (.int .u8 n)] vs c → c = c0 ∧ vs = [.string s, .int .u8 n] := by
    intro E vs c hx
    simp only [RelL, Rel] at hx
    obtain ⟨y, ys, c1, c2, rfl, ⟨rfl, -, rfl⟩, ⟨y', ys', c3, c4, rfl, ⟨rfl, -, rfl⟩, ⟨rfl, rfl⟩, rfl⟩, rfl⟩ := hx
    exact ⟨rfl, rfl⟩
  refine prim_ok (x := .int .i64 (Lib.indexByte s.data.toList n.toNat.toUInt8)) Tryd.laysIB.f137 rfl rfl rfl rfl ?_ (fun E vs c hx => (hz E vs c hx).1)
  intro E vs hx hL
  obtain ⟨-, rfl⟩ := hz E vs c0 hx
  refine (Any.strings_IndexByte Tryd.laysIB s n E.w).mono ?_
  rintro e w' ⟨rfl, rfl⟩
  exact ⟨rfl, Adds.refl _⟩
theorem joinP_ok : ∀ args r outs, joinP args = some (r, outs) → CallOk Tryd.prog (Tryd.laysJn_ren.f 156) args r outs := by
  intro args r outs h
  unfold joinP at h
  split at h
  case h_2 => cases h
  rename_i τ xs p
  split at h
  case h_2 => cases h
  rename_i ss hss
  split at h
  case isFalse => cases h
  rename_i hb
  simp only [Option.some.injEq, Prod.mk.injEq] at h
  obtain ⟨rfl, rfl⟩ := h
  obtain rfl := strsOf_eq hss
  rw [List.length_map] at hb
  refine prim_ok (x := .string ⟨(Lib.join ss p.data.toList).toArray⟩) Tryd.laysJn.f156 rfl rfl rfl rfl ?_ ?_
  · intro E vs hx hL
    simp only [RelL, Rel] at hx
    obtain ⟨y, ys, c1, c2, rfl, ⟨-, A, cap, rfl, hcap, hxs⟩, ⟨y', ys', c3, c4, rfl, ⟨rfl, -, -⟩, ⟨rfl, -⟩, -⟩, -⟩ := hx
    rw [List.length_map] at hcap ⊢
    have hm : (ss.map fun s => (⟨s.toArray⟩ : ByteArray)).map (·.data.toList) = ss := by
      rw [List.map_map]
      conv => rhs; rw [← List.map_id ss]
      exact List.map_congr_left fun s _ => by simp
    have key : Calls Tryd.prog (Tryd.laysJn_ren.f 156) #[.slice A ss.length cap, .string p] E.w fun e w' => e = .returned (.string ⟨(Lib.join ss p.data.toList).toArray⟩) ∧ Go.RowKit.Below E.w.heap.size E.w w' := by
      rcases hxs with h0 | ⟨b, base, e, cells, T, fz, rfl, -, hcell, hr⟩
      · obtain rfl : ss = [] := by simpa using h0
        exact (Any.strings_Join_none Tryd.laysJn Tryd.laysJnX A cap p E.w).mono fun e w' ⟨he, hw⟩ => ⟨he, hw ▸ Go.RowKit.Below.refl _ _⟩
      · obtain ⟨he, hs⟩ := relR_S hr
        have := Any.strings_Join Tryd.laysJn Tryd.laysJnX b base cap (ss.map fun s => ⟨s.toArray⟩) p E.w (by
          intro j x hj
          rw [List.getElem?_map, Option.map_eq_some_iff] at hj
          obtain ⟨s, hj, rfl⟩ := hj
          have he1 : e = 1 := by rcases he with rfl | he; (cases hj); exact he
          subst he1
          have h1 : (seg cells base ((ss.map S).length * 1))[j]? = some (.string ⟨s.toArray⟩) := by rw [hs, List.getElem?_map, hj]; rfl
          have hlt : j < ss.length := (List.getElem?_eq_some_iff.1 hj).1
          rw [seg, List.getElem?_take_of_lt (by rw [List.length_map]; omega), List.getElem?_drop, Array.getElem?_toList] at h1
          have hc : E.cl.w.heap[b]? = E.w.heap[b]? := rfl
          rw [hc] at hcell
          simp only [World.cell?, hcell]
          exact h1) (by have := (Array.getElem?_eq_some_iff.1 hcell).1; exact this) (by rw [List.length_map]; exact hb.1) (by rw [List.length_map]; exact hcap) (by rw [hm]; exact hb.2)
        rw [hm, List.length_map] at this
        exact this
    refine key.mono ?_
    rintro e w' ⟨rfl, hB⟩
    exact ⟨rfl, ⟨hB.os, hB.tape, hB.output, hB.size, hB.block⟩⟩
  · intro E vs c hx
    simp only [RelL, Rel] at hx
    obtain ⟨y, ys, c1, c2, rfl, ⟨rfl, -⟩, ⟨y', ys', c3, c4, rfl, ⟨-, -, rfl⟩, ⟨-, rfl⟩, rfl⟩, rfl⟩ := hx
    rfl
end Go.Vm
