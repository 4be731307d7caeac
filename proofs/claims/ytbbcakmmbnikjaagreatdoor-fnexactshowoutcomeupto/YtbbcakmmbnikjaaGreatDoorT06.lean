import Derived.Test.YtbbcakmmbnikjaaGreatDoorT05
import Derived.Test.YtbbcakmmbnikjaaGreatDoorT03

set_option autoImplicit false
set_option maxHeartbeats 8000000
set_option maxRecDepth 100000
set_option linter.unusedSimpArgs false
set_option linter.unusedVariables false
namespace Go.Vm
open Go.Lib (indexByte)
/-! ### signs, in the program's order -/
theorem subs_one {s : Str} {i : Nat} {c : UInt8} (hc : s[i]? = some c) : subs s i (i + 1) = [c] := by
  unfold subs
  rw [List.drop_take, drop_cons' hc, Nat.add_sub_cancel_left]
  rfl
theorem subs_len {s : Str} {i n : Nat} (h : i + n ≤ s.length) : (subs s i (i + n)).length = n := by
  unfold subs; simp only [List.length_drop, List.length_take]; omega
theorem isB_eq {n : Nat} {c : UInt8} (h : isB n c = true) : c = UInt8.ofNat n := by
  unfold isB at h
  have h1 : (c.toNat : Int) = n := of_decide_eq_true h
  have h2 : c.toNat = n := by omega
  rw [← h2]; simp
theorem sym_excl {c : UInt8} (h : symB c = true) : (inB 97 122 c || greatB c) = false ∧ inB 48 57 c = false ∧ isB 39 c = false ∧ (isB 33 c || isB 59 c) = false ∧ (isB 40 c || isB 41 c || isB 91 c || isB 93 c || isB 44 c || isB 124 c) = false := by
  unfold symB at h
  have h1 : c ∈ syms := of_decide_eq_true h
  have h2 : syms.all (fun c => !(inB 97 122 c || greatB c) && !inB 48 57 c && !isB 39 c && !(isB 33 c || isB 59 c) && !(isB 40 c || isB 41 c || isB 91 c || isB 93 c || isB 44 c || isB 124 c)) = true := by decide
  have h3 := List.all_eq_true.1 h2 c h1
  simp only [Bool.and_eq_true, Bool.not_eq_true'] at h3
  exact ⟨h3.1.1.1.1, h3.1.1.1.2, h3.1.1.2, h3.1.2, h3.2⟩
theorem end_sym {s : Str} {i : Nat} {c : UInt8} (h : endB s i c = true) : c = 46 ∧ symB c = true := by
  unfold endB at h
  simp only [Bool.and_eq_true] at h
  have : c = 46 := isB_eq (n := 46) h.1
  subst this
  exact ⟨rfl, by decide⟩
def sgn2 (s : Str) (i : Nat) (c : UInt8) : Sg × Nat :=
  if endB s i c = true then (⟨5, [46], 0, i, false⟩, i + 1)
  else if (inB 97 122 c || greatB c) = true then
    if pre wordB (s.drop i) ≤ 20 then (⟨if greatB c = true then 2 else 1, subs s i (i + pre wordB (s.drop i)), 0, i, false⟩, i + pre wordB (s.drop i)) else bad s i
  else if inB 48 57 c = true then
    if nf (s.drop i) 0 ≤ 999999999 then (⟨3, [], nf (s.drop i) 0, i, false⟩, i + pre (inB 48 57) (s.drop i)) else bad s i
  else if symB c = true then
    if pre symB (s.drop i) ≤ 20 then (⟨1, subs s i (i + pre symB (s.drop i)), 0, i, false⟩, i + pre symB (s.drop i)) else bad s i
  else if (isB 33 c || isB 59 c) = true then (⟨1, subs s i (i + 1), 0, i, false⟩, i + 1)
  else if (isB 40 c || isB 41 c || isB 91 c || isB 93 c || isB 44 c || isB 124 c) = true then (⟨4, subs s i (i + 1), 0, i, false⟩, i + 1)
  else if isB 39 c = true then
    match quoted (s.drop (i + 1)) with
    | some m => (⟨1, subs s (i + 1) (i + 1 + m), 0, i, false⟩, i + 1 + m + 1)
    | none => bad s i
  else bad s i
theorem sgn_eq {s : Str} {i : Nat} {c : UInt8} (hc : s[i]? = some c) : sgn s i c = sgn2 s i c := by
  unfold sgn sgn2
  by_cases hE : endB s i c = true
  · obtain ⟨h46, hs⟩ := end_sym hE
    obtain ⟨h1, h2, h3, h4, h5⟩ := sym_excl hs
    rw [h1, h2, h3, h4, h5, if_pos hE, if_pos hE, subs_one hc, h46]
    rfl
  rw [if_neg hE, if_neg hE]
  by_cases hY : symB c = true
  · obtain ⟨h1, h2, h3, h4, h5⟩ := sym_excl hY
    rw [h1, h2, h3, h4, h5, if_pos hY, if_pos hY]
    rfl
  rw [if_neg hY, if_neg hY]
  by_cases h1 : (inB 97 122 c || greatB c) = true
  · rw [if_pos h1, if_pos h1]
  rw [if_neg h1, if_neg h1]
  by_cases h2 : inB 48 57 c = true
  · rw [if_pos h2, if_pos h2]
  rw [if_neg h2, if_neg h2]
  by_cases h3 : isB 39 c = true
  · have := isB_eq (n := 39) h3
    subst this
    rw [if_pos (show isB 39 (UInt8.ofNat 39) = true by decide)]
    rfl
  · rw [if_neg h3, if_neg h3]
/-! a quoted name by its run of right bytes -/
theorem okByte39 : okByte 39 = false := by decide
theorem qlen_pre : ∀ (r : Str), r[pre okByte r]? = some 39 → qlen r = some (pre okByte r) ∧ okBytes (r.take (pre okByte r)) = true
  | [], h => by simp at h
  | c :: r, h => by
    simp only [pre] at h ⊢
    by_cases hc : okByte c = true
    · rw [if_pos hc] at h ⊢
      rw [List.getElem?_cons_succ] at h
      obtain ⟨h1, h2⟩ := qlen_pre r h
      have h3 : isB 39 c = false := by
        cases hi : isB 39 c with
        | false => rfl
        | true => have := isB_eq (n := 39) hi; subst this; cases hc
      refine ⟨by simp only [qlen, h3, h1, Bool.false_eq_true, if_false, Option.map_some], ?_⟩
      unfold okBytes at h2 ⊢
      rw [List.take_succ_cons, List.all_cons, hc, h2]; rfl
    · rw [if_neg hc] at h ⊢
      simp only [List.getElem?_cons_zero, Option.some.injEq] at h
      subst h
      exact ⟨rfl, rfl⟩
theorem pre_qlen : ∀ (r : Str) (k : Nat), qlen r = some k → okBytes (r.take k) = true → pre okByte r = k ∧ r[k]? = some 39
  | [], k, h, _ => by cases h
  | c :: r, k, h, h2 => by
    simp only [qlen] at h
    split at h
    · rename_i h3
      cases h
      have := isB_eq (n := 39) h3
      subst this
      exact ⟨rfl, rfl⟩
    · rw [Option.map_eq_some_iff] at h
      obtain ⟨m, hm, rfl⟩ := h
      unfold okBytes at h2
      rw [List.take_succ_cons, List.all_cons, Bool.and_eq_true] at h2
      obtain ⟨h4, h5⟩ := pre_qlen r m hm h2.2
      refine ⟨by simp only [pre, h2.1, if_true, h4], by rw [List.getElem?_cons_succ]; exact h5⟩
theorem quoted_pre (r : Str) : quoted r = if r[pre okByte r]? = some 39 ∧ 1 ≤ pre okByte r ∧ pre okByte r ≤ 20 then some (pre okByte r) else none := by
  have hl : ∀ k, k < r.length → (r.take k).length = k := fun k h => by rw [List.length_take]; omega
  unfold quoted
  by_cases h : r[pre okByte r]? = some 39
  · obtain ⟨h1, h2⟩ := qlen_pre r h
    have h3 := hl _ (qlen_lt h1)
    rw [h1]
    simp only [nameOk, h2, Bool.true_and, decide_eq_true_eq, h3, h, true_and]
  · rw [if_neg fun h' => h h'.1]
    split
    · rename_i k hk
      split
      · rename_i hn
        unfold nameOk at hn
        rw [Bool.and_eq_true] at hn
        obtain ⟨h4, h5⟩ := pre_qlen r k hk hn.1
        rw [h4] at h
        exact absurd h5 h
      · rfl
    · rfl
theorem marks_ixb (c : UInt8) : decide (0 ≤ indexByte [40, 41, 91, 93, 44, 124] c) = (isB 40 c || isB 41 c || isB 91 c || isB 93 c || isB 44 c || isB 124 c) := by
  have h := ixb_mem [40, 41, 91, 93, 44, 124] c
  have e : ∀ n : Nat, n < 256 → (isB n c = true ↔ c = UInt8.ofNat n) := fun n hn => ⟨isB_eq, by
    rintro rfl
    unfold isB
    refine decide_eq_true ?_
    rw [UInt8.toNat_ofNat']
    omega⟩
  have e40 := e 40 (by decide)
  have e41 := e 41 (by decide)
  have e91 := e 91 (by decide)
  have e93 := e 93 (by decide)
  have e44 := e 44 (by decide)
  have e124 := e 124 (by decide)
  rw [Bool.eq_iff_iff, decide_eq_true_iff, h]
  simp only [Bool.or_eq_true]
  simp only [Int.cast_ofNat_Int] at e40 e41 e91 e93 e44 e124
  rw [e40, e41, e91, e93, e44, e124]
  simp only [List.mem_cons, List.not_mem_nil, or_false, or_assoc]
  rfl
theorem lower_great {c : UInt8} (h : inB 97 122 c = true) : greatB c = false := by
  unfold inB at h
  simp only [Bool.and_eq_true, decide_eq_true_eq] at h
  unfold greatB inB isB
  simp only [Bool.or_eq_false_iff, Bool.and_eq_false_iff, decide_eq_false_iff_not]
  omega
end Go.Vm

set_option autoImplicit false
set_option maxHeartbeats 8000000
set_option maxRecDepth 100000
set_option linter.unusedSimpArgs false
set_option linter.unusedVariables false
namespace Go.Vm
theorem l05Sign_ok (s : Str) (hl : s.length ≤ 2^61) (i : Nat) (c : UInt8) (hc : s[i]? = some c) :
    cr progA F.spec_l05Sign [S s, I i] = some (.t [(sgn s i c).1.v, I (sgn s i c).2]) := by
  have hi : i < s.length := (List.getElem?_eq_some_iff.1 hc).1
  have ix := ix_S (l := s) (i := (i : Int)) (c := c) (by omega) (by simpa using hc)
  have e1 : w64 ((i : Int) + 1) = ((i + 1 : Nat) : Int) := by rw [w64_id] <;> omega
  have sl := ssl_sub s i (i + 1) (by omega) (by omega)
  have cS := l05Small_ok c
  have cG := l05Great_ok c
  have cF := l05Figure_ok c
  have cY := spec_SymbolByte_ok c
  have cE := l05End_ok s hl i c hc
  rw [cr_fn pA_spec_l05Sign rfl]
  by_cases hw : (inB 97 122 c || greatB c) = true
  · have hr := l05Run_ok s hl i (by omega)
    have hp := pre_lt (p := wordB) (s := s) (i := i) (by omega)
    have e2 : w64 (((i + pre wordB (s.drop i) : Nat) : Int) - i) = (pre wordB (s.drop i) : Nat) := by rw [w64_id] <;> omega
    have sl2 := ssl_sub s i (i + pre wordB (s.drop i)) (by omega) hp
    unfold sgn
    rw [if_pos hw]
    by_cases h20 : pre wordB (s.drop i) ≤ 20
    · have h20' : ((pre wordB (s.drop i) : Nat) : Int) ≤ 20 := by omega
      rw [if_pos h20]
      cases hS : inB 97 122 c <;> cases hG : greatB c <;> rw [hS] at cS <;> rw [hG] at cG <;> rw [hS, hG] at hw
      · cases hw
      all_goals simp only [go_sem, Nat.reduceAdd, Nat.reduceSub, Nat.reduceMul, Nat.reduceEqDiff, Nat.reduceLeDiff, Nat.reduceBEq, reduceCtorEq, A.spec_l05Sign, ix, e1, sl, cS, cG, hr, e2, h20', sl2, Sg.v]
    · have h20' : ¬ ((pre wordB (s.drop i) : Nat) : Int) ≤ 20 := by omega
      rw [if_neg h20]
      cases hS : inB 97 122 c <;> cases hG : greatB c <;> rw [hS] at cS <;> rw [hG] at cG <;> rw [hS, hG] at hw
      · cases hw
      all_goals simp only [go_sem, Nat.reduceAdd, Nat.reduceSub, Nat.reduceMul, Nat.reduceEqDiff, Nat.reduceLeDiff, Nat.reduceBEq, reduceCtorEq, A.spec_l05Sign, ix, e1, sl, cS, cG, hr, e2, h20', sl2, Sg.v, bad]
  have hw' := hw
  simp only [Bool.not_eq_true, Bool.or_eq_false_iff] at hw'
  rw [hw'.1] at cS
  rw [hw'.2] at cG
  unfold sgn
  rw [if_neg hw]
  by_cases hF : inB 48 57 c = true
  · rw [hF] at cF
    rw [if_pos hF]
    have h := sgnNum_loop s hl i (i + 1) (subs s i (i + 1)) (s.length - i) i 0 (by omega) (by decide) (by decide)
    by_cases hn : nf (s.drop i) 0 ≤ 999999999
    · have hk := nk_pre (s.drop i) 0 (by decide) hn
      rw [if_pos hn]
      rw [hk] at h
      simp only [go_sem, Nat.reduceAdd, Nat.reduceSub, Nat.reduceMul, Nat.reduceEqDiff, Nat.reduceLeDiff, Nat.reduceBEq, reduceCtorEq, A.spec_l05Sign, ix, e1, sl, cS, cG, cF, h, hn, Sg.v]
    · rw [if_neg hn]
      simp only [go_sem, Nat.reduceAdd, Nat.reduceSub, Nat.reduceMul, Nat.reduceEqDiff, Nat.reduceLeDiff, Nat.reduceBEq, reduceCtorEq, A.spec_l05Sign, ix, e1, sl, cS, cG, cF, h, hn, Sg.v, bad]
  have hF' : inB 48 57 c = false := by simpa using hF
  rw [hF'] at cF
  rw [if_neg hF]
  by_cases h39 : isB 39 c = true
  · have d39 : decide ((c.toNat : Int) = 39) = true := h39
    rw [if_pos h39]
    have hq := l05Quoted_ok s hl i hi
    unfold quotedV at hq
    cases hk : quoted (s.drop (i + 1)) with
    | none =>
      rw [hk] at hq
      simp only [go_sem, Nat.reduceAdd, Nat.reduceSub, Nat.reduceMul, Nat.reduceEqDiff, Nat.reduceLeDiff, Nat.reduceBEq, reduceCtorEq, A.spec_l05Sign, ix, e1, sl, cS, cG, cF, d39, hq, Sg.v, bad]
    | some k =>
      rw [hk] at hq
      have hlt := (quoted_lt hk).1
      rw [List.length_drop] at hlt
      have e2 : w64 (((i + 1 + k + 1 : Nat) : Int) - 1) = ((i + 1 + k : Nat) : Int) := by rw [w64_id] <;> omega
      have sl2 := ssl_sub s (i + 1) (i + 1 + k) (by omega) (by omega)
      have h0 : (0 : Int) < ((i + 1 + k + 1 : Nat) : Int) := by omega
      simp only [go_sem, Nat.reduceAdd, Nat.reduceSub, Nat.reduceMul, Nat.reduceEqDiff, Nat.reduceLeDiff, Nat.reduceBEq, reduceCtorEq, A.spec_l05Sign, ix, e1, sl, cS, cG, cF, d39, hq, e2, sl2, h0, Sg.v]
  have d39 : decide ((c.toNat : Int) = 39) = false := by simpa [isB] using h39
  rw [if_neg h39]
  by_cases hA : (isB 33 c || isB 59 c) = true
  · rw [if_pos hA]
    cases h33 : decide ((c.toNat : Int) = 33) with
    | true => simp only [go_sem, Nat.reduceAdd, Nat.reduceSub, Nat.reduceMul, Nat.reduceEqDiff, Nat.reduceLeDiff, Nat.reduceBEq, reduceCtorEq, A.spec_l05Sign, ix, e1, sl, cS, cG, cF, d39, h33, Sg.v]
    | false =>
      have h59 : decide ((c.toNat : Int) = 59) = true := by unfold isB at hA; rw [h33] at hA; exact hA
      simp only [go_sem, Nat.reduceAdd, Nat.reduceSub, Nat.reduceMul, Nat.reduceEqDiff, Nat.reduceLeDiff, Nat.reduceBEq, reduceCtorEq, A.spec_l05Sign, ix, e1, sl, cS, cG, cF, d39, h33, h59, Sg.v]
  have hA' := hA
  unfold isB at hA'
  simp only [Bool.not_eq_true, Bool.or_eq_false_iff] at hA'
  have h33 := hA'.1
  have h59 := hA'.2
  rw [if_neg hA]
  by_cases hM : (isB 40 c || isB 41 c || isB 91 c || isB 93 c || isB 44 c || isB 124 c) = true
  · rw [if_pos hM]
    unfold isB at hM
    cases h40 : decide ((c.toNat : Int) = 40) with
    | true => simp only [go_sem, Nat.reduceAdd, Nat.reduceSub, Nat.reduceMul, Nat.reduceEqDiff, Nat.reduceLeDiff, Nat.reduceBEq, reduceCtorEq, A.spec_l05Sign, ix, e1, sl, cS, cG, cF, d39, h33, h59, h40, Sg.v]
    | false =>
    cases h41 : decide ((c.toNat : Int) = 41) with
    | true => simp only [go_sem, Nat.reduceAdd, Nat.reduceSub, Nat.reduceMul, Nat.reduceEqDiff, Nat.reduceLeDiff, Nat.reduceBEq, reduceCtorEq, A.spec_l05Sign, ix, e1, sl, cS, cG, cF, d39, h33, h59, h40, h41, Sg.v]
    | false =>
    cases h91 : decide ((c.toNat : Int) = 91) with
    | true => simp only [go_sem, Nat.reduceAdd, Nat.reduceSub, Nat.reduceMul, Nat.reduceEqDiff, Nat.reduceLeDiff, Nat.reduceBEq, reduceCtorEq, A.spec_l05Sign, ix, e1, sl, cS, cG, cF, d39, h33, h59, h40, h41, h91, Sg.v]
    | false =>
    cases h93 : decide ((c.toNat : Int) = 93) with
    | true => simp only [go_sem, Nat.reduceAdd, Nat.reduceSub, Nat.reduceMul, Nat.reduceEqDiff, Nat.reduceLeDiff, Nat.reduceBEq, reduceCtorEq, A.spec_l05Sign, ix, e1, sl, cS, cG, cF, d39, h33, h59, h40, h41, h91, h93, Sg.v]
    | false =>
    cases h44 : decide ((c.toNat : Int) = 44) with
    | true => simp only [go_sem, Nat.reduceAdd, Nat.reduceSub, Nat.reduceMul, Nat.reduceEqDiff, Nat.reduceLeDiff, Nat.reduceBEq, reduceCtorEq, A.spec_l05Sign, ix, e1, sl, cS, cG, cF, d39, h33, h59, h40, h41, h91, h93, h44, Sg.v]
    | false =>
      have h124 : decide ((c.toNat : Int) = 124) = true := by rw [h40, h41, h91, h93, h44] at hM; exact hM
      simp only [go_sem, Nat.reduceAdd, Nat.reduceSub, Nat.reduceMul, Nat.reduceEqDiff, Nat.reduceLeDiff, Nat.reduceBEq, reduceCtorEq, A.spec_l05Sign, ix, e1, sl, cS, cG, cF, d39, h33, h59, h40, h41, h91, h93, h44, h124, Sg.v]
  have hM' := hM
  unfold isB at hM'
  simp only [Bool.not_eq_true, Bool.or_eq_false_iff] at hM'
  obtain ⟨⟨⟨⟨⟨h40, h41⟩, h91⟩, h93⟩, h44⟩, h124⟩ := hM'
  rw [if_neg hM]
  cases hE : endB s i c with
  | true =>
    rw [hE] at cE
    rw [if_pos rfl]
    simp only [go_sem, Nat.reduceAdd, Nat.reduceSub, Nat.reduceMul, Nat.reduceEqDiff, Nat.reduceLeDiff, Nat.reduceBEq, reduceCtorEq, A.spec_l05Sign, ix, e1, sl, cS, cG, cF, d39, h33, h59, h40, h41, h91, h93, h44, h124, cE, Sg.v]
  | false =>
  rw [hE] at cE
  rw [if_neg (by decide)]
  cases hY : symB c with
  | false =>
    rw [hY] at cY
    rw [if_neg (by decide)]
    simp only [go_sem, Nat.reduceAdd, Nat.reduceSub, Nat.reduceMul, Nat.reduceEqDiff, Nat.reduceLeDiff, Nat.reduceBEq, reduceCtorEq, A.spec_l05Sign, ix, e1, sl, cS, cG, cF, d39, h33, h59, h40, h41, h91, h93, h44, h124, cE, cY, Sg.v, bad]
  | true =>
  rw [hY] at cY
  rw [if_pos rfl]
  have h := sgnSym_loop s hl i (i + 1) (subs s i (i + 1)) (s.length - i) i (by omega)
  have hp := pre_lt (p := symB) (s := s) (i := i) (by omega)
  have e2 : w64 (((i + pre symB (s.drop i) : Nat) : Int) - i) = (pre symB (s.drop i) : Nat) := by rw [w64_id] <;> omega
  have sl2 := ssl_sub s i (i + pre symB (s.drop i)) (by omega) hp
  by_cases h20 : pre symB (s.drop i) ≤ 20
  · have h20' : ((pre symB (s.drop i) : Nat) : Int) ≤ 20 := by omega
    rw [if_pos h20]
    simp only [go_sem, Nat.reduceAdd, Nat.reduceSub, Nat.reduceMul, Nat.reduceEqDiff, Nat.reduceLeDiff, Nat.reduceBEq, reduceCtorEq, A.spec_l05Sign, ix, e1, sl, cS, cG, cF, d39, h33, h59, h40, h41, h91, h93, h44, h124, cE, cY, h, e2, h20', sl2, Sg.v]
  · have h20' : ¬ ((pre symB (s.drop i) : Nat) : Int) ≤ 20 := by omega
    rw [if_neg h20]
    simp only [go_sem, Nat.reduceAdd, Nat.reduceSub, Nat.reduceMul, Nat.reduceEqDiff, Nat.reduceLeDiff, Nat.reduceBEq, reduceCtorEq, A.spec_l05Sign, ix, e1, sl, cS, cG, cF, d39, h33, h59, h40, h41, h91, h93, h44, h124, cE, cY, h, e2, h20', sl2, Sg.v, bad]
end Go.Vm

set_option autoImplicit false
set_option maxHeartbeats 8000000
set_option maxRecDepth 100000
set_option linter.unusedSimpArgs false
set_option linter.unusedVariables false
namespace Go.Vm
open Go.Lib (indexByte)
/-! ### the program's signs -/
theorem implNum_loop (s : Str) (hl : s.length ≤ 2^61) (i : Nat) (e : Nat) (he : e ≤ s.length) (m : Nat) : ∀ (n : Nat) (a : Int), n + m = e → n + pre (inB 48 57) (s.drop n) = e → 0 ≤ a → a ≤ 9999999999 →
    lw progA L.impl_nextSign_0 ⟨[(0, S s), (1, I i), (4, .p (100000, 0) 0 0), (7, .p (100000, 1) 0 0), (8, I e), (9, I a), (10, I n)], [((100000, 0), 5, [.a [I 0, S [], I 0, I 0, B false]]), ((100000, 1), 5, [.a [I 0, S [], I 0, I i, B false]])]⟩ = some (.exit 1, ⟨[(0, S s), (1, I i), (4, .p (100000, 0) 0 0), (7, .p (100000, 1) 0 0), (8, I e), (9, I (nf (s.drop n) a))], [((100000, 0), 5, [.a [I 0, S [], I 0, I 0, B false]]), ((100000, 1), 5, [.a [I 0, S [], I 0, I i, B false]])]⟩) := by
  induction m with
  | zero =>
    intro n a hn hp h0 h1
    have h : ¬ (n : Int) < e := by omega
    have hz : pre (inB 48 57) (s.drop n) = 0 := by omega
    have hnf : nf (s.drop n) a = a := by
      cases hd : s.drop n with
      | nil => rfl
      | cons c r =>
        rw [hd, pre] at hz
        have hc : inB 48 57 c = false := by
          cases hc : inB 48 57 c with
          | false => rfl
          | true => rw [hc, if_pos rfl] at hz; omega
        rw [nf, hc, Bool.false_and, if_neg (by decide)]
    rw [hnf, lw_eq]
    simp only [go_sem, Nat.reduceAdd, Nat.reduceSub, Nat.reduceMul, Nat.reduceEqDiff, Nat.reduceLeDiff, Nat.reduceBEq, reduceCtorEq, LB.impl_nextSign_0, h]
  | succ m ih =>
    intro n a hn hp h0 h1
    have h : (n : Int) < e := by omega
    obtain ⟨c, hc⟩ := get_some' (l := s) (i := n) (by omega)
    have ix := ix_S (l := s) (i := (n : Int)) (c := c) (by omega) (by simpa using hc)
    have e1 : w64 ((n : Int) + 1) = ((n + 1 : Nat) : Int) := by rw [w64_id] <;> omega
    rw [drop_cons' hc, pre] at hp
    have hw : inB 48 57 c = true := by
      cases hw : inB 48 57 c with
      | true => rfl
      | false => rw [hw, if_neg (by decide)] at hp; omega
    rw [hw, if_pos rfl] at hp
    rw [drop_cons' hc, lw_eq, nf, hw]
    simp only [inB, Bool.and_eq_true, decide_eq_true_eq] at hw
    by_cases ha : a ≤ 999999999
    · have da : decide (a ≤ 999999999) = true := decide_eq_true ha
      have i1 := ih (n + 1) (10 * a + c.toNat - 48) (by omega) (by omega) (by omega) (by omega)
      have e3 : w64 (10 * a) = 10 * a := by rw [w64_id] <;> omega
      have e4 : IntKind.u8.wrap ((c.toNat : Int) - 48) = c.toNat - 48 := by
        have : ((c.toNat : Int) - 48) % 256 = c.toNat - 48 := by omega
        exact this
      have e5 : w64 ((c.toNat : Int) - 48) = c.toNat - 48 := by rw [w64_id] <;> omega
      have e6 : w64 (10 * a + ((c.toNat : Int) - 48)) = 10 * a + c.toNat - 48 := by rw [w64_id] <;> omega
      have u8s : binV .sub (U8 c.toNat) (U8 48) = some (U8 (IntKind.u8.wrap ((c.toNat : Int) - 48))) := rfl
      rw [da, Bool.and_self, if_pos rfl]
      simp only [go_sem, Nat.reduceAdd, Nat.reduceSub, Nat.reduceMul, Nat.reduceEqDiff, Nat.reduceLeDiff, Nat.reduceBEq, reduceCtorEq, LB.impl_nextSign_0, h, ix, e1, da, ha, u8s, e3, e4, e5, e6]
      exact i1
    · have da : decide (a ≤ 999999999) = false := decide_eq_false ha
      rw [da, Bool.and_false, if_neg (by decide)]
      simp only [go_sem, Nat.reduceAdd, Nat.reduceSub, Nat.reduceMul, Nat.reduceEqDiff, Nat.reduceLeDiff, Nat.reduceBEq, reduceCtorEq, LB.impl_nextSign_0, h, ix, e1, da, ha]
theorem nextSign1_ok (c : UInt8) : cr progA F.impl_nextSign_1 [U8 c.toNat] = some (B (okByte c)) := by
  have hc := UInt8.toNat_lt c
  have hw : w64 (c.toNat : Int) = c.toNat := by rw [w64_id] <;> omega
  have hin := within_ok c.toNat 33 126
  rw [cr_fn pA_impl_nextSign_1 rfl]
  rcases okByte_cases c with ⟨h0, h1, h2, h3, h4⟩ | ⟨h0, h1 | ⟨h1, h2 | ⟨h2, h3 | ⟨h3, h4⟩⟩⟩⟩
  · rw [decide_eq_true (show (33 : Int) ≤ c.toNat ∧ (c.toNat : Int) ≤ 126 by omega)] at hin
    simp only [go_sem, Nat.reduceAdd, Nat.reduceSub, Nat.reduceMul, Nat.reduceEqDiff, Nat.reduceLeDiff, Nat.reduceBEq, reduceCtorEq, A.impl_nextSign_1, hw, hin, h3, h4, h0]
  · rw [decide_eq_false (show ¬ ((33 : Int) ≤ c.toNat ∧ (c.toNat : Int) ≤ 126) by omega)] at hin
    simp only [go_sem, Nat.reduceAdd, Nat.reduceSub, Nat.reduceMul, Nat.reduceEqDiff, Nat.reduceLeDiff, Nat.reduceBEq, reduceCtorEq, A.impl_nextSign_1, hw, hin, h0]
  · rw [decide_eq_false (show ¬ ((33 : Int) ≤ c.toNat ∧ (c.toNat : Int) ≤ 126) by omega)] at hin
    simp only [go_sem, Nat.reduceAdd, Nat.reduceSub, Nat.reduceMul, Nat.reduceEqDiff, Nat.reduceLeDiff, Nat.reduceBEq, reduceCtorEq, A.impl_nextSign_1, hw, hin, h0]
  · rw [decide_eq_true (show (33 : Int) ≤ c.toNat ∧ (c.toNat : Int) ≤ 126 by omega)] at hin
    simp only [go_sem, Nat.reduceAdd, Nat.reduceSub, Nat.reduceMul, Nat.reduceEqDiff, Nat.reduceLeDiff, Nat.reduceBEq, reduceCtorEq, A.impl_nextSign_1, hw, hin, h3, h0]
  · rw [decide_eq_true (show (33 : Int) ≤ c.toNat ∧ (c.toNat : Int) ≤ 126 by omega)] at hin
    simp only [go_sem, Nat.reduceAdd, Nat.reduceSub, Nat.reduceMul, Nat.reduceEqDiff, Nat.reduceLeDiff, Nat.reduceBEq, reduceCtorEq, A.impl_nextSign_1, hw, hin, h3, h4, h0]
theorem nextSign_ok (s : Str) (hl : s.length ≤ 2^61) (i : Nat) (c : UInt8) (hc : s[i]? = some c) :
    cr progA F.impl_nextSign [S s, I i] = some (.t [(sgn s i c).1.v, I (sgn s i c).2]) := by
  have hi : i < s.length := (List.getElem?_eq_some_iff.1 hc).1
  have ix := ix_S (l := s) (i := (i : Int)) (c := c) (by omega) (by simpa using hc)
  have e1 : w64 ((i : Int) + 1) = ((i + 1 : Nat) : Int) := by rw [w64_id] <;> omega
  have sl := ssl_sub s i (i + 1) (by omega) (by omega)
  have ln : ((subs s i (i + 1)).length : Int) = 1 := by rw [subs_len (by omega)]; rfl
  have cS := impl_lower_ok c
  have cG := impl_upper_ok c
  have cF := impl_figure_ok c
  have cY := impl_SymbolByte_ok c
  have cE := endsHere_ok s hl i c hc
  have cX := cr_ixb8 [40, 41, 91, 93, 44, 124] c
  have cM := marks_ixb c
  rw [sgn_eq hc, cr_fn pA_impl_nextSign rfl]
  unfold sgn2
  cases hE : endB s i c with
  | true =>
    rw [hE] at cE
    rw [if_pos rfl]
    simp only [go_sem, Nat.reduceAdd, Nat.reduceSub, Nat.reduceMul, Nat.reduceEqDiff, Nat.reduceLeDiff, Nat.reduceBEq, reduceCtorEq, A.impl_nextSign, ix, e1, cE, Int.reduceEq, Int.reduceLT, Int.reduceNe, decide_true, decide_false, Sg.v]
  | false =>
  rw [hE] at cE
  rw [if_neg (by decide)]
  by_cases hw : (inB 97 122 c || greatB c) = true
  · have hr := run_ok wordB F.impl_wordByte impl_wordByte_ok s hl i (by omega)
    have hp := pre_lt (p := wordB) (s := s) (i := i) (by omega)
    have sl2 := ssl_sub s i (i + pre wordB (s.drop i)) (by omega) hp
    have ln2 := subs_len (s := s) (i := i) (n := pre wordB (s.drop i)) hp
    rw [if_pos hw]
    by_cases h20 : pre wordB (s.drop i) ≤ 20
    · have h20' : ¬ (20 : Int) < ((pre wordB (s.drop i) : Nat) : Int) := by omega
      rw [if_pos h20]
      cases hS : inB 97 122 c with
      | true =>
        rw [hS] at cS
        rw [lower_great hS]
        simp only [go_sem, Nat.reduceAdd, Nat.reduceSub, Nat.reduceMul, Nat.reduceEqDiff, Nat.reduceLeDiff, Nat.reduceBEq, reduceCtorEq, A.impl_nextSign, ix, e1, cE, cS, hr, sl2, ln2, h20', Int.reduceEq, Int.reduceLT, Int.reduceNe, decide_true, decide_false, Sg.v]
      | false =>
        rw [hS] at cS
        rw [hS, Bool.false_or] at hw
        rw [hw]
        unfold greatB isB at hw
        cases hU : inB 65 90 c with
        | true => rw [hU] at cG; simp only [go_sem, Nat.reduceAdd, Nat.reduceSub, Nat.reduceMul, Nat.reduceEqDiff, Nat.reduceLeDiff, Nat.reduceBEq, reduceCtorEq, A.impl_nextSign, ix, e1, cE, cS, cG, hr, sl2, ln2, h20', Int.reduceEq, Int.reduceLT, Int.reduceNe, decide_true, decide_false, Sg.v]
        | false =>
          rw [hU] at cG
          rw [hU, Bool.false_or] at hw
          simp only [go_sem, Nat.reduceAdd, Nat.reduceSub, Nat.reduceMul, Nat.reduceEqDiff, Nat.reduceLeDiff, Nat.reduceBEq, reduceCtorEq, A.impl_nextSign, ix, e1, cE, cS, cG, hw, hr, sl2, ln2, h20', Int.reduceEq, Int.reduceLT, Int.reduceNe, decide_true, decide_false, Sg.v]
    · have h20' : (20 : Int) < ((pre wordB (s.drop i) : Nat) : Int) := by omega
      rw [if_neg h20]
      cases hS : inB 97 122 c with
      | true =>
        rw [hS] at cS
        simp only [go_sem, Nat.reduceAdd, Nat.reduceSub, Nat.reduceMul, Nat.reduceEqDiff, Nat.reduceLeDiff, Nat.reduceBEq, reduceCtorEq, A.impl_nextSign, ix, e1, cE, cS, hr, sl, sl2, ln2, h20', Int.reduceEq, Int.reduceLT, Int.reduceNe, decide_true, decide_false, Sg.v, bad]
      | false =>
        rw [hS] at cS
        rw [hS, Bool.false_or] at hw
        unfold greatB isB at hw
        cases hU : inB 65 90 c with
        | true => rw [hU] at cG; simp only [go_sem, Nat.reduceAdd, Nat.reduceSub, Nat.reduceMul, Nat.reduceEqDiff, Nat.reduceLeDiff, Nat.reduceBEq, reduceCtorEq, A.impl_nextSign, ix, e1, cE, cS, cG, hr, sl, sl2, ln2, h20', Int.reduceEq, Int.reduceLT, Int.reduceNe, decide_true, decide_false, Sg.v, bad]
        | false =>
          rw [hU] at cG
          rw [hU, Bool.false_or] at hw
          simp only [go_sem, Nat.reduceAdd, Nat.reduceSub, Nat.reduceMul, Nat.reduceEqDiff, Nat.reduceLeDiff, Nat.reduceBEq, reduceCtorEq, A.impl_nextSign, ix, e1, cE, cS, cG, hw, hr, sl, sl2, ln2, h20', Int.reduceEq, Int.reduceLT, Int.reduceNe, decide_true, decide_false, Sg.v, bad]
  have hw' := hw
  unfold greatB isB at hw'
  simp only [Bool.not_eq_true, Bool.or_eq_false_iff] at hw'
  obtain ⟨hS, hU, h95⟩ := hw'
  rw [hS] at cS
  rw [hU] at cG
  rw [if_neg hw]
  by_cases hF : inB 48 57 c = true
  · rw [hF] at cF
    rw [if_pos hF]
    have hr := run_ok (inB 48 57) F.impl_figure impl_figure_ok s hl i (by omega)
    have hp := pre_lt (p := inB 48 57) (s := s) (i := i) (by omega)
    have sl2 := ssl_sub s i (i + pre (inB 48 57) (s.drop i)) (by omega) hp
    have h := implNum_loop s hl i (i + pre (inB 48 57) (s.drop i)) hp (pre (inB 48 57) (s.drop i)) i 0 (by omega) rfl (by decide) (by decide)
    by_cases hn : nf (s.drop i) 0 ≤ 999999999
    · rw [if_pos hn]
      simp only [go_sem, Nat.reduceAdd, Nat.reduceSub, Nat.reduceMul, Nat.reduceEqDiff, Nat.reduceLeDiff, Nat.reduceBEq, reduceCtorEq, A.impl_nextSign, ix, e1, cE, cS, cG, h95, cF, hr, h, hn, Int.reduceEq, Int.reduceLT, Int.reduceNe, decide_true, decide_false, Sg.v]
    · rw [if_neg hn]
      simp only [go_sem, Nat.reduceAdd, Nat.reduceSub, Nat.reduceMul, Nat.reduceEqDiff, Nat.reduceLeDiff, Nat.reduceBEq, reduceCtorEq, A.impl_nextSign, ix, e1, sl, cE, cS, cG, h95, cF, hr, h, hn, sl2, Int.reduceEq, Int.reduceLT, Int.reduceNe, decide_true, decide_false, Sg.v, bad]
  have hF' : inB 48 57 c = false := by simpa using hF
  rw [hF'] at cF
  rw [if_neg hF]
  cases hY : symB c with
  | true =>
    rw [hY] at cY
    rw [if_pos rfl]
    have hr := run_ok symB F.impl_SymbolByte impl_SymbolByte_ok s hl i (by omega)
    have hp := pre_lt (p := symB) (s := s) (i := i) (by omega)
    have sl2 := ssl_sub s i (i + pre symB (s.drop i)) (by omega) hp
    have ln2 := subs_len (s := s) (i := i) (n := pre symB (s.drop i)) hp
    by_cases h20 : pre symB (s.drop i) ≤ 20
    · have h20' : ¬ (20 : Int) < ((pre symB (s.drop i) : Nat) : Int) := by omega
      rw [if_pos h20]
      simp only [go_sem, Nat.reduceAdd, Nat.reduceSub, Nat.reduceMul, Nat.reduceEqDiff, Nat.reduceLeDiff, Nat.reduceBEq, reduceCtorEq, A.impl_nextSign, ix, e1, cE, cS, cG, h95, cF, cY, hr, sl2, ln2, h20', Int.reduceEq, Int.reduceLT, Int.reduceNe, decide_true, decide_false, Sg.v]
    · have h20' : (20 : Int) < ((pre symB (s.drop i) : Nat) : Int) := by omega
      rw [if_neg h20]
      simp only [go_sem, Nat.reduceAdd, Nat.reduceSub, Nat.reduceMul, Nat.reduceEqDiff, Nat.reduceLeDiff, Nat.reduceBEq, reduceCtorEq, A.impl_nextSign, ix, e1, cE, cS, cG, h95, cF, cY, hr, sl, sl2, ln2, h20', Int.reduceEq, Int.reduceLT, Int.reduceNe, decide_true, decide_false, Sg.v, bad]
  | false =>
  rw [hY] at cY
  rw [if_neg (by decide)]
  by_cases hA : (isB 33 c || isB 59 c) = true
  · rw [if_pos hA]
    cases h33 : decide ((c.toNat : Int) = 33) with
    | true => simp only [go_sem, Nat.reduceAdd, Nat.reduceSub, Nat.reduceMul, Nat.reduceEqDiff, Nat.reduceLeDiff, Nat.reduceBEq, reduceCtorEq, A.impl_nextSign, ix, e1, cE, cS, cG, h95, cF, cY, h33, sl, ln, Int.reduceEq, Int.reduceLT, Int.reduceNe, decide_true, decide_false, Sg.v]
    | false =>
      have h59 : decide ((c.toNat : Int) = 59) = true := by unfold isB at hA; rw [h33] at hA; exact hA
      simp only [go_sem, Nat.reduceAdd, Nat.reduceSub, Nat.reduceMul, Nat.reduceEqDiff, Nat.reduceLeDiff, Nat.reduceBEq, reduceCtorEq, A.impl_nextSign, ix, e1, cE, cS, cG, h95, cF, cY, h33, h59, sl, ln, Int.reduceEq, Int.reduceLT, Int.reduceNe, decide_true, decide_false, Sg.v]
  have hA' := hA
  unfold isB at hA'
  simp only [Bool.not_eq_true, Bool.or_eq_false_iff] at hA'
  have h33 := hA'.1
  have h59 := hA'.2
  rw [if_neg hA]
  cases hM : (isB 40 c || isB 41 c || isB 91 c || isB 93 c || isB 44 c || isB 124 c) with
  | true =>
    rw [hM] at cM
    rw [if_pos rfl]
    simp only [go_sem, Nat.reduceAdd, Nat.reduceSub, Nat.reduceMul, Nat.reduceEqDiff, Nat.reduceLeDiff, Nat.reduceBEq, reduceCtorEq, A.impl_nextSign, ix, e1, cE, cS, cG, h95, cF, cY, h33, h59, cX, cM, sl, ln, Int.reduceEq, Int.reduceLT, Int.reduceNe, decide_true, decide_false, Sg.v]
  | false =>
  rw [hM] at cM
  rw [if_neg (by decide)]
  cases h39 : isB 39 c with
  | false =>
    unfold isB at h39
    rw [if_neg (by decide)]
    simp only [go_sem, Nat.reduceAdd, Nat.reduceSub, Nat.reduceMul, Nat.reduceEqDiff, Nat.reduceLeDiff, Nat.reduceBEq, reduceCtorEq, A.impl_nextSign, ix, e1, cE, cS, cG, h95, cF, cY, h33, h59, cX, cM, h39, sl, ln, Int.reduceEq, Int.reduceLT, Int.reduceNe, decide_true, decide_false, Sg.v, bad]
  | true =>
  unfold isB at h39
  rw [if_pos rfl]
  have hr := run_ok okByte F.impl_nextSign_1 nextSign1_ok s hl (i + 1) (by omega)
  have hp := pre_lt (p := okByte) (s := s) (i := i + 1) (by omega)
  have hin := within_ok (pre okByte (s.drop (i + 1)) : Nat) 1 20
  have e2 : w64 (((i + 1 + pre okByte (s.drop (i + 1)) : Nat) : Int) - i) = ((1 + pre okByte (s.drop (i + 1)) : Nat) : Int) := by rw [w64_id] <;> omega
  have e3 : w64 (((1 + pre okByte (s.drop (i + 1)) : Nat) : Int) - 1) = ((pre okByte (s.drop (i + 1)) : Nat) : Int) := by rw [w64_id] <;> omega
  have e4 : w64 (((i + 1 + pre okByte (s.drop (i + 1)) : Nat) : Int) + 1) = ((i + 1 + pre okByte (s.drop (i + 1)) + 1 : Nat) : Int) := by rw [w64_id] <;> omega
  have sl2 := ssl_sub s (i + 1) (i + 1 + pre okByte (s.drop (i + 1))) (by omega) hp
  rw [quoted_pre]
  have hget : (s.drop (i + 1))[pre okByte (s.drop (i + 1))]? = s[i + 1 + pre okByte (s.drop (i + 1))]? := by rw [List.getElem?_drop]
  rw [hget]
  generalize hm : pre okByte (s.drop (i + 1)) = m at *
  by_cases hlt : i + 1 + m < s.length
  · have hlt' : ((i + 1 + m : Nat) : Int) < s.length := by omega
    obtain ⟨d, hd⟩ := get_some' (l := s) (i := i + 1 + m) hlt
    have ix2 := ix_S (l := s) (i := ((i + 1 + m : Nat) : Int)) (c := d) (by omega) (by rw [Int.toNat_natCast]; exact hd)
    rw [hd]
    cases hd39 : isB 39 d with
    | true =>
      have hdd := isB_eq (n := 39) hd39
      unfold isB at hd39
      have hsm : (some d = some (39 : UInt8)) = True := eq_true (by rw [hdd]; rfl)
      simp only [hsm, true_and]
      by_cases hk : 1 ≤ m ∧ m ≤ 20
      · rw [decide_eq_true (show (1 : Int) ≤ (m : Int) ∧ (m : Int) ≤ 20 by omega)] at hin
        rw [if_pos hk]
        simp only [go_sem, Nat.reduceAdd, Nat.reduceSub, Nat.reduceMul, Nat.reduceEqDiff, Nat.reduceLeDiff, Nat.reduceBEq, reduceCtorEq, A.impl_nextSign, ix, e1, cE, cS, cG, h95, cF, cY, h33, h59, cX, cM, h39, hr, hlt', ix2, hd39, e2, e3, hin, sl2, e4, Int.reduceEq, Int.reduceLT, Int.reduceNe, decide_true, decide_false, Sg.v]
      · rw [decide_eq_false (show ¬ ((1 : Int) ≤ (m : Int) ∧ (m : Int) ≤ 20) by omega)] at hin
        rw [if_neg hk]
        simp only [go_sem, Nat.reduceAdd, Nat.reduceSub, Nat.reduceMul, Nat.reduceEqDiff, Nat.reduceLeDiff, Nat.reduceBEq, reduceCtorEq, A.impl_nextSign, ix, e1, cE, cS, cG, h95, cF, cY, h33, h59, cX, cM, h39, hr, hlt', ix2, hd39, e2, e3, hin, sl, ln, Int.reduceEq, Int.reduceLT, Int.reduceNe, decide_true, decide_false, Sg.v, bad]
    | false =>
      have hne : ¬ (some d = some (39 : UInt8)) := by
        intro e
        cases e
        cases hd39
      unfold isB at hd39
      rw [if_neg fun h => hne h.1]
      simp only [go_sem, Nat.reduceAdd, Nat.reduceSub, Nat.reduceMul, Nat.reduceEqDiff, Nat.reduceLeDiff, Nat.reduceBEq, reduceCtorEq, A.impl_nextSign, ix, e1, cE, cS, cG, h95, cF, cY, h33, h59, cX, cM, h39, hr, hlt', ix2, hd39, sl, ln, Int.reduceEq, Int.reduceLT, Int.reduceNe, decide_true, decide_false, Sg.v, bad]
  · have hlt' : ¬ ((i + 1 + m : Nat) : Int) < s.length := by omega
    have hno : s[i + 1 + m]? = none := List.getElem?_eq_none (by omega)
    rw [hno, if_neg (by rintro ⟨h, -⟩; cases h)]
    simp only [go_sem, Nat.reduceAdd, Nat.reduceSub, Nat.reduceMul, Nat.reduceEqDiff, Nat.reduceLeDiff, Nat.reduceBEq, reduceCtorEq, A.impl_nextSign, ix, e1, cE, cS, cG, h95, cF, cY, h33, h59, cX, cM, h39, hr, hlt', sl, ln, Int.reduceEq, Int.reduceLT, Int.reduceNe, decide_true, decide_false, Sg.v, bad]
end Go.Vm

set_option autoImplicit false
set_option maxHeartbeats 8000000
set_option maxRecDepth 100000
set_option linter.unusedSimpArgs false
set_option linter.unusedVariables false
namespace Go.Vm
/-! ### all signs of a text -/
section
variable {l : List Sg} {τ : Bool}
@[go_sem] theorem clEs_Sg : clEs (l.map Sg.v) = true := clEs_map (fun _ => rfl) l
@[go_sem] theorem killL_Sg (d : Nat) : killL d (l.map Sg.v) = l.map Sg.v := killL_map (fun _ => rfl) d l
@[go_sem] theorem convL_Sg : convL τ (l.map Sg.v) = l.map Sg.v := convL_map (fun _ => rfl) l
@[go_sem] theorem noTagL_Sg : noTagL (l.map Sg.v) = true := noTagL_map (fun _ => rfl) l
@[go_sem] theorem mapE_Sg (m : Nat) (T : Mem) : mapT (closeE m) T (l.map Sg.v) = (l.map Sg.v, T) := mapE_cl m T _ clEs_Sg
@[go_sem] theorem repEs_Sg (k : Key) (ob : Ob) : repEs k ob (l.map Sg.v) = none := repEs_closed k ob _ clEs_Sg
@[go_sem] theorem snocSg {a n p : Int} {t : Str} {b : Bool} : l.map Sg.v ++ [.a [I a, S t, I n, I p, B b]] = (l ++ [Sg.mk a t n p b]).map Sg.v := by simp [Sg.v]
end
theorem spec_com_loop (s : Str) (hl : s.length ≤ 3000) (acc : List Sg) (m : Nat) : ∀ i, i + m = s.length →
    lw progA L.spec_SignsOf_0 ⟨[(0, S s), (4, .s (100000, 0) 0 acc.length), (5, I i)], [((100000, 0), 5, acc.map Sg.v)]⟩ =
      some (.exit 2, ⟨[(0, S s), (4, .s (100000, 0) 0 acc.length), (5, I ((i + pre (fun d => !isB 10 d) (s.drop i) : Nat) : Int))], [((100000, 0), 5, acc.map Sg.v)]⟩) := by
  induction m with
  | zero =>
    intro i hi
    rw [List.drop_eq_nil_of_le (by omega), lw_eq]
    have h : ¬ (i : Int) < s.length := by omega
    simp only [go_sem, Nat.reduceAdd, Nat.reduceSub, Nat.reduceMul, Nat.reduceEqDiff, Nat.reduceLeDiff, Nat.reduceBEq, reduceCtorEq, LB.spec_SignsOf_0, h, pre]
  | succ m ih =>
    intro i hi
    have h : (i : Int) < s.length := by omega
    obtain ⟨c, hc⟩ := get_some' (l := s) (i := i) (by omega)
    have ix := ix_S (l := s) (i := (i : Int)) (c := c) (by omega) (by simpa using hc)
    have e1 : w64 ((i : Int) + 1) = ((i + 1 : Nat) : Int) := by rw [w64_id] <;> omega
    rw [drop_cons' hc, lw_eq, pre]
    cases hw : isB 10 c with
    | false =>
      unfold isB at hw
      have i1 := ih (i + 1) (by omega)
      rw [if_pos (by rfl), show i + (pre (fun d => !isB 10 d) (s.drop (i + 1)) + 1) = i + 1 + pre (fun d => !isB 10 d) (s.drop (i + 1)) by omega]
      simp only [go_sem, Nat.reduceAdd, Nat.reduceSub, Nat.reduceMul, Nat.reduceEqDiff, Nat.reduceLeDiff, Nat.reduceBEq, reduceCtorEq, LB.spec_SignsOf_0, h, ix, hw, e1]
      exact i1
    | true =>
      unfold isB at hw
      rw [if_neg (by decide)]
      simp only [go_sem, Nat.reduceAdd, Nat.reduceSub, Nat.reduceMul, Nat.reduceEqDiff, Nat.reduceLeDiff, Nat.reduceBEq, reduceCtorEq, LB.spec_SignsOf_0, h, ix, hw, e1, Nat.add_zero]
theorem SignsOf1_ok (c : UInt8) : cr progA F.impl_SignsOf_1 [U8 c.toNat] = some (B (!isB 10 c)) := by
  rw [cr_fn pA_impl_SignsOf_1 rfl]
  unfold isB
  cases h : decide ((c.toNat : Int) = 10) <;> simp only [go_sem, Nat.reduceAdd, Nat.reduceSub, Nat.reduceMul, Nat.reduceEqDiff, Nat.reduceLeDiff, Nat.reduceBEq, reduceCtorEq, A.impl_SignsOf_1, h]
theorem near_ix {s : Str} {e : Nat} (h : e < s.length) (hl : s.length ≤ 3000) : ∃ d, ixV (S s) (I e) = some (U8 (d : UInt8).toNat) ∧ decide ((d.toNat : Int) = 40) = decide (s[e]? = some 40) := by
  obtain ⟨d, hd⟩ := get_some' (l := s) (i := e) h
  refine ⟨d, ix_S (by omega) (by simpa using hd), ?_⟩
  rw [hd]
  refine decide_eq_decide.2 ?_
  have := byte_eq (c := d) (d := 40)
  rw [show (((40 : UInt8).toNat : Nat) : Int) = 40 from rfl] at this
  rw [this]
  simp
theorem spec_SignsOf_loop (s : Str) (hl : s.length ≤ 3000) : ∀ n i (acc : List Sg), s.length ≤ i + n → i ≤ s.length → acc.length ≤ i →
    lw progA L.spec_SignsOf_1 ⟨[(0, S s), (4, .s (100000, 0) 0 acc.length), (5, I i)], [((100000, 0), 5, acc.map Sg.v)]⟩ =
      some (.exit 0, ⟨[(4, .s (100000, 0) 0 (acc.length + (sgs s n i).length))], [((100000, 0), 5, (acc ++ sgs s n i).map Sg.v)]⟩) := by
  intro n
  induction n with
  | zero =>
    intro i acc h1 h2 h3
    have h : ¬ (i : Int) < s.length := by omega
    rw [sgs, List.append_nil, List.length_nil, Nat.add_zero, lw_eq]
    simp only [go_sem, Nat.reduceAdd, Nat.reduceSub, Nat.reduceMul, Nat.reduceEqDiff, Nat.reduceLeDiff, Nat.reduceBEq, reduceCtorEq, LB.spec_SignsOf_1, h]
  | succ n ih =>
    intro i acc h1 h2 h3
    rw [lw_eq]
    by_cases hlt : i < s.length
    · have h : (i : Int) < s.length := by omega
      obtain ⟨c, hc⟩ := get_some' (l := s) (i := i) hlt
      have ix := ix_S (l := s) (i := (i : Int)) (c := c) (by omega) (by simpa using hc)
      have e1 : w64 ((i : Int) + 1) = ((i + 1 : Nat) : Int) := by rw [w64_id] <;> omega
      have bl := l05Blank_ok c
      simp only [sgs, hc]
      cases hb : blankB c with
      | true =>
        rw [hb] at bl
        have i1 := ih (i + 1) acc (by omega) (by omega) (by omega)
        rw [if_pos rfl]
        simp only [go_sem, Nat.reduceAdd, Nat.reduceSub, Nat.reduceMul, Nat.reduceEqDiff, Nat.reduceLeDiff, Nat.reduceBEq, reduceCtorEq, LB.spec_SignsOf_1, h, ix, bl, e1]
        exact i1
      | false =>
      rw [hb] at bl
      rw [if_neg (by decide)]
      cases h37 : isB 37 c with
      | true =>
        have hp := pre_lt (p := fun d => !isB 10 d) (s := s) (i := i) (by omega)
        have hp1 : 1 ≤ pre (fun d => !isB 10 d) (s.drop i) := pre_pos hc (by have := isB_eq (n := 37) h37; subst this; rfl)
        have i1 := ih (i + pre (fun d => !isB 10 d) (s.drop i)) acc (by omega) (by omega) (by omega)
        have cm := spec_com_loop s hl acc (s.length - i) i (by omega)
        unfold isB at h37
        rw [if_pos rfl]
        simp only [go_sem, Nat.reduceAdd, Nat.reduceSub, Nat.reduceMul, Nat.reduceEqDiff, Nat.reduceLeDiff, Nat.reduceBEq, reduceCtorEq, LB.spec_SignsOf_1, h, ix, bl, h37, cm]
        exact i1
      | false =>
      unfold isB at h37
      rw [if_neg (by decide)]
      have sg := l05Sign_ok s (by omega) i c hc
      obtain ⟨g1, g2⟩ := sgn_end s i c hc
      have i1 := ih (sgn s i c).2 (acc ++ [(sgn s i c).1.near' (decide (s[(sgn s i c).2]? = some 40))]) (by omega) g2 (by simp only [List.length_append, List.length_cons, List.length_nil]; omega)
      have l1 : decide ((acc.length + 1) * 48 ≤ lim) = true := decide_eq_true (by rw [lim_val]; omega)
      have l2 : decide (acc.length + 1 ≤ lim) = true := decide_eq_true (by rw [lim_val]; omega)
      have ea : acc.length + ((sgs s n (sgn s i c).2).length + 1) = acc.length + 1 + (sgs s n (sgn s i c).2).length := by omega
      rw [List.append_assoc, List.singleton_append] at i1
      unfold Sg.near' at i1
      rw [Sg.v] at sg
      by_cases hn : (sgn s i c).2 < s.length
      · have hn' : (((sgn s i c).2 : Nat) : Int) < s.length := by omega
        obtain ⟨d, ix2, hd⟩ := near_ix hn hl
        rw [← hd] at i1 ⊢
        simp only [go_sem, Nat.reduceAdd, Nat.reduceSub, Nat.reduceMul, Nat.reduceEqDiff, Nat.reduceLeDiff, Nat.reduceBEq, reduceCtorEq, LB.spec_SignsOf_1, h, ix, bl, h37, sg, hn', ix2, l1, l2, List.length_cons, List.length_nil, ea, Sg.near'] at i1 ⊢
        exact i1
      · have hn' : ¬ (((sgn s i c).2 : Nat) : Int) < s.length := by omega
        have hno : s[(sgn s i c).2]? = none := List.getElem?_eq_none (by omega)
        have hf : decide (s[(sgn s i c).2]? = some 40) = false := by rw [hno]; rfl
        rw [hf] at i1 ⊢
        simp only [go_sem, Nat.reduceAdd, Nat.reduceSub, Nat.reduceMul, Nat.reduceEqDiff, Nat.reduceLeDiff, Nat.reduceBEq, reduceCtorEq, LB.spec_SignsOf_1, h, ix, bl, h37, sg, hn', l1, l2, List.length_cons, List.length_nil, ea, Sg.near'] at i1 ⊢
        exact i1
    · have h : ¬ (i : Int) < s.length := by omega
      rw [sgs_end s _ i (by omega), List.append_nil, List.length_nil, Nat.add_zero]
      simp only [go_sem, Nat.reduceAdd, Nat.reduceSub, Nat.reduceMul, Nat.reduceEqDiff, Nat.reduceLeDiff, Nat.reduceBEq, reduceCtorEq, LB.spec_SignsOf_1, h]
theorem impl_SignsOf_loop (s : Str) (hl : s.length ≤ 3000) : ∀ n i (acc : List Sg), s.length ≤ i + n → i ≤ s.length → acc.length ≤ i →
    lw progA L.impl_SignsOf_0 ⟨[(0, S s), (4, .s (100000, 0) 0 acc.length), (5, I i)], [((100000, 0), 5, acc.map Sg.v)]⟩ =
      some (.exit 0, ⟨[(4, .s (100000, 0) 0 (acc.length + (sgs s n i).length))], [((100000, 0), 5, (acc ++ sgs s n i).map Sg.v)]⟩) := by
  intro n
  induction n with
  | zero =>
    intro i acc h1 h2 h3
    have h : ¬ (i : Int) < s.length := by omega
    rw [sgs, List.append_nil, List.length_nil, Nat.add_zero, lw_eq]
    simp only [go_sem, Nat.reduceAdd, Nat.reduceSub, Nat.reduceMul, Nat.reduceEqDiff, Nat.reduceLeDiff, Nat.reduceBEq, reduceCtorEq, LB.impl_SignsOf_0, h]
  | succ n ih =>
    intro i acc h1 h2 h3
    rw [lw_eq]
    by_cases hlt : i < s.length
    · have h : (i : Int) < s.length := by omega
      obtain ⟨c, hc⟩ := get_some' (l := s) (i := i) hlt
      have ix := ix_S (l := s) (i := (i : Int)) (c := c) (by omega) (by simpa using hc)
      have e1 : w64 ((i : Int) + 1) = ((i + 1 : Nat) : Int) := by rw [w64_id] <;> omega
      simp only [sgs, hc]
      by_cases hb : blankB c = true
      · have i1 := ih (i + 1) acc (by omega) (by omega) (by omega)
        rw [if_pos hb]
        unfold blankB isB at hb
        cases d32 : decide ((c.toNat : Int) = 32) with
        | true => simp only [go_sem, Nat.reduceAdd, Nat.reduceSub, Nat.reduceMul, Nat.reduceEqDiff, Nat.reduceLeDiff, Nat.reduceBEq, reduceCtorEq, LB.impl_SignsOf_0, h, ix, d32, e1]; exact i1
        | false =>
        cases d9 : decide ((c.toNat : Int) = 9) with
        | true => simp only [go_sem, Nat.reduceAdd, Nat.reduceSub, Nat.reduceMul, Nat.reduceEqDiff, Nat.reduceLeDiff, Nat.reduceBEq, reduceCtorEq, LB.impl_SignsOf_0, h, ix, d32, d9, e1]; exact i1
        | false =>
        rw [d32, d9] at hb
        have d10 : decide ((c.toNat : Int) = 10) = true := hb
        simp only [go_sem, Nat.reduceAdd, Nat.reduceSub, Nat.reduceMul, Nat.reduceEqDiff, Nat.reduceLeDiff, Nat.reduceBEq, reduceCtorEq, LB.impl_SignsOf_0, h, ix, d32, d9, d10, e1]; exact i1
      rw [if_neg hb]
      unfold blankB isB at hb
      simp only [Bool.not_eq_true, Bool.or_eq_false_iff] at hb
      obtain ⟨⟨d32, d9⟩, d10⟩ := hb
      cases h37 : isB 37 c with
      | true =>
        have hp := pre_lt (p := fun d => !isB 10 d) (s := s) (i := i) (by omega)
        have hp1 : 1 ≤ pre (fun d => !isB 10 d) (s.drop i) := pre_pos hc (by have := isB_eq (n := 37) h37; subst this; rfl)
        have i1 := ih (i + pre (fun d => !isB 10 d) (s.drop i)) acc (by omega) (by omega) (by omega)
        have cm := run_ok (fun d => !isB 10 d) F.impl_SignsOf_1 SignsOf1_ok s (by omega) i (by omega)
        unfold isB at h37
        rw [if_pos rfl]
        simp only [go_sem, Nat.reduceAdd, Nat.reduceSub, Nat.reduceMul, Nat.reduceEqDiff, Nat.reduceLeDiff, Nat.reduceBEq, reduceCtorEq, LB.impl_SignsOf_0, h, ix, d32, d9, d10, h37, cm]
        exact i1
      | false =>
      unfold isB at h37
      rw [if_neg (by decide)]
      have sg := nextSign_ok s (by omega) i c hc
      obtain ⟨g1, g2⟩ := sgn_end s i c hc
      have i1 := ih (sgn s i c).2 (acc ++ [(sgn s i c).1.near' (decide (s[(sgn s i c).2]? = some 40))]) (by omega) g2 (by simp only [List.length_append, List.length_cons, List.length_nil]; omega)
      have l1 : decide ((acc.length + 1) * 48 ≤ lim) = true := decide_eq_true (by rw [lim_val]; omega)
      have l2 : decide (acc.length + 1 ≤ lim) = true := decide_eq_true (by rw [lim_val]; omega)
      have ea : acc.length + ((sgs s n (sgn s i c).2).length + 1) = acc.length + 1 + (sgs s n (sgn s i c).2).length := by omega
      rw [List.append_assoc, List.singleton_append] at i1
      unfold Sg.near' at i1
      rw [Sg.v] at sg
      by_cases hn : (sgn s i c).2 < s.length
      · have hn' : (((sgn s i c).2 : Nat) : Int) < s.length := by omega
        obtain ⟨d, ix2, hd⟩ := near_ix hn hl
        rw [← hd] at i1 ⊢
        simp only [go_sem, Nat.reduceAdd, Nat.reduceSub, Nat.reduceMul, Nat.reduceEqDiff, Nat.reduceLeDiff, Nat.reduceBEq, reduceCtorEq, LB.impl_SignsOf_0, h, ix, d32, d9, d10, h37, sg, hn', ix2, l1, l2, List.length_cons, List.length_nil, ea, Sg.near'] at i1 ⊢
        exact i1
      · have hn' : ¬ (((sgn s i c).2 : Nat) : Int) < s.length := by omega
        have hno : s[(sgn s i c).2]? = none := List.getElem?_eq_none (by omega)
        have hf : decide (s[(sgn s i c).2]? = some 40) = false := by rw [hno]; rfl
        rw [hf] at i1 ⊢
        simp only [go_sem, Nat.reduceAdd, Nat.reduceSub, Nat.reduceMul, Nat.reduceEqDiff, Nat.reduceLeDiff, Nat.reduceBEq, reduceCtorEq, LB.impl_SignsOf_0, h, ix, d32, d9, d10, h37, sg, hn', l1, l2, List.length_cons, List.length_nil, ea, Sg.near'] at i1 ⊢
        exact i1
    · have h : ¬ (i : Int) < s.length := by omega
      rw [sgs_end s _ i (by omega), List.append_nil, List.length_nil, Nat.add_zero]
      simp only [go_sem, Nat.reduceAdd, Nat.reduceSub, Nat.reduceMul, Nat.reduceEqDiff, Nat.reduceLeDiff, Nat.reduceBEq, reduceCtorEq, LB.impl_SignsOf_0, h]
def signsV (s : Str) : V := if s.length ≤ 3000 then .t [.o 5 ((signs s).map Sg.v), B true] else .t [.o 5 [], B false]
theorem spec_SignsOf_ok (s : Str) : cr progA F.spec_SignsOf [S s] = some (signsV s) := by
  rw [cr_fn pA_spec_SignsOf rfl]
  unfold signsV
  by_cases h : s.length ≤ 3000
  · have h' : ¬ (3000 : Int) < s.length := by omega
    have hlp := spec_SignsOf_loop s h s.length 0 [] (by omega) (by omega) (Nat.le_refl _)
    simp only [List.nil_append, List.length_nil, List.map_nil, Int.natCast_zero, Nat.zero_add] at hlp
    rw [if_pos h]
    unfold signs
    simp only [go_sem, Nat.reduceAdd, Nat.reduceSub, Nat.reduceMul, Nat.reduceEqDiff, Nat.reduceLeDiff, Nat.reduceBEq, reduceCtorEq, A.spec_SignsOf, h', hlp]
  · have h' : (3000 : Int) < s.length := by omega
    rw [if_neg h]
    simp only [go_sem, Nat.reduceAdd, Nat.reduceSub, Nat.reduceMul, Nat.reduceEqDiff, Nat.reduceLeDiff, Nat.reduceBEq, reduceCtorEq, A.spec_SignsOf, h']
theorem impl_SignsOf_ok (s : Str) : cr progA F.impl_SignsOf [S s] = some (signsV s) := by
  rw [cr_fn pA_impl_SignsOf rfl]
  unfold signsV
  by_cases h : s.length ≤ 3000
  · have h' : ¬ (3000 : Int) < s.length := by omega
    have hlp := impl_SignsOf_loop s h s.length 0 [] (by omega) (by omega) (Nat.le_refl _)
    simp only [List.nil_append, List.length_nil, List.map_nil, Int.natCast_zero, Nat.zero_add] at hlp
    rw [if_pos h]
    unfold signs
    simp only [go_sem, Nat.reduceAdd, Nat.reduceSub, Nat.reduceMul, Nat.reduceEqDiff, Nat.reduceLeDiff, Nat.reduceBEq, reduceCtorEq, A.impl_SignsOf, h', hlp]
  · have h' : (3000 : Int) < s.length := by omega
    rw [if_neg h]
    simp only [go_sem, Nat.reduceAdd, Nat.reduceSub, Nat.reduceMul, Nat.reduceEqDiff, Nat.reduceLeDiff, Nat.reduceBEq, reduceCtorEq, A.impl_SignsOf, h']
end Go.Vm

set_option autoImplicit false
set_option maxHeartbeats 8000000
set_option maxRecDepth 100000
set_option linter.unusedSimpArgs false
set_option linter.unusedVariables false
namespace Go.Vm
/-! ### how atoms are written -/
@[go_sem] theorem noTag_Sgv (x : Sg) : noTag x.v = true := (rfl)
@[go_sem] theorem conv_Sgv (τ : Bool) (x : Sg) : conv τ x.v = x.v := (rfl)
theorem one_one : ((1 : Nat) : Int) = 1 := rfl
theorem qText_eq (s : Str) (h : s.length ≤ 2^40) : binV .add (S [39]) (S s) = some (S (39 :: s)) ∧ binV .add (S (39 :: s)) (S [39]) = some (S (qText s)) :=
  ⟨binS_add (by simp only [List.length_cons, List.length_nil]; omega), binS_add (by simp only [List.length_cons, List.length_nil]; omega)⟩
theorem spec_AtomText_ok (s : Str) (h : s.length ≤ 3000) : cr progA F.spec_AtomText [S s] = some (S (atomText s)) := by
  have e := spec_SignsOf_ok s
  unfold signsV at e
  rw [if_pos h] at e
  obtain ⟨q1, q2⟩ := qText_eq s (by omega)
  rw [cr_fn pA_spec_AtomText rfl]
  unfold atomText
  cases hs : signs s with
  | nil => rw [hs] at e; simp only [go_sem, Nat.reduceAdd, Nat.reduceSub, Nat.reduceMul, Nat.reduceEqDiff, Nat.reduceLeDiff, Nat.reduceBEq, reduceCtorEq, A.spec_AtomText, e, List.map_nil, List.length_nil, Int.reduceEq, decide_false, q1, q2]
  | cons x r =>
    rw [hs] at e
    cases r with
    | cons y r =>
      have hn : decide (((r.length + 1 + 1 : Nat) : Int) = 1) = false := decide_eq_false (by omega)
      simp only [go_sem, Nat.reduceAdd, Nat.reduceSub, Nat.reduceMul, Nat.reduceEqDiff, Nat.reduceLeDiff, Nat.reduceBEq, reduceCtorEq, A.spec_AtomText, e, List.map_cons, List.length_cons, hn, q1, q2]
    | nil =>
      simp only
      by_cases hk : x.kind = 1
      · have dk : decide (x.kind = 1) = true := decide_eq_true hk
        by_cases ht : x.text = s
        · have dt : decide (x.text = s) = true := decide_eq_true ht
          rw [if_pos ⟨hk, ht⟩]
          simp only [go_sem, Nat.reduceAdd, Nat.reduceSub, Nat.reduceMul, Nat.reduceEqDiff, Nat.reduceLeDiff, Nat.reduceBEq, reduceCtorEq, A.spec_AtomText, e, List.map_cons, List.map_nil, List.length_cons, List.length_nil, one_one, Int.reduceEq, decide_true, Sg.v, dk, dt, q1, q2]
        · have dt : decide (x.text = s) = false := decide_eq_false ht
          rw [if_neg fun h => ht h.2]
          simp only [go_sem, Nat.reduceAdd, Nat.reduceSub, Nat.reduceMul, Nat.reduceEqDiff, Nat.reduceLeDiff, Nat.reduceBEq, reduceCtorEq, A.spec_AtomText, e, List.map_cons, List.map_nil, List.length_cons, List.length_nil, one_one, Int.reduceEq, decide_true, Sg.v, dk, dt, q1, q2]
      · have dk : decide (x.kind = 1) = false := decide_eq_false hk
        rw [if_neg fun h => hk h.1]
        simp only [go_sem, Nat.reduceAdd, Nat.reduceSub, Nat.reduceMul, Nat.reduceEqDiff, Nat.reduceLeDiff, Nat.reduceBEq, reduceCtorEq, A.spec_AtomText, e, List.map_cons, List.map_nil, List.length_cons, List.length_nil, one_one, Int.reduceEq, decide_true, Sg.v, dk, q1, q2]
theorem impl_AtomText_ok (s : Str) (h : s.length ≤ 3000) : cr progA F.impl_AtomText [S s] = some (S (atomText s)) := by
  have e := impl_SignsOf_ok s
  unfold signsV at e
  rw [if_pos h] at e
  obtain ⟨q1, q2⟩ := qText_eq s (by omega)
  rw [cr_fn pA_impl_AtomText rfl]
  unfold atomText
  cases hs : signs s with
  | nil => rw [hs] at e; simp only [go_sem, Nat.reduceAdd, Nat.reduceSub, Nat.reduceMul, Nat.reduceEqDiff, Nat.reduceLeDiff, Nat.reduceBEq, reduceCtorEq, A.impl_AtomText, e, List.map_nil, List.length_nil, Int.reduceEq, decide_false, q1, q2]
  | cons x r =>
    rw [hs] at e
    cases r with
    | cons y r =>
      have hn : decide (((r.length + 1 + 1 : Nat) : Int) = 1) = false := decide_eq_false (by omega)
      simp only [go_sem, Nat.reduceAdd, Nat.reduceSub, Nat.reduceMul, Nat.reduceEqDiff, Nat.reduceLeDiff, Nat.reduceBEq, reduceCtorEq, A.impl_AtomText, e, List.map_cons, List.length_cons, hn, q1, q2]
    | nil =>
      simp only
      by_cases hk : x.kind = 1
      · have dk : decide (x.kind = 1) = true := decide_eq_true hk
        by_cases ht : x.text = s
        · have dt : decide (x.text = s) = true := decide_eq_true ht
          rw [if_pos ⟨hk, ht⟩]
          simp only [go_sem, Nat.reduceAdd, Nat.reduceSub, Nat.reduceMul, Nat.reduceEqDiff, Nat.reduceLeDiff, Nat.reduceBEq, reduceCtorEq, A.impl_AtomText, e, List.map_cons, List.map_nil, List.length_cons, List.length_nil, one_one, Int.reduceEq, decide_true, Sg.v, dk, dt, q1, q2]
        · have dt : decide (x.text = s) = false := decide_eq_false ht
          rw [if_neg fun h => ht h.2]
          simp only [go_sem, Nat.reduceAdd, Nat.reduceSub, Nat.reduceMul, Nat.reduceEqDiff, Nat.reduceLeDiff, Nat.reduceBEq, reduceCtorEq, A.impl_AtomText, e, List.map_cons, List.map_nil, List.length_cons, List.length_nil, one_one, Int.reduceEq, decide_true, Sg.v, dk, dt, q1, q2]
      · have dk : decide (x.kind = 1) = false := decide_eq_false hk
        rw [if_neg fun h => hk h.1]
        simp only [go_sem, Nat.reduceAdd, Nat.reduceSub, Nat.reduceMul, Nat.reduceEqDiff, Nat.reduceLeDiff, Nat.reduceBEq, reduceCtorEq, A.impl_AtomText, e, List.map_cons, List.map_nil, List.length_cons, List.length_nil, one_one, Int.reduceEq, decide_true, Sg.v, dk, q1, q2]
theorem impl_PrefixOf_ok (s : Str) : cr progA F.impl_PrefixOf [S s] = some (preV s) := by
  rw [cr_fn pA_impl_PrefixOf rfl]
  by_cases h1 : s = [58, 45]
  · subst h1; simp (decide := true) only [go_sem, Nat.reduceAdd, Nat.reduceSub, Nat.reduceMul, Nat.reduceEqDiff, Nat.reduceLeDiff, Nat.reduceBEq, reduceCtorEq, A.impl_PrefixOf]; rfl
  by_cases h2 : s = [92, 43]
  · subst h2; simp (decide := true) only [go_sem, Nat.reduceAdd, Nat.reduceSub, Nat.reduceMul, Nat.reduceEqDiff, Nat.reduceLeDiff, Nat.reduceBEq, reduceCtorEq, A.impl_PrefixOf]; rfl
  by_cases h3 : s = [45]
  · subst h3; simp (decide := true) only [go_sem, Nat.reduceAdd, Nat.reduceSub, Nat.reduceMul, Nat.reduceEqDiff, Nat.reduceLeDiff, Nat.reduceBEq, reduceCtorEq, A.impl_PrefixOf]; rfl
  simp only [go_sem, Nat.reduceAdd, Nat.reduceSub, Nat.reduceMul, Nat.reduceEqDiff, Nat.reduceLeDiff, Nat.reduceBEq, reduceCtorEq, A.impl_PrefixOf, h1, h2, h3]
  simp [preV, prefixOf, h1, h2, h3]
theorem spec_PrefixOf_ok (s : Str) : cr progA F.spec_PrefixOf [S s] = some (preV s) := by
  rw [cr_fn pA_spec_PrefixOf rfl]
  by_cases h1 : s = [58, 45]
  · subst h1; simp (decide := true) only [go_sem, Nat.reduceAdd, Nat.reduceSub, Nat.reduceMul, Nat.reduceEqDiff, Nat.reduceLeDiff, Nat.reduceBEq, reduceCtorEq, A.spec_PrefixOf]; rfl
  by_cases h2 : s = [92, 43]
  · subst h2; simp (decide := true) only [go_sem, Nat.reduceAdd, Nat.reduceSub, Nat.reduceMul, Nat.reduceEqDiff, Nat.reduceLeDiff, Nat.reduceBEq, reduceCtorEq, A.spec_PrefixOf]; rfl
  by_cases h3 : s = [45]
  · subst h3; simp (decide := true) only [go_sem, Nat.reduceAdd, Nat.reduceSub, Nat.reduceMul, Nat.reduceEqDiff, Nat.reduceLeDiff, Nat.reduceBEq, reduceCtorEq, A.spec_PrefixOf]; rfl
  simp only [go_sem, Nat.reduceAdd, Nat.reduceSub, Nat.reduceMul, Nat.reduceEqDiff, Nat.reduceLeDiff, Nat.reduceBEq, reduceCtorEq, A.spec_PrefixOf, h1, h2, h3]
  simp [preV, prefixOf, h1, h2, h3]
theorem l07Op_ok (s : Str) : cr progA F.spec_l07Op [S s] = some (B (isOp s)) := by
  have e1 := spec_InfixOf_ok s
  have e2 := spec_PrefixOf_ok s
  unfold opV at e1
  unfold preV at e2
  rw [cr_fn pA_spec_l07Op rfl]
  unfold isOp
  cases h1 : decide ((infixOf s).prio ≠ 0) <;> cases h2 : decide ((prefixOf s).prio ≠ 0) <;> rw [h1] at e1 <;> rw [h2] at e2 <;> simp only [go_sem, Nat.reduceAdd, Nat.reduceSub, Nat.reduceMul, Nat.reduceEqDiff, Nat.reduceLeDiff, Nat.reduceBEq, reduceCtorEq, A.spec_l07Op, e1, e2, Bool.or_true, Bool.or_false, Bool.true_or]
theorem impl_isOp_ok (s : Str) : cr progA F.impl_isOp [S s] = some (B (isOp s)) := by
  have e1 := impl_InfixOf_ok s
  have e2 := impl_PrefixOf_ok s
  unfold opV at e1
  unfold preV at e2
  rw [cr_fn pA_impl_isOp rfl]
  unfold isOp
  cases h1 : decide ((infixOf s).prio ≠ 0) <;> cases h2 : decide ((prefixOf s).prio ≠ 0) <;> rw [h1] at e1 <;> rw [h2] at e2 <;> simp only [go_sem, Nat.reduceAdd, Nat.reduceSub, Nat.reduceMul, Nat.reduceEqDiff, Nat.reduceLeDiff, Nat.reduceBEq, reduceCtorEq, A.impl_isOp, e1, e2, Bool.or_true, Bool.or_false, Bool.true_or]
theorem impl_signText_ok (s : Str) (h : s.length ≤ 3000) : cr progA F.impl_signText [S s] = some (S (signText s)) := by
  have e := impl_AtomText_ok s h
  rw [cr_fn pA_impl_signText rfl]
  unfold signText
  by_cases h1 : s = [44]
  · have d : decide (s = [44]) = true := decide_eq_true h1
    rw [if_pos h1]
    simp only [go_sem, Nat.reduceAdd, Nat.reduceSub, Nat.reduceMul, Nat.reduceEqDiff, Nat.reduceLeDiff, Nat.reduceBEq, reduceCtorEq, A.impl_signText, d]
    rw [h1]
  · have d : decide (s = [44]) = false := decide_eq_false h1
    rw [if_neg h1]
    simp only [go_sem, Nat.reduceAdd, Nat.reduceSub, Nat.reduceMul, Nat.reduceEqDiff, Nat.reduceLeDiff, Nat.reduceBEq, reduceCtorEq, A.impl_signText, d, e]
/-! what terms are -/
def isStr (t : Tm) (s : Str) (n : Int) : Bool := decide (t.kind = 4) && (decide (t.name = s) && decide ((t.kids.length : Int) = n))
def isAt (t : Tm) (s : Str) : Bool := decide (t.kind = 2) && decide (t.name = s)
theorem impl_isStruct_ok (t : Tm) (v : V) (hb : BT t v) (s : Str) (n : Int) : cr progA F.impl_isStruct [v, S s, I n] = some (B (isStr t s n)) := by
  obtain ⟨τ, vs, rfl, hv⟩ := BT_shape hb
  have hl := RL_length hv
  rw [cr_fn pA_impl_isStruct rfl]
  unfold isStr
  cases h1 : decide (t.kind = 4) <;> cases h2 : decide (t.name = s) <;> simp only [go_sem, Nat.reduceAdd, Nat.reduceSub, Nat.reduceMul, Nat.reduceEqDiff, Nat.reduceLeDiff, Nat.reduceBEq, reduceCtorEq, A.impl_isStruct, h1, h2, hl, Bool.true_and, Bool.false_and]
theorem l03Is_ok (t : Tm) (v : V) (hb : BT t v) (s : Str) (n : Int) : cr progA F.spec_l03Is [v, S s, I n] = some (B (isStr t s n)) := by
  obtain ⟨τ, vs, rfl, hv⟩ := BT_shape hb
  have hl := RL_length hv
  rw [cr_fn pA_spec_l03Is rfl]
  unfold isStr
  cases h1 : decide (t.kind = 4) <;> cases h2 : decide (t.name = s) <;> simp only [go_sem, Nat.reduceAdd, Nat.reduceSub, Nat.reduceMul, Nat.reduceEqDiff, Nat.reduceLeDiff, Nat.reduceBEq, reduceCtorEq, A.spec_l03Is, h1, h2, hl, Bool.true_and, Bool.false_and]
theorem impl_isAtom_ok (t : Tm) (v : V) (hb : BT t v) (s : Str) : cr progA F.impl_isAtom [v, S s] = some (B (isAt t s)) := by
  obtain ⟨τ, vs, rfl, hv⟩ := BT_shape hb
  rw [cr_fn pA_impl_isAtom rfl]
  unfold isAt
  cases h1 : decide (t.kind = 2) <;> simp only [go_sem, Nat.reduceAdd, Nat.reduceSub, Nat.reduceMul, Nat.reduceEqDiff, Nat.reduceLeDiff, Nat.reduceBEq, reduceCtorEq, A.impl_isAtom, h1, Bool.true_and, Bool.false_and]
theorem impl_isPair_ok (t : Tm) (v : V) (hb : BT t v) : cr progA F.impl_isPair [v] = some (B (isStr t [46] 2)) := by
  have h := impl_isStruct_ok t v hb [46] 2
  obtain ⟨τ, vs, rfl, hv⟩ := BT_shape hb
  rw [cr_fn pA_impl_isPair rfl]
  simp only [go_sem, Nat.reduceAdd, Nat.reduceSub, Nat.reduceMul, Nat.reduceEqDiff, Nat.reduceLeDiff, Nat.reduceBEq, reduceCtorEq, A.impl_isPair, h]
end Go.Vm

set_option autoImplicit false
set_option maxHeartbeats 8000000
set_option maxRecDepth 100000
set_option linter.unusedSimpArgs false
set_option linter.unusedVariables false
namespace Go.Vm
open Go.Lib (itoa join joinTail decDigits)
/-! ### what is written, case by case -/
def Rt (t : Tm) : Prop := ∃ d, rightT d t = true
theorem Rt_kids {t : Tm} (h : Rt t) : ∀ u ∈ t.kids, Rt u := by
  obtain ⟨d, h⟩ := h
  exact fun u hu => ⟨d + 1, (rightT_one h).2 u hu⟩
theorem Rt_ok {t : Tm} (h : Rt t) : okOne t = true := by obtain ⟨d, h⟩ := h; exact (rightT_one h).1
theorem Rt_len (p : Bool) {t : Tm} (h : Rt t) : (wr p t).length + 10 ≤ 60 * nT t ∧ (wrR p t).length ≤ 60 * nT t := by
  obtain ⟨d, h⟩ := h; exact wr_len p t d h
theorem held_len (p : Bool) (m : Int) {t : Tm} (h : Rt t) : (held p m t).length + 8 ≤ 60 * nT t := by
  have h1 := (Rt_len p h).1
  have h2 := hold_len p m (prioOf t) (wr p t)
  unfold held
  omega
theorem isStr_of {t : Tm} {s : Str} (h : isStr t s 2 = true) : t.kind = 4 ∧ t.name = s ∧ ∃ a b, t.kids = [a, b] := by
  unfold isStr at h
  simp only [Bool.and_eq_true, decide_eq_true_eq] at h
  refine ⟨h.1, h.2.1, ?_⟩
  have h2 : t.kids.length = 2 := by omega
  rcases hk : t.kids with _ | ⟨x, _ | ⟨y, _ | ⟨z, r⟩⟩⟩ <;> rw [hk] at h2 <;> simp at h2
  exact ⟨x, y, rfl⟩
theorem isStr_mk {t a b : Tm} {s : Str} (h1 : t.kind = 4) (h2 : t.name = s) (h3 : t.kids = [a, b]) : isStr t s 2 = true := by
  unfold isStr; rw [decide_eq_true h1, decide_eq_true h2, h3]; rfl
theorem nT_two {t a b : Tm} (h : t.kids = [a, b]) : nT t = nT a + nT b + 1 := by
  have := nT_kids t
  rw [h] at this
  simp only [nTs] at this
  omega
theorem held_eq (p : Bool) (m : Int) (t : Tm) : held p m t = hold p m (wk p t).prio (wk p t).raw := by unfold held wr; rw [wk_prio]
theorem wr_var (p : Bool) {t : Tm} (h : t.kind = 1) : wr p t = [95] ++ itoa t.num := by rw [wr_eq]; unfold rawW; rw [if_pos h]
theorem wr_int (p : Bool) {t : Tm} (h : t.kind = 3) : wr p t = itoa t.num := by rw [wr_eq]; unfold rawW; rw [if_neg (by omega), if_pos h]
theorem wr_atom (p : Bool) {t : Tm} (h : t.kind = 2) : wr p t = if t.name = [91, 93] then [91, 93] else if isOp t.name = true then [40] ++ atomText t.name ++ [41] else atomText t.name := by
  rw [wr_eq]; unfold rawW; rw [if_neg (by omega), if_neg (by omega), if_pos h]
theorem wr_pair (p : Bool) {t a b : Tm} (h : isStr t [46] 2 = true) (hk : t.kids = [a, b]) : wr p t = [91] ++ held p 999 a ++ wrR p b := by
  obtain ⟨h1, h2, -⟩ := isStr_of h
  rw [wr_eq, hk, held_eq]
  unfold rawW
  rw [if_neg (by omega), if_neg (by omega), if_neg (by omega)]
  simp only [List.map_cons, List.map_nil]
  rw [if_pos h2]
  rfl
theorem wr_inf (p : Bool) {t a b : Tm} (h : t.kind = 4) (hk : t.kids = [a, b]) (hi : (infixOf t.name).prio ≠ 0) : wr p t = infW p t.name (wk p a) (wk p b) := by
  rw [wr_eq, hk]
  unfold rawW
  rw [if_neg (by omega), if_neg (by omega), if_neg (by omega)]
  simp only [List.map_cons, List.map_nil]
  rw [if_neg (by intro e; rw [e] at hi; exact hi rfl), if_pos hi]
theorem gen_eq (p : Bool) (s : Str) (ks : List Tm) : genW p s (ks.map (wk p)) = atomText s ++ [40] ++ join (ks.map (held p 999)) [44] ++ [41] := by
  unfold genW
  rw [List.map_map]
  have : ((fun k : Kd => hold p 999 k.prio k.raw) ∘ wk p) = held p 999 := by funext t; rw [held_eq]; rfl
  rw [this]
theorem wr_gen (p : Bool) {t : Tm} (h : t.kind = 4) (h1 : isStr t [46] 2 = false) (h2 : prioOf t = 0) : wr p t = atomText t.name ++ [40] ++ join (t.kids.map (held p 999)) [44] ++ [41] := by
  rw [wr_eq, ← gen_eq]
  unfold rawW
  rw [if_neg (by omega), if_neg (by omega), if_neg (by omega)]
  rcases hk : t.kids with _ | ⟨x, _ | ⟨y, _ | ⟨z, r⟩⟩⟩ <;> simp only [List.map_cons, List.map_nil]
  have hn : ¬ t.name = [46] := fun e => by rw [isStr_mk h e hk] at h1; cases h1
  have hp : ¬ (infixOf t.name).prio ≠ 0 := by
    unfold prioOf at h2
    rw [if_pos ⟨h, by rw [hk]; rfl⟩] at h2
    exact fun e => e h2
  rw [if_neg hn, if_neg hp]
theorem wrR_pair (p : Bool) {t a b : Tm} (h : isStr t [46] 2 = true) (hk : t.kids = [a, b]) : wrR p t = [44] ++ held p 999 a ++ wrR p b := by
  obtain ⟨h1, h2, -⟩ := isStr_of h
  rw [wrR_eq, hk, held_eq]
  unfold restW
  rw [if_neg (by omega)]
  simp only [List.map_cons, List.map_nil]
  rw [if_pos ⟨h1, h2⟩]
  rfl
theorem wrR_nil (p : Bool) {t : Tm} (h : isAt t [91, 93] = true) : wrR p t = [93] := by
  unfold isAt at h
  simp only [Bool.and_eq_true, decide_eq_true_eq] at h
  rw [wrR_eq]
  unfold restW
  rw [if_pos h]
theorem wrR_else (p : Bool) {t : Tm} (h : isAt t [91, 93] = false) (h1 : isStr t [46] 2 = false) : wrR p t = [124] ++ held p 999 t ++ [93] := by
  have hn : ¬ (t.kind = 2 ∧ t.name = [91, 93]) := fun ⟨e1, e2⟩ => by unfold isAt at h; rw [decide_eq_true e1, decide_eq_true e2] at h; cases h
  rw [wrR_eq]
  unfold restW
  rw [if_neg hn]
  rcases hk : t.kids with _ | ⟨x, _ | ⟨y, _ | ⟨z, r⟩⟩⟩ <;> simp only [List.map_cons, List.map_nil] <;> try rfl
  rw [if_neg fun e => by rw [isStr_mk e.1 e.2 hk] at h1; cases h1]
  rfl
theorem itoa_neg {n : Int} (h : n < 0) : itoa n = [45] ++ itoa (0 - n) := by
  unfold itoa
  rw [if_pos h, if_neg (by omega), show (0 - n).toNat = n.natAbs by omega]
  rfl
theorem join_cons' (x : Str) (r : List Str) : join (x :: r) [44] = x ++ joinTail [44] r := Go.Lib.join_cons x r [44]
theorem joinTail_cons (x : Str) (r : List Str) : joinTail [44] (x :: r) = [44] ++ x ++ joinTail [44] r := by simp [joinTail]
theorem RL_two {R : Tm → V → Prop} {a b : Tm} {vs : List V} (h : RL R [a, b] vs) : ∃ va vb, vs = [va, vb] ∧ R a va ∧ R b vb := by
  simp only [RL] at h
  obtain ⟨va, r, rfl, h1, vb, r', rfl, h2, rfl⟩ := h
  exact ⟨va, vb, rfl, h1, h2⟩
end Go.Vm

set_option autoImplicit false
set_option maxHeartbeats 8000000
set_option maxRecDepth 100000
set_option linter.unusedSimpArgs false
set_option linter.unusedVariables false
namespace Go.Vm
open Go.Lib (itoa join joinTail)

theorem l07Row_loop (N : Nat) (hN : N ≤ 401) (hW : ∀ u, nT u < N → Rt u → WT u → ∀ v, BT u v → cr progA F.spec_l07Write [v] = some (S (held false 999 u))) :
    ∀ (n : Nat) (b : Tm), nT b ≤ n → nT b < N → Rt b → WT b → ∀ (t a : Tm) (v : V), BT t v → t.kids = [a, b] → ∀ acc : Str, acc.length + 60 * nT b ≤ 2^40 →
    ∃ t' v' a' b' acc', BT t' v' ∧ t'.kids = [a', b'] ∧ isStr b' [46] 2 = false ∧ nT b' ≤ nT b ∧ Rt b' ∧ WT b' ∧ acc' ++ wrR false b' = acc ++ wrR false b ∧ acc'.length + 60 * nT b' ≤ 2^40 ∧
      lw progA L.spec_l07Row_0 ⟨[(1, .p (100000, 0) 0 0), (3, S acc)], [((100000, 0), 4, [v])]⟩ = some (.exit 0, ⟨[(1, .p (100000, 0) 0 0), (3, S acc')], [((100000, 0), 4, [v'])]⟩) := by
  intro n
  induction n with
  | zero => intro b hn; have := nT_pos b; omega
  | succ n ih =>
    intro b hn hbN hr hw t a v hb hk acc hacc
    obtain ⟨τ, vs, rfl, hv⟩ := BT_shape hb
    rw [hk] at hv
    obtain ⟨va, vb, rfl, ha, hb'⟩ := RL_two hv
    have is := l03Is_ok b vb hb' [46] 2
    have ca := BT_cells ha
    have cb := BT_cells hb'
    cases h2 : isStr b [46] 2 with
    | false =>
      refine ⟨t, _, a, b, acc, hb, hk, h2, Nat.le_refl _, hr, hw, rfl, hacc, ?_⟩
      rw [h2] at is
      obtain ⟨τb, vsb, rfl, -⟩ := BT_shape hb'
      rw [lw_eq]
      simp only [go_sem, Nat.reduceAdd, Nat.reduceSub, Nat.reduceMul, Nat.reduceEqDiff, Nat.reduceLeDiff, Nat.reduceBEq, reduceCtorEq, LB.spec_l07Row_0, is]
    | true =>
      rw [h2] at is
      obtain ⟨-, -, a2, b2, hk2⟩ := isStr_of h2
      have hnt := nT_two hk2
      have ra := Rt_kids hr a2 (by rw [hk2]; simp)
      have rb := Rt_kids hr b2 (by rw [hk2]; simp)
      have wa := WT_kids hw a2 (by rw [hk2]; simp)
      have wb := WT_kids hw b2 (by rw [hk2]; simp)
      have hl := held_len false 999 ra
      obtain ⟨t', v', a', b', acc', g1, g2, g3, g4, g5, g6, g7, g8, g9⟩ := ih b2 (by have := nT_pos a2; omega) (by omega) rb wb b a2 vb hb' hk2 (acc ++ [44] ++ held false 999 a2) (by simp only [List.length_append, List.length_cons, List.length_nil]; omega)
      refine ⟨t', v', a', b', acc', g1, g2, g3, by omega, g5, g6, ?_, g8, ?_⟩
      · rw [g7, wrR_pair false h2 hk2]; simp only [List.append_assoc]
      · obtain ⟨τb, vsb, rfl, hvb⟩ := BT_shape hb'
        rw [hk2] at hvb
        obtain ⟨va2, vb2, rfl, ha2, hb2⟩ := RL_two hvb
        have cw2 := hW a2 (by omega) ra wa va2 ha2
        have s1 : binV .add (S acc) (S [44]) = _ := binS_add (by simp only [List.length_cons, List.length_nil]; omega)
        have s2 : binV .add (S (acc ++ [44])) (S (held false 999 a2)) = _ := binS_add (by simp only [List.length_append, List.length_cons, List.length_nil]; omega)
        obtain ⟨τa, vsa, rfl, -⟩ := BT_shape ha2
        obtain ⟨τ2, vs2, rfl, -⟩ := BT_shape hb2
        rw [lw_eq]
        simp only [go_sem, Nat.reduceAdd, Nat.reduceSub, Nat.reduceMul, Nat.reduceEqDiff, Nat.reduceLeDiff, Nat.reduceBEq, reduceCtorEq, LB.spec_l07Row_0, is, cw2, s1, s2]
        exact g9
theorem l07Row_ok (t : Tm) (h2 : isStr t [46] 2 = true) (hN : nT t ≤ 400) (hr : Rt t) (hw : WT t) (hW : ∀ u, nT u < nT t → Rt u → WT u → ∀ v, BT u v → cr progA F.spec_l07Write [v] = some (S (held false 999 u))) (v : V) (hb : BT t v) :
    cr progA F.spec_l07Row [v] = some (S (wr false t)) := by
  obtain ⟨-, -, a, b, hk⟩ := isStr_of h2
  have hnt := nT_two hk
  have ra := Rt_kids hr a (by rw [hk]; simp)
  have rb := Rt_kids hr b (by rw [hk]; simp)
  have wa := WT_kids hw a (by rw [hk]; simp)
  have wb := WT_kids hw b (by rw [hk]; simp)
  have hl := held_len false 999 ra
  have hpa := nT_pos a
  obtain ⟨t', v', a', b', acc', g1, g2, g3, g4, g5, g6, g7, g8, g9⟩ := l07Row_loop (nT t) (by omega) hW (nT b) b (Nat.le_refl _) (by omega) rb wb t a v hb hk ([91] ++ held false 999 a) (by simp only [List.length_append, List.length_cons, List.length_nil]; omega)
  have hl' := held_len false 999 g5
  rw [wr_pair false h2 hk, ← g7]
  obtain ⟨τ, vs, rfl, hv⟩ := BT_shape hb
  rw [hk] at hv
  obtain ⟨va, vb, rfl, ha, hb'⟩ := RL_two hv
  obtain ⟨τ', vs', rfl, hv'⟩ := BT_shape g1
  rw [g2] at hv'
  obtain ⟨va', vb', rfl, ha', hb2⟩ := RL_two hv'
  have cw1 := hW a (by omega) ra wa va ha
  have cw2 := hW b' (by omega) g5 g6 vb' hb2
  have s1 : binV .add (S [91]) (S (held false 999 a)) = _ := binS_add (by simp only [List.length_cons, List.length_nil]; omega)
  obtain ⟨τa, vsa, rfl, -⟩ := BT_shape ha
  obtain ⟨τb, vsb, rfl, -⟩ := BT_shape hb'
  obtain ⟨τc, vsc, rfl, -⟩ := BT_shape ha'
  obtain ⟨τd, vsd, rfl, -⟩ := BT_shape hb2
  rw [cr_fn pA_spec_l07Row rfl]
  simp only [List.cons_append, List.nil_append] at g9 s1
  cases hn : isAt b' [91, 93] with
  | true =>
    have s2 : binV .add (S acc') (S [93]) = _ := binS_add (by simp only [List.length_cons, List.length_nil]; omega)
    rw [wrR_nil false hn]
    unfold isAt at hn
    rw [Bool.and_eq_true] at hn
    simp only [go_sem, Nat.reduceAdd, Nat.reduceSub, Nat.reduceMul, Nat.reduceEqDiff, Nat.reduceLeDiff, Nat.reduceBEq, reduceCtorEq, A.spec_l07Row, cw1, s1, g9, hn.1, hn.2, s2]
  | false =>
    have s2 : binV .add (S acc') (S [124]) = _ := binS_add (by simp only [List.length_cons, List.length_nil]; omega)
    have s3 : binV .add (S (acc' ++ [124])) (S (held false 999 b')) = _ := binS_add (by simp only [List.length_append, List.length_cons, List.length_nil]; omega)
    have s4 : binV .add (S (acc' ++ [124] ++ held false 999 b')) (S [93]) = _ := binS_add (by simp only [List.length_append, List.length_cons, List.length_nil]; omega)
    have he : acc' ++ ([124] ++ held false 999 b' ++ [93]) = acc' ++ [124] ++ held false 999 b' ++ [93] := by simp only [List.append_assoc]
    rw [wrR_else false hn g3, he]
    unfold isAt at hn
    cases d2 : decide (b'.kind = 2) with
    | false => simp only [go_sem, Nat.reduceAdd, Nat.reduceSub, Nat.reduceMul, Nat.reduceEqDiff, Nat.reduceLeDiff, Nat.reduceBEq, reduceCtorEq, A.spec_l07Row, cw1, s1, g9, d2, s2, cw2, s3, s4]
    | true =>
      rw [d2, Bool.true_and] at hn
      simp only [go_sem, Nat.reduceAdd, Nat.reduceSub, Nat.reduceMul, Nat.reduceEqDiff, Nat.reduceLeDiff, Nat.reduceBEq, reduceCtorEq, A.spec_l07Row, cw1, s1, g9, d2, hn, s2, cw2, s3, s4]
theorem l07Gen_loop (t : Tm) (τ : Bool) (vs : List V) (hv : RL BT t.kids vs) (hlim : t.kids.length ≤ 5) (hks : ∀ u ∈ t.kids, ∀ v, BT u v → cr progA F.spec_l07Write [v] = some (S (held false 999 u))) (hbd : ∀ u ∈ t.kids, (held false 999 u).length ≤ 30000) (m : Nat) :
    ∀ (i : Nat) (acc : Str), i + m = t.kids.length → 1 ≤ i → acc.length + m * 30001 ≤ 2^40 →
    lw progA L.spec_l07Write_0 ⟨[(1, .p (100000, 0) 0 0), (6, S acc), (7, I i)], [((100000, 0), 4, [.a [I t.kind, S t.name, I t.num, .i τ vs]])]⟩ =
      some (.exit 1, ⟨[(6, S (acc ++ joinTail [44] ((t.kids.drop i).map (held false 999))))], [((100000, 0), 4, [.a [I t.kind, S t.name, I t.num, .i τ vs]])]⟩) := by
  have hn := RL_length hv
  induction m with
  | zero =>
    intro i acc hi h1 h2
    have h : ¬ (i : Int) < t.kids.length := by omega
    rw [List.drop_eq_nil_of_le (by omega), lw_eq]
    simp only [go_sem, Nat.reduceAdd, Nat.reduceSub, Nat.reduceMul, Nat.reduceEqDiff, Nat.reduceLeDiff, Nat.reduceBEq, reduceCtorEq, LB.spec_l07Write_0, hn, h, List.map_nil, joinTail, List.flatten_nil, List.append_nil]
  | succ m ih =>
    intro i acc hi h1 h2
    have h : (i : Int) < t.kids.length := by omega
    have h0 : (0 : Int) < i := by omega
    obtain ⟨u, hu⟩ := get_some' (l := t.kids) (i := i) (by omega)
    have hm := List.mem_of_getElem? hu
    obtain ⟨v, gv, hbt⟩ := RL_get hv hu
    have a1 := fun T => addr_i (τ := τ) (T := T) gv (BT_cells hbt)
    have cc := hks u hm v hbt
    have hl := hbd u hm
    have e1 : w64 ((i : Int) + 1) = ((i + 1 : Nat) : Int) := by rw [w64_id] <;> omega
    have s1 : binV .add (S acc) (S [44]) = _ := binS_add (by simp only [List.length_cons, List.length_nil]; omega)
    have s2 : binV .add (S (acc ++ [44])) (S (held false 999 u)) = _ := binS_add (by simp only [List.length_append, List.length_cons, List.length_nil]; omega)
    have i1 := ih (i + 1) (acc ++ [44] ++ held false 999 u) (by omega) (by omega) (by simp only [List.length_append, List.length_cons, List.length_nil]; omega)
    have he : acc ++ ([44] ++ held false 999 u ++ joinTail [44] ((t.kids.drop (i + 1)).map (held false 999))) = acc ++ [44] ++ held false 999 u ++ joinTail [44] ((t.kids.drop (i + 1)).map (held false 999)) := by simp only [List.append_assoc]
    rw [drop_cons' hu, List.map_cons, joinTail_cons, he]
    obtain ⟨σ1, ws, rfl, -⟩ := BT_shape hbt
    rw [lw_eq]
    simp only [go_sem, Nat.reduceAdd, Nat.reduceSub, Nat.reduceMul, Nat.reduceEqDiff, Nat.reduceLeDiff, Nat.reduceBEq, reduceCtorEq, LB.spec_l07Write_0, hn, h, h0, a1, gv, cc, e1, s1, s2]
    exact i1
theorem l07Gen_first (t : Tm) (τ : Bool) (vs : List V) (hv : RL BT t.kids vs) (hlim : t.kids.length ≤ 5) (h1 : 1 ≤ t.kids.length) (hks : ∀ u ∈ t.kids, ∀ v, BT u v → cr progA F.spec_l07Write [v] = some (S (held false 999 u))) (hbd : ∀ u ∈ t.kids, (held false 999 u).length ≤ 30000) (acc : Str) (hacc : acc.length ≤ 100000) :
    lw progA L.spec_l07Write_0 ⟨[(1, .p (100000, 0) 0 0), (6, S acc), (7, I 0)], [((100000, 0), 4, [.a [I t.kind, S t.name, I t.num, .i τ vs]])]⟩ =
      some (.exit 1, ⟨[(6, S (acc ++ join (t.kids.map (held false 999)) [44]))], [((100000, 0), 4, [.a [I t.kind, S t.name, I t.num, .i τ vs]])]⟩) := by
  have hn := RL_length hv
  have h : (0 : Int) < t.kids.length := by omega
  obtain ⟨u, hu⟩ := get_some' (l := t.kids) (i := 0) (by omega)
  have hm := List.mem_of_getElem? hu
  obtain ⟨v, gv, hbt⟩ := RL_get hv hu
  have a1 := fun T => addr_i (τ := τ) (T := T) gv (BT_cells hbt)
  have cc := hks u hm v hbt
  have hl := hbd u hm
  have e1 : w64 ((0 : Int) + 1) = ((1 : Nat) : Int) := rfl
  have s2 : binV .add (S acc) (S (held false 999 u)) = _ := binS_add (by omega)
  have i1 := l07Gen_loop t τ vs hv hlim hks hbd (t.kids.length - 1) 1 (acc ++ held false 999 u) (by omega) (by omega) (by simp only [List.length_append]; omega)
  have hd := drop_cons' hu
  rw [List.drop_zero] at hd
  have hj : join (t.kids.map (held false 999)) [44] = held false 999 u ++ joinTail [44] ((t.kids.drop 1).map (held false 999)) := by
    conv => lhs; rw [hd]
    rw [List.map_cons, join_cons']
  rw [hj, ← List.append_assoc]
  simp only [Int.natCast_zero] at a1
  obtain ⟨σ1, ws, rfl, -⟩ := BT_shape hbt
  rw [lw_eq]
  simp only [go_sem, Nat.reduceAdd, Nat.reduceSub, Nat.reduceMul, Nat.reduceEqDiff, Nat.reduceLeDiff, Nat.reduceBEq, reduceCtorEq, LB.spec_l07Write_0, hn, h, a1, gv, cc, e1, s2]
  exact i1

theorem l28Row_loop (N : Nat) (hN : N ≤ 401) (hW : ∀ u, nT u < N → Rt u → WT u → ∀ v, BT u v → cr progA F.spec_l28Held [v, I 999] = some (S (held true 999 u))) :
    ∀ (n : Nat) (b : Tm), nT b ≤ n → nT b < N → Rt b → WT b → ∀ (t a : Tm) (v : V), BT t v → t.kids = [a, b] → ∀ acc : Str, acc.length + 60 * nT b ≤ 2^40 →
    ∃ t' v' a' b' acc', BT t' v' ∧ t'.kids = [a', b'] ∧ isStr b' [46] 2 = false ∧ nT b' ≤ nT b ∧ Rt b' ∧ WT b' ∧ acc' ++ wrR true b' = acc ++ wrR true b ∧ acc'.length + 60 * nT b' ≤ 2^40 ∧
      lw progA L.spec_l28Row_0 ⟨[(1, .p (100000, 0) 0 0), (3, S acc)], [((100000, 0), 4, [v])]⟩ = some (.exit 0, ⟨[(1, .p (100000, 0) 0 0), (3, S acc')], [((100000, 0), 4, [v'])]⟩) := by
  intro n
  induction n with
  | zero => intro b hn; have := nT_pos b; omega
  | succ n ih =>
    intro b hn hbN hr hw t a v hb hk acc hacc
    obtain ⟨τ, vs, rfl, hv⟩ := BT_shape hb
    rw [hk] at hv
    obtain ⟨va, vb, rfl, ha, hb'⟩ := RL_two hv
    have is := l03Is_ok b vb hb' [46] 2
    have ca := BT_cells ha
    have cb := BT_cells hb'
    cases h2 : isStr b [46] 2 with
    | false =>
      refine ⟨t, _, a, b, acc, hb, hk, h2, Nat.le_refl _, hr, hw, rfl, hacc, ?_⟩
      rw [h2] at is
      obtain ⟨τb, vsb, rfl, -⟩ := BT_shape hb'
      rw [lw_eq]
      simp only [go_sem, Nat.reduceAdd, Nat.reduceSub, Nat.reduceMul, Nat.reduceEqDiff, Nat.reduceLeDiff, Nat.reduceBEq, reduceCtorEq, LB.spec_l28Row_0, is]
    | true =>
      rw [h2] at is
      obtain ⟨-, -, a2, b2, hk2⟩ := isStr_of h2
      have hnt := nT_two hk2
      have ra := Rt_kids hr a2 (by rw [hk2]; simp)
      have rb := Rt_kids hr b2 (by rw [hk2]; simp)
      have wa := WT_kids hw a2 (by rw [hk2]; simp)
      have wb := WT_kids hw b2 (by rw [hk2]; simp)
      have hl := held_len true 999 ra
      obtain ⟨t', v', a', b', acc', g1, g2, g3, g4, g5, g6, g7, g8, g9⟩ := ih b2 (by have := nT_pos a2; omega) (by omega) rb wb b a2 vb hb' hk2 (acc ++ [44] ++ held true 999 a2) (by simp only [List.length_append, List.length_cons, List.length_nil]; omega)
      refine ⟨t', v', a', b', acc', g1, g2, g3, by omega, g5, g6, ?_, g8, ?_⟩
      · rw [g7, wrR_pair true h2 hk2]; simp only [List.append_assoc]
      · obtain ⟨τb, vsb, rfl, hvb⟩ := BT_shape hb'
        rw [hk2] at hvb
        obtain ⟨va2, vb2, rfl, ha2, hb2⟩ := RL_two hvb
        have cw2 := hW a2 (by omega) ra wa va2 ha2
        have s1 : binV .add (S acc) (S [44]) = _ := binS_add (by simp only [List.length_cons, List.length_nil]; omega)
        have s2 : binV .add (S (acc ++ [44])) (S (held true 999 a2)) = _ := binS_add (by simp only [List.length_append, List.length_cons, List.length_nil]; omega)
        obtain ⟨τa, vsa, rfl, -⟩ := BT_shape ha2
        obtain ⟨τ2, vs2, rfl, -⟩ := BT_shape hb2
        rw [lw_eq]
        simp only [go_sem, Nat.reduceAdd, Nat.reduceSub, Nat.reduceMul, Nat.reduceEqDiff, Nat.reduceLeDiff, Nat.reduceBEq, reduceCtorEq, LB.spec_l28Row_0, is, cw2, s1, s2]
        exact g9
theorem l28Row_ok (t : Tm) (h2 : isStr t [46] 2 = true) (hN : nT t ≤ 400) (hr : Rt t) (hw : WT t) (hW : ∀ u, nT u < nT t → Rt u → WT u → ∀ v, BT u v → cr progA F.spec_l28Held [v, I 999] = some (S (held true 999 u))) (v : V) (hb : BT t v) :
    cr progA F.spec_l28Row [v] = some (S (wr true t)) := by
  obtain ⟨-, -, a, b, hk⟩ := isStr_of h2
  have hnt := nT_two hk
  have ra := Rt_kids hr a (by rw [hk]; simp)
  have rb := Rt_kids hr b (by rw [hk]; simp)
  have wa := WT_kids hw a (by rw [hk]; simp)
  have wb := WT_kids hw b (by rw [hk]; simp)
  have hl := held_len true 999 ra
  have hpa := nT_pos a
  obtain ⟨t', v', a', b', acc', g1, g2, g3, g4, g5, g6, g7, g8, g9⟩ := l28Row_loop (nT t) (by omega) hW (nT b) b (Nat.le_refl _) (by omega) rb wb t a v hb hk ([91] ++ held true 999 a) (by simp only [List.length_append, List.length_cons, List.length_nil]; omega)
  have hl' := held_len true 999 g5
  rw [wr_pair true h2 hk, ← g7]
  obtain ⟨τ, vs, rfl, hv⟩ := BT_shape hb
  rw [hk] at hv
  obtain ⟨va, vb, rfl, ha, hb'⟩ := RL_two hv
  obtain ⟨τ', vs', rfl, hv'⟩ := BT_shape g1
  rw [g2] at hv'
  obtain ⟨va', vb', rfl, ha', hb2⟩ := RL_two hv'
  have cw1 := hW a (by omega) ra wa va ha
  have cw2 := hW b' (by omega) g5 g6 vb' hb2
  have s1 : binV .add (S [91]) (S (held true 999 a)) = _ := binS_add (by simp only [List.length_cons, List.length_nil]; omega)
  obtain ⟨τa, vsa, rfl, -⟩ := BT_shape ha
  obtain ⟨τb, vsb, rfl, -⟩ := BT_shape hb'
  obtain ⟨τc, vsc, rfl, -⟩ := BT_shape ha'
  obtain ⟨τd, vsd, rfl, -⟩ := BT_shape hb2
  rw [cr_fn pA_spec_l28Row rfl]
  simp only [List.cons_append, List.nil_append] at g9 s1
  cases hn : isAt b' [91, 93] with
  | true =>
    have s2 : binV .add (S acc') (S [93]) = _ := binS_add (by simp only [List.length_cons, List.length_nil]; omega)
    rw [wrR_nil true hn]
    unfold isAt at hn
    rw [Bool.and_eq_true] at hn
    simp only [go_sem, Nat.reduceAdd, Nat.reduceSub, Nat.reduceMul, Nat.reduceEqDiff, Nat.reduceLeDiff, Nat.reduceBEq, reduceCtorEq, A.spec_l28Row, cw1, s1, g9, hn.1, hn.2, s2]
  | false =>
    have s2 : binV .add (S acc') (S [124]) = _ := binS_add (by simp only [List.length_cons, List.length_nil]; omega)
    have s3 : binV .add (S (acc' ++ [124])) (S (held true 999 b')) = _ := binS_add (by simp only [List.length_append, List.length_cons, List.length_nil]; omega)
    have s4 : binV .add (S (acc' ++ [124] ++ held true 999 b')) (S [93]) = _ := binS_add (by simp only [List.length_append, List.length_cons, List.length_nil]; omega)
    have he : acc' ++ ([124] ++ held true 999 b' ++ [93]) = acc' ++ [124] ++ held true 999 b' ++ [93] := by simp only [List.append_assoc]
    rw [wrR_else true hn g3, he]
    unfold isAt at hn
    cases d2 : decide (b'.kind = 2) with
    | false => simp only [go_sem, Nat.reduceAdd, Nat.reduceSub, Nat.reduceMul, Nat.reduceEqDiff, Nat.reduceLeDiff, Nat.reduceBEq, reduceCtorEq, A.spec_l28Row, cw1, s1, g9, d2, s2, cw2, s3, s4]
    | true =>
      rw [d2, Bool.true_and] at hn
      simp only [go_sem, Nat.reduceAdd, Nat.reduceSub, Nat.reduceMul, Nat.reduceEqDiff, Nat.reduceLeDiff, Nat.reduceBEq, reduceCtorEq, A.spec_l28Row, cw1, s1, g9, d2, hn, s2, cw2, s3, s4]
theorem l28Gen_loop (t : Tm) (τ : Bool) (vs : List V) (hv : RL BT t.kids vs) (hlim : t.kids.length ≤ 5) (hks : ∀ u ∈ t.kids, ∀ v, BT u v → cr progA F.spec_l28Held [v, I 999] = some (S (held true 999 u))) (hbd : ∀ u ∈ t.kids, (held true 999 u).length ≤ 30000) (m : Nat) :
    ∀ (i : Nat) (acc : Str), i + m = t.kids.length → 1 ≤ i → acc.length + m * 30001 ≤ 2^40 →
    lw progA L.spec_l28Write_0 ⟨[(1, .p (100000, 0) 0 0), (6, S acc), (7, I i)], [((100000, 0), 4, [.a [I t.kind, S t.name, I t.num, .i τ vs]])]⟩ =
      some (.exit 0, ⟨[(6, S (acc ++ joinTail [44] ((t.kids.drop i).map (held true 999))))], [((100000, 0), 4, [.a [I t.kind, S t.name, I t.num, .i τ vs]])]⟩) := by
  have hn := RL_length hv
  induction m with
  | zero =>
    intro i acc hi h1 h2
    have h : ¬ (i : Int) < t.kids.length := by omega
    rw [List.drop_eq_nil_of_le (by omega), lw_eq]
    simp only [go_sem, Nat.reduceAdd, Nat.reduceSub, Nat.reduceMul, Nat.reduceEqDiff, Nat.reduceLeDiff, Nat.reduceBEq, reduceCtorEq, LB.spec_l28Write_0, hn, h, List.map_nil, joinTail, List.flatten_nil, List.append_nil]
  | succ m ih =>
    intro i acc hi h1 h2
    have h : (i : Int) < t.kids.length := by omega
    have h0 : (0 : Int) < i := by omega
    obtain ⟨u, hu⟩ := get_some' (l := t.kids) (i := i) (by omega)
    have hm := List.mem_of_getElem? hu
    obtain ⟨v, gv, hbt⟩ := RL_get hv hu
    have a1 := fun T => addr_i (τ := τ) (T := T) gv (BT_cells hbt)
    have cc := hks u hm v hbt
    have hl := hbd u hm
    have e1 : w64 ((i : Int) + 1) = ((i + 1 : Nat) : Int) := by rw [w64_id] <;> omega
    have s1 : binV .add (S acc) (S [44]) = _ := binS_add (by simp only [List.length_cons, List.length_nil]; omega)
    have s2 : binV .add (S (acc ++ [44])) (S (held true 999 u)) = _ := binS_add (by simp only [List.length_append, List.length_cons, List.length_nil]; omega)
    have i1 := ih (i + 1) (acc ++ [44] ++ held true 999 u) (by omega) (by omega) (by simp only [List.length_append, List.length_cons, List.length_nil]; omega)
    have he : acc ++ ([44] ++ held true 999 u ++ joinTail [44] ((t.kids.drop (i + 1)).map (held true 999))) = acc ++ [44] ++ held true 999 u ++ joinTail [44] ((t.kids.drop (i + 1)).map (held true 999)) := by simp only [List.append_assoc]
    rw [drop_cons' hu, List.map_cons, joinTail_cons, he]
    obtain ⟨σ1, ws, rfl, -⟩ := BT_shape hbt
    rw [lw_eq]
    simp only [go_sem, Nat.reduceAdd, Nat.reduceSub, Nat.reduceMul, Nat.reduceEqDiff, Nat.reduceLeDiff, Nat.reduceBEq, reduceCtorEq, LB.spec_l28Write_0, hn, h, h0, a1, gv, cc, e1, s1, s2]
    exact i1
theorem l28Gen_first (t : Tm) (τ : Bool) (vs : List V) (hv : RL BT t.kids vs) (hlim : t.kids.length ≤ 5) (h1 : 1 ≤ t.kids.length) (hks : ∀ u ∈ t.kids, ∀ v, BT u v → cr progA F.spec_l28Held [v, I 999] = some (S (held true 999 u))) (hbd : ∀ u ∈ t.kids, (held true 999 u).length ≤ 30000) (acc : Str) (hacc : acc.length ≤ 100000) :
    lw progA L.spec_l28Write_0 ⟨[(1, .p (100000, 0) 0 0), (6, S acc), (7, I 0)], [((100000, 0), 4, [.a [I t.kind, S t.name, I t.num, .i τ vs]])]⟩ =
      some (.exit 0, ⟨[(6, S (acc ++ join (t.kids.map (held true 999)) [44]))], [((100000, 0), 4, [.a [I t.kind, S t.name, I t.num, .i τ vs]])]⟩) := by
  have hn := RL_length hv
  have h : (0 : Int) < t.kids.length := by omega
  obtain ⟨u, hu⟩ := get_some' (l := t.kids) (i := 0) (by omega)
  have hm := List.mem_of_getElem? hu
  obtain ⟨v, gv, hbt⟩ := RL_get hv hu
  have a1 := fun T => addr_i (τ := τ) (T := T) gv (BT_cells hbt)
  have cc := hks u hm v hbt
  have hl := hbd u hm
  have e1 : w64 ((0 : Int) + 1) = ((1 : Nat) : Int) := rfl
  have s2 : binV .add (S acc) (S (held true 999 u)) = _ := binS_add (by omega)
  have i1 := l28Gen_loop t τ vs hv hlim hks hbd (t.kids.length - 1) 1 (acc ++ held true 999 u) (by omega) (by omega) (by simp only [List.length_append]; omega)
  have hd := drop_cons' hu
  rw [List.drop_zero] at hd
  have hj : join (t.kids.map (held true 999)) [44] = held true 999 u ++ joinTail [44] ((t.kids.drop 1).map (held true 999)) := by
    conv => lhs; rw [hd]
    rw [List.map_cons, join_cons']
  rw [hj, ← List.append_assoc]
  simp only [Int.natCast_zero] at a1
  obtain ⟨σ1, ws, rfl, -⟩ := BT_shape hbt
  rw [lw_eq]
  simp only [go_sem, Nat.reduceAdd, Nat.reduceSub, Nat.reduceMul, Nat.reduceEqDiff, Nat.reduceLeDiff, Nat.reduceBEq, reduceCtorEq, LB.spec_l28Write_0, hn, h, a1, gv, cc, e1, s2]
  exact i1
end Go.Vm

set_option autoImplicit false
set_option maxHeartbeats 8000000
set_option maxRecDepth 100000
set_option linter.unusedSimpArgs false
set_option linter.unusedVariables false
namespace Go.Vm
open Go.Lib (itoa join joinTail)
theorem two_two : ((2 : Nat) : Int) = 2 := rfl
theorem prio_inf {t : Tm} : decide (prioOf t ≠ 0) = (decide (t.kind = 4) && (decide ((infixOf t.name).prio ≠ 0) && decide ((t.kids.length : Int) = 2))) := by
  unfold prioOf
  by_cases h1 : t.kind = 4 <;> by_cases h2 : t.kids.length = 2
  · rw [if_pos ⟨h1, h2⟩, decide_eq_true h1, decide_eq_true (show (t.kids.length : Int) = 2 by omega), Bool.true_and, Bool.and_true]
  · rw [if_neg (fun h => h2 h.2), decide_eq_false (show ¬ (t.kids.length : Int) = 2 by omega), Bool.and_false, Bool.and_false]; rfl
  · rw [if_neg (fun h => h1 h.1), decide_eq_false h1, Bool.false_and]; rfl
  · rw [if_neg (fun h => h1 h.1), decide_eq_false h1, Bool.false_and]; rfl
theorem two_of {t : Tm} (h : (t.kids.length : Int) = 2) : ∃ a b, t.kids = [a, b] := by
  have h2 : t.kids.length = 2 := by omega
  rcases hk : t.kids with _ | ⟨x, _ | ⟨y, _ | ⟨z, r⟩⟩⟩ <;> rw [hk] at h2 <;> simp at h2
  exact ⟨x, y, rfl⟩
theorem l07Write_ok' : ∀ (n : Nat) (t : Tm), nT t ≤ n → nT t ≤ 400 → Rt t → WT t → ∀ v, BT t v → cr progA F.spec_l07Write [v] = some (S (held false 999 t)) := by
  intro n
  induction n with
  | zero => intro t hn; have := nT_pos t; omega
  | succ n ih =>
    intro t hn hN hr hw v hb
    rw [held_false]
    have hW : ∀ u, nT u < nT t → Rt u → WT u → ∀ v, BT u v → cr progA F.spec_l07Write [v] = some (S (held false 999 u)) := fun u h1 h2 h3 => ih u (by omega) (by omega) h2 h3
    obtain ⟨hk4, hnm, hnum, hkid, hnok⟩ := okOne_kind (Rt_ok hr)
    have at_ := spec_AtomText_ok t.name (by omega)
    have atl := atomText_len t.name
    have hrow := fun h2 => l07Row_ok t h2 hN hr hw hW v hb
    have is := l03Is_ok t v hb [46] 2
    have inf := spec_InfixOf_ok t.name
    unfold opV at inf
    have op := l07Op_ok t.name
    obtain ⟨τ, vs, rfl, hv⟩ := BT_shape hb
    have hl := RL_length hv
    rw [cr_fn pA_spec_l07Write rfl]
    by_cases k1 : t.kind = 1
    · have d1 : decide (t.kind = 1) = true := decide_eq_true k1
      have hd := hnum (.inr k1)
      have dec := spec_Decimal_ok t.num (by omega) (by omega)
      have := itoa_len t.num (by omega) (by omega)
      have s1 : binV .add (S [95]) (S (itoa t.num)) = _ := binS_add (by simp only [List.length_cons, List.length_nil]; omega)
      rw [wr_var false k1]
      simp only [go_sem, Nat.reduceAdd, Nat.reduceSub, Nat.reduceMul, Nat.reduceEqDiff, Nat.reduceLeDiff, Nat.reduceBEq, reduceCtorEq, A.spec_l07Write, d1, dec, s1]
    have d1 : decide (t.kind = 1) = false := decide_eq_false k1
    by_cases k3 : t.kind = 3
    · have d3 : decide (t.kind = 3) = true := decide_eq_true k3
      have hd := hnum (.inl k3)
      rw [wr_int false k3]
      by_cases hneg : t.num < 0
      · have dec := spec_Decimal_ok (0 - t.num) (by omega) (by omega)
        have := itoa_len (0 - t.num) (by omega) (by omega)
        have e0 : w64 (0 - t.num) = 0 - t.num := by rw [w64_id] <;> omega
        have s1 : binV .add (S [45]) (S (itoa (0 - t.num))) = _ := binS_add (by simp only [List.length_cons, List.length_nil]; omega)
        rw [itoa_neg hneg]
        simp only [go_sem, Nat.reduceAdd, Nat.reduceSub, Nat.reduceMul, Nat.reduceEqDiff, Nat.reduceLeDiff, Nat.reduceBEq, reduceCtorEq, A.spec_l07Write, d1, d3, hneg, e0, dec, s1]
      · have dec := spec_Decimal_ok t.num (by omega) (by omega)
        simp only [go_sem, Nat.reduceAdd, Nat.reduceSub, Nat.reduceMul, Nat.reduceEqDiff, Nat.reduceLeDiff, Nat.reduceBEq, reduceCtorEq, A.spec_l07Write, d1, d3, hneg, dec]
    have d3 : decide (t.kind = 3) = false := decide_eq_false k3
    by_cases k2 : t.kind = 2
    · have d2 : decide (t.kind = 2) = true := decide_eq_true k2
      rw [wr_atom false k2]
      by_cases hnil : t.name = [91, 93]
      · have dn : decide (t.name = [91, 93]) = true := decide_eq_true hnil
        rw [if_pos hnil]
        simp only [go_sem, Nat.reduceAdd, Nat.reduceSub, Nat.reduceMul, Nat.reduceEqDiff, Nat.reduceLeDiff, Nat.reduceBEq, reduceCtorEq, A.spec_l07Write, d1, d3, d2, dn]
      have dn : decide (t.name = [91, 93]) = false := decide_eq_false hnil
      rw [if_neg hnil]
      cases ho : isOp t.name with
      | true =>
        rw [ho] at op
        have s1 : binV .add (S [40]) (S (atomText t.name)) = _ := binS_add (by simp only [List.length_cons, List.length_nil]; omega)
        have s2 : binV .add (S ([40] ++ atomText t.name)) (S [41]) = _ := binS_add (by simp only [List.length_append, List.length_cons, List.length_nil]; omega)
        simp only [List.cons_append, List.nil_append] at s1 s2
        rw [if_pos rfl]
        simp only [go_sem, Nat.reduceAdd, Nat.reduceSub, Nat.reduceMul, Nat.reduceEqDiff, Nat.reduceLeDiff, Nat.reduceBEq, reduceCtorEq, A.spec_l07Write, d1, d3, d2, dn, op, at_, s1, s2]
      | false =>
        rw [ho] at op
        rw [if_neg (by decide)]
        simp only [go_sem, Nat.reduceAdd, Nat.reduceSub, Nat.reduceMul, Nat.reduceEqDiff, Nat.reduceLeDiff, Nat.reduceBEq, reduceCtorEq, A.spec_l07Write, d1, d3, d2, dn, op, at_]
    have d2 : decide (t.kind = 2) = false := decide_eq_false k2
    have k4 : t.kind = 4 := by rcases hk4 with h | h | h | h <;> first | exact h | contradiction
    have d4 : decide (t.kind = 4) = true := decide_eq_true k4
    cases hp : isStr t [46] 2 with
    | true =>
      have hrw := hrow hp
      rw [hp] at is
      simp only [go_sem, Nat.reduceAdd, Nat.reduceSub, Nat.reduceMul, Nat.reduceEqDiff, Nat.reduceLeDiff, Nat.reduceBEq, reduceCtorEq, A.spec_l07Write, d1, d3, d2, is, hrw]
    | false =>
    rw [hp] at is
    have pi := prio_inf (t := t)
    rw [d4, Bool.true_and] at pi
    have hkl := (hkid k4).2
    have h1k := (hkid k4).1
    have hks : ∀ u ∈ t.kids, ∀ v, BT u v → cr progA F.spec_l07Write [v] = some (S (held false 999 u)) := fun u hu => hW u (by have := nT_kids t; have := nTs_mem hu; omega) (Rt_kids hr u hu) (WT_kids hw u hu)
    have hbd : ∀ u ∈ t.kids, (held false 999 u).length ≤ 30000 := fun u hu => by
      have h1 := held_len false 999 (Rt_kids hr u hu)
      have := nT_kids t; have := nTs_mem hu; omega
    have gen : prioOf t = 0 → ∃ acc', join (t.kids.map (held false 999)) [44] = acc' ∧ acc'.length ≤ 200000 ∧ binV .add (S (atomText t.name)) (S [40]) = some (S (atomText t.name ++ [40])) ∧ binV .add (S (atomText t.name ++ [40] ++ acc')) (S [41]) = some (S (wr false t)) := by
      intro h0
      have hw' := wr_gen false k4 hp h0
      have hlen := (Rt_len false hr).1
      have hL : (join (t.kids.map (held false 999)) [44]).length ≤ 200000 := by
        rw [hw'] at hlen
        simp only [List.length_append] at hlen
        omega
      refine ⟨_, rfl, hL, binS_add (by simp only [List.length_cons, List.length_nil]; omega), ?_⟩
      rw [hw']
      exact binS_add (by simp only [List.length_append, List.length_cons, List.length_nil]; omega)
    have first := l07Gen_first t τ vs hv hkl h1k hks hbd (atomText t.name ++ [40]) (by simp only [List.length_append, List.length_cons, List.length_nil]; omega)
    by_cases hi : (infixOf t.name).prio ≠ 0
    · have di : decide ((infixOf t.name).prio ≠ 0) = true := decide_eq_true hi
      rw [di] at inf pi
      by_cases h2 : (t.kids.length : Int) = 2
      · have d22 : decide ((t.kids.length : Int) = 2) = true := decide_eq_true h2
        obtain ⟨a, b, hk⟩ := two_of h2
        have hnt := nT_two hk
        have ha0 := hks a (by rw [hk]; simp)
        have hb0 := hks b (by rw [hk]; simp)
        have hla := hbd a (by rw [hk]; simp)
        have hlb := hbd b (by rw [hk]; simp)
        rw [hk] at hv
        obtain ⟨va, vb, rfl, hva, hvb⟩ := RL_two hv
        have ca := ha0 va hva
        have cb := hb0 vb hvb
        rw [held_false] at ca cb hla hlb
        obtain ⟨τa, vsa, rfl, -⟩ := BT_shape hva
        obtain ⟨τb, vsb, rfl, -⟩ := BT_shape hvb
        rw [wr_inf false k4 hk hi]
        have hst := signText_len t.name
        have s1 : binV .add (S [40]) (S (wr false a)) = _ := binS_add (by simp only [List.length_cons, List.length_nil]; omega)
        have s2 : binV .add (S ([40] ++ wr false a)) (S [32]) = _ := binS_add (by simp only [List.length_append, List.length_cons, List.length_nil]; omega)
        have s3 : binV .add (S ([40] ++ wr false a ++ [32])) (S (signText t.name)) = _ := binS_add (by simp only [List.length_append, List.length_cons, List.length_nil]; omega)
        have s4 : binV .add (S ([40] ++ wr false a ++ [32] ++ signText t.name)) (S [32]) = _ := binS_add (by simp only [List.length_append, List.length_cons, List.length_nil]; omega)
        have s5 : binV .add (S ([40] ++ wr false a ++ [32] ++ signText t.name ++ [32])) (S (wr false b)) = _ := binS_add (by simp only [List.length_append, List.length_cons, List.length_nil]; omega)
        have s6 : binV .add (S ([40] ++ wr false a ++ [32] ++ signText t.name ++ [32] ++ wr false b)) (S [41]) = _ := binS_add (by simp only [List.length_append, List.length_cons, List.length_nil]; omega)
        unfold infW
        rw [if_neg (by decide)]
        show _ = some (S ([40] ++ wr false a ++ [32] ++ signText t.name ++ [32] ++ wr false b ++ [41]))
        have hz : ¬ (infixOf t.name).prio = 0 := hi
        rw [hk] at hl
        by_cases hc : t.name = [44]
        · have dc : decide (t.name = [44]) = true := decide_eq_true hc
          unfold signText at s3 s4 s5 s6 ⊢
          rw [if_pos hc] at s3 s4 s5 s6 ⊢
          simp only [List.cons_append, List.nil_append] at s1 s2 s3 s4 s5 s6 ⊢
          simp only [go_sem, Nat.reduceAdd, Nat.reduceSub, Nat.reduceMul, Nat.reduceEqDiff, Nat.reduceLeDiff, Nat.reduceBEq, reduceCtorEq, A.spec_l07Write, d1, d3, d2, is, inf, hz, two_two, at_, dc, ca, cb, s1, s2, s3, s4, s5, s6, List.length_cons, List.length_nil]
        · have dc : decide (t.name = [44]) = false := decide_eq_false hc
          unfold signText at s3 s4 s5 s6 ⊢
          rw [if_neg hc] at s3 s4 s5 s6 ⊢
          simp only [List.cons_append, List.nil_append] at s1 s2 s3 s4 s5 s6 ⊢
          simp only [go_sem, Nat.reduceAdd, Nat.reduceSub, Nat.reduceMul, Nat.reduceEqDiff, Nat.reduceLeDiff, Nat.reduceBEq, reduceCtorEq, A.spec_l07Write, d1, d3, d2, is, inf, hz, two_two, at_, dc, ca, cb, s1, s2, s3, s4, s5, s6, List.length_cons, List.length_nil]
      · have d22 : decide ((t.kids.length : Int) = 2) = false := decide_eq_false h2
        rw [d22] at pi
        have h0 : prioOf t = 0 := by simpa using pi
        obtain ⟨acc', g1, g2, g3, g4⟩ := gen h0
        rw [g1] at first
        have hz : ¬ (infixOf t.name).prio = 0 := hi
        simp only [go_sem, Nat.reduceAdd, Nat.reduceSub, Nat.reduceMul, Nat.reduceEqDiff, Nat.reduceLeDiff, Nat.reduceBEq, reduceCtorEq, A.spec_l07Write, d1, d3, d2, is, inf, hz, d22, hl, at_, g3, first, g4]
    · have di : decide ((infixOf t.name).prio ≠ 0) = false := decide_eq_false hi
      rw [di] at inf pi
      have h0 : prioOf t = 0 := by simpa using pi
      obtain ⟨acc', g1, g2, g3, g4⟩ := gen h0
      rw [g1] at first
      have hz : (infixOf t.name).prio = 0 := by simpa using hi
      simp only [go_sem, Nat.reduceAdd, Nat.reduceSub, Nat.reduceMul, Nat.reduceEqDiff, Nat.reduceLeDiff, Nat.reduceBEq, reduceCtorEq, A.spec_l07Write, d1, d3, d2, is, inf, hz, hl, at_, g3, first, g4]
theorem l07Write_ok (t : Tm) (hN : nT t ≤ 400) (hr : Rt t) (hw : WT t) (v : V) (hb : BT t v) : cr progA F.spec_l07Write [v] = some (S (wr false t)) := by
  rw [l07Write_ok' (nT t) t (Nat.le_refl _) hN hr hw v hb, held_false]
end Go.Vm

set_option autoImplicit false
set_option maxHeartbeats 8000000
set_option maxRecDepth 100000
set_option linter.unusedSimpArgs false
set_option linter.unusedVariables false
namespace Go.Vm
open Go.Lib (itoa join joinTail)
/-! ### the program's writer, with a writer of kids and one of infix terms -/
theorem wwRest_loop (p : Bool) (gk : Nat) (N : Nat) (hN : N ≤ 401) (hW : ∀ u, nT u < N → Rt u → WT u → ∀ v, BT u v → cr progA gk [v] = some (S (held p 999 u))) :
    ∀ (n : Nat) (b : Tm), nT b ≤ n → nT b < N → Rt b → WT b → ∀ (v : V), BT b v → ∀ acc : Str, acc.length + 60 * nT b ≤ 2^40 →
    ∃ b' v' acc', BT b' v' ∧ isStr b' [46] 2 = false ∧ nT b' ≤ nT b ∧ Rt b' ∧ WT b' ∧ acc' ++ wrR p b' = acc ++ wrR p b ∧ acc'.length + 60 * nT b' ≤ 2^40 ∧
      lw progA L.impl_writeWith_1 ⟨[(1, Fc gk), (7, S acc), (8, .p (100000, 0) 0 0)], [((100000, 0), 4, [v])]⟩ = some (.exit 1, ⟨[(1, Fc gk), (7, S acc'), (8, .p (100000, 0) 0 0)], [((100000, 0), 4, [v'])]⟩) := by
  intro n
  induction n with
  | zero => intro b hn; have := nT_pos b; omega
  | succ n ih =>
    intro b hn hbN hr hw v hb acc hacc
    have is := impl_isPair_ok b v hb
    cases h2 : isStr b [46] 2 with
    | false =>
      refine ⟨b, v, acc, hb, h2, Nat.le_refl _, hr, hw, rfl, hacc, ?_⟩
      rw [h2] at is
      obtain ⟨τb, vsb, rfl, -⟩ := BT_shape hb
      rw [lw_eq]
      simp only [go_sem, Nat.reduceAdd, Nat.reduceSub, Nat.reduceMul, Nat.reduceEqDiff, Nat.reduceLeDiff, Nat.reduceBEq, reduceCtorEq, LB.impl_writeWith_1, is]
    | true =>
      rw [h2] at is
      obtain ⟨-, -, a2, b2, hk2⟩ := isStr_of h2
      have hnt := nT_two hk2
      have ra := Rt_kids hr a2 (by rw [hk2]; simp)
      have rb := Rt_kids hr b2 (by rw [hk2]; simp)
      have wa := WT_kids hw a2 (by rw [hk2]; simp)
      have wb := WT_kids hw b2 (by rw [hk2]; simp)
      have hl := held_len p 999 ra
      obtain ⟨τb, vsb, rfl, hvb⟩ := BT_shape hb
      rw [hk2] at hvb
      obtain ⟨va2, vb2, rfl, ha2, hb2⟩ := RL_two hvb
      obtain ⟨b', v', acc', g1, g3, g4, g5, g6, g7, g8, g9⟩ := ih b2 (by have := nT_pos a2; omega) (by omega) rb wb vb2 hb2 (acc ++ ([44] ++ held p 999 a2)) (by simp only [List.length_append, List.length_cons, List.length_nil]; omega)
      refine ⟨b', v', acc', g1, g3, by omega, g5, g6, ?_, g8, ?_⟩
      · rw [g7, wrR_pair p h2 hk2]; simp only [List.append_assoc]
      · have cw2 := hW a2 (by omega) ra wa va2 ha2
        have s1 : binV .add (S [44]) (S (held p 999 a2)) = _ := binS_add (by simp only [List.length_cons, List.length_nil]; omega)
        have s2 : binV .add (S acc) (S ([44] ++ held p 999 a2)) = _ := binS_add (by simp only [List.length_append, List.length_cons, List.length_nil]; omega)
        simp only [List.cons_append, List.nil_append] at s1 s2 g9
        obtain ⟨τa, vsa, rfl, -⟩ := BT_shape ha2
        obtain ⟨τ2, vs2, rfl, -⟩ := BT_shape hb2
        rw [lw_eq]
        simp only [go_sem, Nat.reduceAdd, Nat.reduceSub, Nat.reduceMul, Nat.reduceEqDiff, Nat.reduceLeDiff, Nat.reduceBEq, reduceCtorEq, LB.impl_writeWith_1, is, cw2, s1, s2]
        exact g9
theorem wwKids_loop (p : Bool) (gk : Nat) (t : Tm) (τ : Bool) (vs : List V) (hv : RL BT t.kids vs) (hlim : t.kids.length ≤ 5) (hks : ∀ u ∈ t.kids, ∀ v, BT u v → cr progA gk [v] = some (S (held p 999 u))) (m : Nat) :
    ∀ (i : Nat) (acc : List Str), i + m = t.kids.length → acc.length = i →
    lw progA L.impl_writeWith_0 ⟨[(1, Fc gk), (3, .p (100000, 0) 0 0), (9, .s (100000, 1) 0 acc.length), (98, .i τ vs), (99, I t.kids.length), (100, I i)], [((100000, 0), 4, [.a [I t.kind, S t.name, I t.num, .i τ vs]]), ((100000, 1), 1, acc.map S)]⟩ =
      some (.exit 3, ⟨[(3, .p (100000, 0) 0 0), (9, .s (100000, 1) 0 (acc.length + ((t.kids.drop i).map (held p 999)).length))], [((100000, 0), 4, [.a [I t.kind, S t.name, I t.num, .i τ vs]]), ((100000, 1), 1, (acc ++ (t.kids.drop i).map (held p 999)).map S)]⟩) := by
  have hn := RL_length hv
  induction m with
  | zero =>
    intro i acc hi ha
    have h : ¬ (i : Int) < t.kids.length := by omega
    rw [List.drop_eq_nil_of_le (by omega), List.map_nil, List.append_nil, List.length_nil, Nat.add_zero, lw_eq]
    simp only [go_sem, Nat.reduceAdd, Nat.reduceSub, Nat.reduceMul, Nat.reduceEqDiff, Nat.reduceLeDiff, Nat.reduceBEq, reduceCtorEq, LB.impl_writeWith_0, hn, h]
  | succ m ih =>
    intro i acc hi ha
    have h : (i : Int) < t.kids.length := by omega
    obtain ⟨u, hu⟩ := get_some' (l := t.kids) (i := i) (by omega)
    have hm := List.mem_of_getElem? hu
    obtain ⟨v, gv, hbt⟩ := RL_get hv hu
    have a1 := fun T => addr_i (τ := τ) (T := T) gv (BT_cells hbt)
    have cc := hks u hm v hbt
    have e1 : w64 ((i : Int) + 1) = ((i + 1 : Nat) : Int) := by rw [w64_id] <;> omega
    have l1 : decide ((acc.length + 1) * 16 ≤ lim) = true := decide_eq_true (by rw [lim_val]; omega)
    have l2 : decide (acc.length + 1 ≤ lim) = true := decide_eq_true (by rw [lim_val]; omega)
    have i1 := ih (i + 1) (acc ++ [held p 999 u]) (by omega) (by simp only [List.length_append, List.length_cons, List.length_nil]; omega)
    have ea : acc.length + (((t.kids.drop (i + 1)).map (held p 999)).length + 1) = acc.length + 1 + ((t.kids.drop (i + 1)).map (held p 999)).length := by omega
    rw [List.append_assoc, List.singleton_append, List.length_append, List.length_cons, List.length_nil, Nat.zero_add] at i1
    rw [drop_cons' hu, List.map_cons, List.length_cons, ea]
    obtain ⟨σ1, ws, rfl, -⟩ := BT_shape hbt
    rw [lw_eq]
    simp only [go_sem, Nat.reduceAdd, Nat.reduceSub, Nat.reduceMul, Nat.reduceEqDiff, Nat.reduceLeDiff, Nat.reduceBEq, reduceCtorEq, LB.impl_writeWith_0, hn, h, a1, gv, cc, e1, l1, l2, List.length_cons, List.length_nil]
    simp only [List.length_map] at i1 ⊢
    exact i1
theorem writeWith_ok (p : Bool) (gk gi : Nat) (t : Tm) (hN : nT t ≤ 400) (hr : Rt t) (hw : WT t)
    (hW : ∀ u, nT u < nT t → Rt u → WT u → ∀ v, BT u v → cr progA gk [v] = some (S (held p 999 u)))
    (hI : ∀ a b, t.kind = 4 → t.kids = [a, b] → (infixOf t.name).prio ≠ 0 → ∀ v, BT t v → cr progA gi [v] = some (S (infW p t.name (wk p a) (wk p b)))) (v : V) (hb : BT t v) :
    cr progA F.impl_writeWith [v, Fc gk, Fc gi] = some (S (wr p t)) := by
  obtain ⟨hk4, hnm, hnum, hkid, hnok⟩ := okOne_kind (Rt_ok hr)
  have at_ := impl_AtomText_ok t.name (by omega)
  have atl := atomText_len t.name
  have ia := impl_isAtom_ok t v hb [91, 93]
  have is := impl_isPair_ok t v hb
  have inf := impl_isInfix_ok t v hb
  have op := impl_isOp_ok t.name
  have hgi := fun a b h1 h2 h3 => hI a b h1 h2 h3 v hb
  obtain ⟨τ, vs, rfl, hv⟩ := BT_shape hb
  have hl := RL_length hv
  rw [cr_fn pA_impl_writeWith rfl]
  by_cases k1 : t.kind = 1
  · have d1 : decide (t.kind = 1) = true := decide_eq_true k1
    have hd := hnum (.inr k1)
    have dec := impl_Decimal_ok t.num (by omega) (by omega)
    have := itoa_len t.num (by omega) (by omega)
    have s1 : binV .add (S [95]) (S (itoa t.num)) = _ := binS_add (by simp only [List.length_cons, List.length_nil]; omega)
    rw [wr_var p k1]
    simp only [go_sem, Nat.reduceAdd, Nat.reduceSub, Nat.reduceMul, Nat.reduceEqDiff, Nat.reduceLeDiff, Nat.reduceBEq, reduceCtorEq, A.impl_writeWith, d1, dec, s1]
  have d1 : decide (t.kind = 1) = false := decide_eq_false k1
  by_cases k3 : t.kind = 3
  · have d3 : decide (t.kind = 3) = true := decide_eq_true k3
    have hd := hnum (.inl k3)
    have dec := impl_Decimal_ok t.num (by omega) (by omega)
    rw [wr_int p k3]
    simp only [go_sem, Nat.reduceAdd, Nat.reduceSub, Nat.reduceMul, Nat.reduceEqDiff, Nat.reduceLeDiff, Nat.reduceBEq, reduceCtorEq, A.impl_writeWith, d1, d3, dec]
  have d3 : decide (t.kind = 3) = false := decide_eq_false k3
  by_cases k2 : t.kind = 2
  · have d2 : decide (t.kind = 2) = true := decide_eq_true k2
    unfold isAt at ia
    rw [d2, Bool.true_and] at ia
    rw [wr_atom p k2]
    by_cases hnil : t.name = [91, 93]
    · rw [decide_eq_true hnil] at ia
      rw [if_pos hnil]
      simp only [go_sem, Nat.reduceAdd, Nat.reduceSub, Nat.reduceMul, Nat.reduceEqDiff, Nat.reduceLeDiff, Nat.reduceBEq, reduceCtorEq, A.impl_writeWith, d1, d3, ia]
    rw [decide_eq_false hnil] at ia
    rw [if_neg hnil]
    cases ho : isOp t.name with
    | true =>
      rw [ho] at op
      have s1 : binV .add (S [40]) (S (atomText t.name)) = _ := binS_add (by simp only [List.length_cons, List.length_nil]; omega)
      have s2 : binV .add (S ([40] ++ atomText t.name)) (S [41]) = _ := binS_add (by simp only [List.length_append, List.length_cons, List.length_nil]; omega)
      simp only [List.cons_append, List.nil_append] at s1 s2
      rw [if_pos rfl]
      simp only [go_sem, Nat.reduceAdd, Nat.reduceSub, Nat.reduceMul, Nat.reduceEqDiff, Nat.reduceLeDiff, Nat.reduceBEq, reduceCtorEq, A.impl_writeWith, d1, d3, ia, d2, op, at_, s1, s2]
    | false =>
      rw [ho] at op
      rw [if_neg (by decide)]
      simp only [go_sem, Nat.reduceAdd, Nat.reduceSub, Nat.reduceMul, Nat.reduceEqDiff, Nat.reduceLeDiff, Nat.reduceBEq, reduceCtorEq, A.impl_writeWith, d1, d3, ia, d2, op, at_]
  have d2 : decide (t.kind = 2) = false := decide_eq_false k2
  have k4 : t.kind = 4 := by rcases hk4 with h | h | h | h <;> first | exact h | contradiction
  have d4 : decide (t.kind = 4) = true := decide_eq_true k4
  unfold isAt at ia
  rw [d2, Bool.false_and] at ia
  have hlen := (Rt_len p hr).1
  cases hp : isStr t [46] 2 with
  | true =>
    rw [hp] at is
    obtain ⟨-, -, a, b, hk⟩ := isStr_of hp
    have hnt := nT_two hk
    have ra := Rt_kids hr a (by rw [hk]; simp)
    have rb := Rt_kids hr b (by rw [hk]; simp)
    have wa := WT_kids hw a (by rw [hk]; simp)
    have wb := WT_kids hw b (by rw [hk]; simp)
    have hla := held_len p 999 ra
    have hpa := nT_pos a
    rw [hk] at hv
    obtain ⟨va, vb, rfl, ha, hb'⟩ := RL_two hv
    obtain ⟨b', v', acc', g1, g3, g4, g5, g6, g7, g8, g9⟩ := wwRest_loop p gk (nT t) (by omega) hW (nT b) b (Nat.le_refl _) (by omega) rb wb vb hb' ([91] ++ held p 999 a) (by simp only [List.length_append, List.length_cons, List.length_nil]; omega)
    have hl' := held_len p 999 g5
    rw [wr_pair p hp hk, ← g7]
    have ia2 := impl_isAtom_ok b' v' g1 [91, 93]
    have cw1 := hW a (by omega) ra wa va ha
    have cw2 := hW b' (by omega) g5 g6 v' g1
    have s1 : binV .add (S [91]) (S (held p 999 a)) = _ := binS_add (by simp only [List.length_cons, List.length_nil]; omega)
    obtain ⟨τa, vsa, rfl, -⟩ := BT_shape ha
    obtain ⟨τb, vsb, rfl, -⟩ := BT_shape hb'
    obtain ⟨τd, vsd, rfl, -⟩ := BT_shape g1
    simp only [List.cons_append, List.nil_append] at g9 s1
    cases hn : isAt b' [91, 93] with
    | true =>
      have s2 : binV .add (S acc') (S [93]) = _ := binS_add (by simp only [List.length_cons, List.length_nil]; omega)
      rw [wrR_nil p hn]
      rw [hn] at ia2
      simp only [go_sem, Nat.reduceAdd, Nat.reduceSub, Nat.reduceMul, Nat.reduceEqDiff, Nat.reduceLeDiff, Nat.reduceBEq, reduceCtorEq, A.impl_writeWith, d1, d3, ia, d2, is, cw1, s1, g9, ia2, s2]
    | false =>
      have s2 : binV .add (S [124]) (S (held p 999 b')) = _ := binS_add (by simp only [List.length_cons, List.length_nil]; omega)
      have s3 : binV .add (S acc') (S ([124] ++ held p 999 b')) = _ := binS_add (by simp only [List.length_append, List.length_cons, List.length_nil]; omega)
      have s4 : binV .add (S (acc' ++ ([124] ++ held p 999 b'))) (S [93]) = _ := binS_add (by simp only [List.length_append, List.length_cons, List.length_nil]; omega)
      have he : acc' ++ ([124] ++ held p 999 b' ++ [93]) = acc' ++ ([124] ++ held p 999 b') ++ [93] := by simp only [List.append_assoc]
      rw [wrR_else p hn g3, he]
      rw [hn] at ia2
      simp only [List.cons_append, List.nil_append] at s2 s3 s4 ⊢
      simp only [go_sem, Nat.reduceAdd, Nat.reduceSub, Nat.reduceMul, Nat.reduceEqDiff, Nat.reduceLeDiff, Nat.reduceBEq, reduceCtorEq, A.impl_writeWith, d1, d3, ia, d2, is, cw1, s1, g9, ia2, s2, cw2, s3, s4]
  | false =>
  rw [hp] at is
  have pi := prio_inf (t := t)
  rw [d4, Bool.true_and] at pi
  have hkl := (hkid k4).2
  have h1k := (hkid k4).1
  by_cases h0 : prioOf t = 0
  · rw [decide_eq_false (show ¬ prioOf t ≠ 0 from fun h => h h0)] at inf
    have hks : ∀ u ∈ t.kids, ∀ v, BT u v → cr progA gk [v] = some (S (held p 999 u)) := fun u hu => hW u (by have := nT_kids t; have := nTs_mem hu; omega) (Rt_kids hr u hu) (WT_kids hw u hu)
    have lp := wwKids_loop p gk t τ vs hv hkl hks t.kids.length 0 [] (by omega) rfl
    simp only [List.drop_zero, List.length_nil, Nat.zero_add, List.map_nil, List.nil_append, Int.natCast_zero] at lp
    have hw' := wr_gen p k4 hp h0
    have hL : (join (t.kids.map (held p 999)) [44]).length ≤ 200000 := by
      rw [hw'] at hlen
      simp only [List.length_append] at hlen
      omega
    have jn := cr_join pA_strings_Join true (t.kids.map (held p 999)) [44] (by rw [List.length_map]; omega) (by omega)
    have s1 : binV .add (S (atomText t.name)) (S [40]) = _ := binS_add (by simp only [List.length_cons, List.length_nil]; omega)
    have s2 : binV .add (S (atomText t.name ++ [40])) (S (join (t.kids.map (held p 999)) [44])) = _ := binS_add (by simp only [List.length_append, List.length_cons, List.length_nil]; omega)
    have s3 : binV .add (S (atomText t.name ++ [40] ++ join (t.kids.map (held p 999)) [44])) (S [41]) = _ := binS_add (by simp only [List.length_append, List.length_cons, List.length_nil]; omega)
    rw [hw']
    simp only [go_sem, Nat.reduceAdd, Nat.reduceSub, Nat.reduceMul, Nat.reduceEqDiff, Nat.reduceLeDiff, Nat.reduceBEq, reduceCtorEq, A.impl_writeWith, d1, d3, ia, d2, is, inf, hl, lp, at_, jn, s1, s2, s3]
  · rw [decide_eq_true h0] at inf
    have hc : t.kind = 4 ∧ t.kids.length = 2 := by
      unfold prioOf at h0
      by_cases hc : t.kind = 4 ∧ t.kids.length = 2
      · exact hc
      · rw [if_neg hc] at h0; exact absurd rfl h0
    obtain ⟨a, b, hk⟩ := two_of (t := t) (by omega)
    have hi : (infixOf t.name).prio ≠ 0 := by unfold prioOf at h0; rw [if_pos hc] at h0; exact h0
    have g := hgi a b k4 hk hi
    rw [wr_inf p k4 hk hi]
    simp only [go_sem, Nat.reduceAdd, Nat.reduceSub, Nat.reduceMul, Nat.reduceEqDiff, Nat.reduceLeDiff, Nat.reduceBEq, reduceCtorEq, A.impl_writeWith, d1, d3, ia, d2, is, inf, g]
end Go.Vm

set_option autoImplicit false
set_option maxHeartbeats 8000000
set_option maxRecDepth 100000
set_option linter.unusedSimpArgs false
set_option linter.unusedVariables false
namespace Go.Vm
theorem impl_write_ok' : ∀ (n : Nat) (t : Tm), nT t ≤ n → nT t ≤ 400 → Rt t → WT t → ∀ v, BT t v → cr progA F.impl_write [v] = some (S (wr false t)) := by
  intro n
  induction n with
  | zero => intro t hn; have := nT_pos t; omega
  | succ n ih =>
    intro t hn hN hr hw v hb
    have hW : ∀ u, nT u < nT t → Rt u → WT u → ∀ v, BT u v → cr progA F.impl_write [v] = some (S (wr false u)) := fun u h1 h2 h3 => ih u (by omega) (by omega) h2 h3
    have hI : ∀ a b, t.kind = 4 → t.kids = [a, b] → (infixOf t.name).prio ≠ 0 → ∀ v, BT t v → cr progA F.impl_write_1 [v] = some (S (infW false t.name (wk false a) (wk false b))) := by
      intro a b k4 hk hi v hb
      obtain ⟨-, hnm, -, -, -⟩ := okOne_kind (Rt_ok hr)
      have hnt := nT_two hk
      have ra := Rt_kids hr a (by rw [hk]; simp)
      have rb := Rt_kids hr b (by rw [hk]; simp)
      have hla := (Rt_len false ra).1
      have hlb := (Rt_len false rb).1
      have hpa := nT_pos a
      have hpb := nT_pos b
      have st := impl_signText_ok t.name (by omega)
      have hst := signText_len t.name
      obtain ⟨τ, vs, rfl, hv⟩ := BT_shape hb
      rw [hk] at hv
      obtain ⟨va, vb, rfl, hva, hvb⟩ := RL_two hv
      have ca := hW a (by omega) ra (WT_kids hw a (by rw [hk]; simp)) va hva
      have cb := hW b (by omega) rb (WT_kids hw b (by rw [hk]; simp)) vb hvb
      obtain ⟨τa, vsa, rfl, -⟩ := BT_shape hva
      obtain ⟨τb, vsb, rfl, -⟩ := BT_shape hvb
      have s1 : binV .add (S [40]) (S (wr false a)) = _ := binS_add (by simp only [List.length_cons, List.length_nil]; omega)
      have s2 : binV .add (S ([40] ++ wr false a)) (S [32]) = _ := binS_add (by simp only [List.length_append, List.length_cons, List.length_nil]; omega)
      have s3 : binV .add (S ([40] ++ wr false a ++ [32])) (S (signText t.name)) = _ := binS_add (by simp only [List.length_append, List.length_cons, List.length_nil]; omega)
      have s4 : binV .add (S ([40] ++ wr false a ++ [32] ++ signText t.name)) (S [32]) = _ := binS_add (by simp only [List.length_append, List.length_cons, List.length_nil]; omega)
      have s5 : binV .add (S ([40] ++ wr false a ++ [32] ++ signText t.name ++ [32])) (S (wr false b)) = _ := binS_add (by simp only [List.length_append, List.length_cons, List.length_nil]; omega)
      have s6 : binV .add (S ([40] ++ wr false a ++ [32] ++ signText t.name ++ [32] ++ wr false b)) (S [41]) = _ := binS_add (by simp only [List.length_append, List.length_cons, List.length_nil]; omega)
      unfold infW
      rw [if_neg (by decide)]
      show _ = some (S ([40] ++ wr false a ++ [32] ++ signText t.name ++ [32] ++ wr false b ++ [41]))
      simp only [List.cons_append, List.nil_append] at s1 s2 s3 s4 s5 s6 ⊢
      rw [cr_fn pA_impl_write_1 rfl]
      simp only [go_sem, Nat.reduceAdd, Nat.reduceSub, Nat.reduceMul, Nat.reduceEqDiff, Nat.reduceLeDiff, Nat.reduceBEq, reduceCtorEq, A.impl_write_1, ca, cb, st, s1, s2, s3, s4, s5, s6]
    have g := writeWith_ok false F.impl_write F.impl_write_1 t hN hr hw (fun u h1 h2 h3 v hb => by rw [held_false]; exact hW u h1 h2 h3 v hb) hI v hb
    obtain ⟨τ, vs, rfl, hv⟩ := BT_shape hb
    rw [cr_fn pA_impl_write rfl]
    simp only [go_sem, Nat.reduceAdd, Nat.reduceSub, Nat.reduceMul, Nat.reduceEqDiff, Nat.reduceLeDiff, Nat.reduceBEq, reduceCtorEq, A.impl_write, g]
def writeT (p : Bool) (t : Tm) : Str := if termOk t = true then wr p t else []
theorem termOk_of {t : Tm} (h : termOk t = true) : nT t ≤ 400 ∧ Rt t := by
  unfold termOk at h
  simp only [Bool.and_eq_true, decide_eq_true_eq] at h
  exact ⟨h.1, 1, h.2⟩
theorem writeT_len (p : Bool) (t : Tm) : (writeT p t).length ≤ 24000 := by
  unfold writeT
  split
  · rename_i h
    obtain ⟨h1, h2⟩ := termOk_of h
    have := (Rt_len p h2).1
    omega
  · simp
theorem impl_WriteTerm_ok (t : Tm) (hw : WT t) (v : V) (hb : BT t v) : cr progA F.impl_WriteTerm [v] = some (S (writeT false t)) := by
  have ok := impl_TermOk_ok t hw v hb
  have wt := fun h1 h2 => impl_write_ok' (nT t) t (Nat.le_refl _) h1 h2 hw v hb
  obtain ⟨τ, vs, rfl, hv⟩ := BT_shape hb
  rw [cr_fn pA_impl_WriteTerm rfl]
  unfold writeT
  cases h : termOk t with
  | false => rw [h] at ok; rw [if_neg (by decide)]; simp only [go_sem, Nat.reduceAdd, Nat.reduceSub, Nat.reduceMul, Nat.reduceEqDiff, Nat.reduceLeDiff, Nat.reduceBEq, reduceCtorEq, A.impl_WriteTerm, ok]
  | true =>
    obtain ⟨h1, h2⟩ := termOk_of h
    have g := wt h1 h2
    rw [h] at ok
    rw [if_pos rfl]
    simp only [go_sem, Nat.reduceAdd, Nat.reduceSub, Nat.reduceMul, Nat.reduceEqDiff, Nat.reduceLeDiff, Nat.reduceBEq, reduceCtorEq, A.impl_WriteTerm, ok, g]
theorem spec_WriteTerm_ok (t : Tm) (hw : WT t) (v : V) (hb : BT t v) : cr progA F.spec_WriteTerm [v] = some (S (writeT false t)) := by
  have ok := spec_TermOk_ok t hw v hb
  have wt := fun h1 h2 => l07Write_ok t h1 h2 hw v hb
  obtain ⟨τ, vs, rfl, hv⟩ := BT_shape hb
  rw [cr_fn pA_spec_WriteTerm rfl]
  unfold writeT
  cases h : termOk t with
  | false => rw [h] at ok; rw [if_neg (by decide)]; simp only [go_sem, Nat.reduceAdd, Nat.reduceSub, Nat.reduceMul, Nat.reduceEqDiff, Nat.reduceLeDiff, Nat.reduceBEq, reduceCtorEq, A.spec_WriteTerm, ok]
  | true =>
    obtain ⟨h1, h2⟩ := termOk_of h
    have g := wt h1 h2
    rw [h] at ok
    rw [if_pos rfl]
    simp only [go_sem, Nat.reduceAdd, Nat.reduceSub, Nat.reduceMul, Nat.reduceEqDiff, Nat.reduceLeDiff, Nat.reduceBEq, reduceCtorEq, A.spec_WriteTerm, ok, g]
/-! clauses -/
def showClause (c : Cl) : Str := (if isAt c.body [116, 114, 117, 101] = true then writeT false c.head else writeT false c.head ++ ([32, 58, 45, 32] ++ writeT false c.body)) ++ [46, 10]
theorem showClause_len (c : Cl) : (showClause c).length ≤ 50000 := by
  have h1 := writeT_len false c.head
  have h2 := writeT_len false c.body
  unfold showClause
  split <;> simp only [List.length_append, List.length_cons, List.length_nil] <;> omega
theorem impl_ShowClause_ok (c : Cl) (hw : wCl c) (v : V) (h : bCl c v) : cr progA F.impl_ShowClause [v] = some (S (showClause c)) := by
  obtain ⟨τ0, vs0, τ1, vs1, rfl, h0, h1⟩ := h
  have w1 := impl_WriteTerm_ok c.head hw.1.1 _ (BT_of (τ := τ0) h0)
  have w2 := impl_WriteTerm_ok c.body hw.2.1.1 _ (BT_of (τ := τ1) h1)
  have ia := impl_isAtom_ok c.body _ (BT_of (τ := τ1) h1) [116, 114, 117, 101]
  have l1 := writeT_len false c.head
  have l2 := writeT_len false c.body
  have s1 : binV .add (S [32, 58, 45, 32]) (S (writeT false c.body)) = _ := binS_add (by simp only [List.length_cons, List.length_nil]; omega)
  have s2 : binV .add (S (writeT false c.head)) (S ([32, 58, 45, 32] ++ writeT false c.body)) = _ := binS_add (by simp only [List.length_append, List.length_cons, List.length_nil]; omega)
  have s3 : binV .add (S (writeT false c.head ++ ([32, 58, 45, 32] ++ writeT false c.body))) (S [46, 10]) = _ := binS_add (by simp only [List.length_append, List.length_cons, List.length_nil]; omega)
  have s4 : binV .add (S (writeT false c.head)) (S [46, 10]) = _ := binS_add (by simp only [List.length_cons, List.length_nil]; omega)
  rw [cr_fn pA_impl_ShowClause rfl]
  unfold showClause
  simp only [List.cons_append, List.nil_append] at s1 s2 s3 s4 ⊢
  cases hi : isAt c.body [116, 114, 117, 101] with
  | true => rw [hi] at ia; rw [if_pos rfl]; simp only [go_sem, Nat.reduceAdd, Nat.reduceSub, Nat.reduceMul, Nat.reduceEqDiff, Nat.reduceLeDiff, Nat.reduceBEq, reduceCtorEq, A.impl_ShowClause, w1, ia, s4]
  | false => rw [hi] at ia; rw [if_neg (by decide)]; simp only [go_sem, Nat.reduceAdd, Nat.reduceSub, Nat.reduceMul, Nat.reduceEqDiff, Nat.reduceLeDiff, Nat.reduceBEq, reduceCtorEq, A.impl_ShowClause, w1, ia, w2, s1, s2, s3]
theorem spec_ShowClause_ok (c : Cl) (hw : wCl c) (v : V) (h : bCl c v) : cr progA F.spec_ShowClause [v] = some (S (showClause c)) := by
  obtain ⟨τ0, vs0, τ1, vs1, rfl, h0, h1⟩ := h
  have w1 := spec_WriteTerm_ok c.head hw.1.1 _ (BT_of (τ := τ0) h0)
  have w2 := spec_WriteTerm_ok c.body hw.2.1.1 _ (BT_of (τ := τ1) h1)
  have l1 := writeT_len false c.head
  have l2 := writeT_len false c.body
  have s1 : binV .add (S (writeT false c.head)) (S [32, 58, 45, 32]) = _ := binS_add (by simp only [List.length_cons, List.length_nil]; omega)
  have s2 : binV .add (S (writeT false c.head ++ [32, 58, 45, 32])) (S (writeT false c.body)) = _ := binS_add (by simp only [List.length_append, List.length_cons, List.length_nil]; omega)
  have s3 : binV .add (S (writeT false c.head ++ [32, 58, 45, 32] ++ writeT false c.body)) (S [46, 10]) = _ := binS_add (by simp only [List.length_append, List.length_cons, List.length_nil]; omega)
  have s4 : binV .add (S (writeT false c.head)) (S [46, 10]) = _ := binS_add (by simp only [List.length_cons, List.length_nil]; omega)
  rw [cr_fn pA_spec_ShowClause rfl]
  unfold showClause isAt
  rw [← List.append_assoc]
  cases d1 : decide (c.body.kind = 2) with
  | false => rw [Bool.false_and, if_neg (by decide)]; simp only [go_sem, Nat.reduceAdd, Nat.reduceSub, Nat.reduceMul, Nat.reduceEqDiff, Nat.reduceLeDiff, Nat.reduceBEq, reduceCtorEq, A.spec_ShowClause, w1, d1, w2, s1, s2, s3]
  | true =>
    cases d2 : decide (c.body.name = [116, 114, 117, 101]) with
    | true => rw [Bool.and_self, if_pos rfl]; simp only [go_sem, Nat.reduceAdd, Nat.reduceSub, Nat.reduceMul, Nat.reduceEqDiff, Nat.reduceLeDiff, Nat.reduceBEq, reduceCtorEq, A.spec_ShowClause, w1, d1, d2, s4]
    | false => rw [Bool.and_false, if_neg (by decide)]; simp only [go_sem, Nat.reduceAdd, Nat.reduceSub, Nat.reduceMul, Nat.reduceEqDiff, Nat.reduceLeDiff, Nat.reduceBEq, reduceCtorEq, A.spec_ShowClause, w1, d1, d2, w2, s1, s2, s3]
end Go.Vm

set_option autoImplicit false
set_option maxRecDepth 100000
set_option linter.unusedSimpArgs false
set_option linter.unusedVariables false
namespace Go.Vm
def linesOf : List Str → Str
  | [] => []
  | s :: ss => s ++ [10] ++ linesOf ss
theorem linesOf_app : ∀ (a b : List Str), linesOf (a ++ b) = linesOf a ++ linesOf b
  | [], b => rfl
  | s :: a, b => by simp only [List.cons_append, linesOf, linesOf_app a b, List.append_assoc]
theorem linesOf_next {ss : List Str} {i : Nat} {s : Str} (h : ss[i]? = some s) : linesOf (ss.take (i + 1)) = linesOf (ss.take i) ++ (s ++ [10]) := by
  rw [List.take_succ_eq_append_getElem (List.getElem?_eq_some_iff.1 h).1, linesOf_app, (List.getElem?_eq_some_iff.1 h).2]
  simp [linesOf]
theorem linesOf_len : ∀ (ss : List Str), (∀ s ∈ ss, s.length ≤ Lm) → (linesOf ss).length ≤ ss.length * (Lm + 1)
  | [], _ => by simp [linesOf]
  | s :: ss, h => by
    have := linesOf_len ss fun t ht => h t (by simp [ht])
    have := h s (by simp)
    simp only [linesOf, List.length_append, List.length_cons, List.length_nil, Nat.add_mul]
    omega
theorem l31Lines_loop (τ : Bool) (ss : List Str) (n : Nat) (hn : ss.length = n) (hlim : n ≤ 2 * Lm) (hw : ∀ s ∈ ss, s.length ≤ Lm) (m : Nat) : ∀ i, i + m = n →
    lw progA L.spec_l31Lines_0 ⟨[(0, .i τ (ss.map S)), (3, S (linesOf (ss.take i))), (4, I i)], []⟩ = some (.exit 0, ⟨[(3, S (linesOf ss))], []⟩) := by
  induction m with
  | zero =>
    intro i hi
    obtain rfl : i = n := by omega
    rw [lw_eq]
    have h1 : ¬ (i : Int) < (i : Int) := by omega
    rw [List.take_of_length_le (Nat.le_of_eq hn)]
    simp only [go_sem, Nat.reduceAdd, Nat.reduceSub, Nat.reduceMul, Nat.reduceEqDiff, Nat.reduceLeDiff, Nat.reduceBEq, reduceCtorEq, LB.spec_l31Lines_0, hn, h1]
  | succ m ih =>
    intro i hi
    rw [lw_eq]
    have hlt : (i : Int) < (n : Int) := by omega
    obtain ⟨t, ht⟩ := get_some' (l := ss) (i := i) (by omega)
    have hb := linesOf_len (ss.take i) fun s hs => hw s (List.mem_of_mem_take hs)
    have hl := hw t (List.mem_of_getElem? ht)
    rw [List.length_take] at hb
    have hb2 : (linesOf (ss.take i)).length ≤ 2 * Lm * (Lm + 1) := Nat.le_trans hb (Nat.mul_le_mul_right _ (by omega))
    unfold Lm at hlim hb2 hl
    have g := getmap (f := S) ht
    have a1 := addr_i (τ := τ) (T := []) (e := 1) g rfl
    have e1 : w64 ((i : Int) + 1) = ((i + 1 : Nat) : Int) := by rw [w64_id] <;> omega
    have s1 : binV .add (S (linesOf (ss.take i))) (S t) = _ := binS_add (by omega)
    have s2 : binV .add (S (linesOf (ss.take i) ++ t)) (S [10]) = _ := binS_add (by simp only [List.length_append, List.length_cons, List.length_nil]; omega)
    have i1 := ih (i + 1) (by omega)
    rw [linesOf_next ht, ← List.append_assoc] at i1
    simp only [go_sem, Nat.reduceAdd, Nat.reduceSub, Nat.reduceMul, Nat.reduceEqDiff, Nat.reduceLeDiff, Nat.reduceBEq, reduceCtorEq, LB.spec_l31Lines_0, hn, hlt, a1, g, e1, s1, s2]
    exact i1
theorem spec_l31Lines_ok (τ : Bool) (ss : List Str) (hlim : ss.length ≤ 2 * Lm) (hw : ∀ s ∈ ss, s.length ≤ Lm) : cr progA F.spec_l31Lines [.i τ (ss.map S)] = some (S (linesOf ss)) := by
  have h := l31Lines_loop τ ss ss.length rfl hlim hw ss.length 0 (by omega)
  simp only [Int.natCast_zero, List.take_zero, linesOf] at h
  rw [cr_fn pA_spec_l31Lines rfl]
  simp only [go_sem, Nat.reduceAdd, Nat.reduceSub, Nat.reduceMul, Nat.reduceEqDiff, Nat.reduceLeDiff, Nat.reduceBEq, reduceCtorEq, A.spec_l31Lines, h]
theorem inLines_loop (τ : Bool) (ss : List Str) (n : Nat) (hn : ss.length = n) (hlim : n ≤ 2 * Lm) (hw : ∀ s ∈ ss, s.length ≤ Lm) (m : Nat) : ∀ i, i + m = n →
    lw progA L.impl_inLines_0 ⟨[(3, S (linesOf (ss.take i))), (6, .i τ (ss.map S)), (7, I n), (8, I i)], []⟩ = some (.exit 0, ⟨[(3, S (linesOf ss))], []⟩) := by
  induction m with
  | zero =>
    intro i hi
    obtain rfl : i = n := by omega
    rw [lw_eq]
    have h1 : ¬ (i : Int) < (i : Int) := by omega
    rw [List.take_of_length_le (Nat.le_of_eq hn)]
    simp only [go_sem, Nat.reduceAdd, Nat.reduceSub, Nat.reduceMul, Nat.reduceEqDiff, Nat.reduceLeDiff, Nat.reduceBEq, reduceCtorEq, LB.impl_inLines_0, hn, h1]
  | succ m ih =>
    intro i hi
    rw [lw_eq]
    have hlt : (i : Int) < (n : Int) := by omega
    obtain ⟨t, ht⟩ := get_some' (l := ss) (i := i) (by omega)
    have hb := linesOf_len (ss.take i) fun s hs => hw s (List.mem_of_mem_take hs)
    have hl := hw t (List.mem_of_getElem? ht)
    rw [List.length_take] at hb
    have hb2 : (linesOf (ss.take i)).length ≤ 2 * Lm * (Lm + 1) := Nat.le_trans hb (Nat.mul_le_mul_right _ (by omega))
    unfold Lm at hlim hb2 hl
    have g := getmap (f := S) ht
    have a1 := addr_i (τ := τ) (T := []) (e := 1) g rfl
    have e1 : w64 ((i : Int) + 1) = ((i + 1 : Nat) : Int) := by rw [w64_id] <;> omega
    have s1 : binV .add (S t) (S [10]) = _ := binS_add (by simp only [List.length_cons, List.length_nil]; omega)
    have s2 : binV .add (S (linesOf (ss.take i))) (S (t ++ [10])) = _ := binS_add (by simp only [List.length_append, List.length_cons, List.length_nil]; omega)
    have i1 := ih (i + 1) (by omega)
    rw [linesOf_next ht] at i1
    simp only [go_sem, Nat.reduceAdd, Nat.reduceSub, Nat.reduceMul, Nat.reduceEqDiff, Nat.reduceLeDiff, Nat.reduceBEq, reduceCtorEq, LB.impl_inLines_0, hn, hlt, a1, g, e1, s1, s2]
    exact i1
theorem impl_inLines_ok (τ : Bool) (ss : List Str) (hlim : ss.length ≤ 2 * Lm) (hw : ∀ s ∈ ss, s.length ≤ Lm) : cr progA F.impl_inLines [.i τ (ss.map S)] = some (S (linesOf ss)) := by
  have h := inLines_loop τ ss ss.length rfl hlim hw ss.length 0 (by omega)
  simp only [Int.natCast_zero, List.take_zero, linesOf] at h
  rw [cr_fn pA_impl_inLines rfl]
  simp only [go_sem, Nat.reduceAdd, Nat.reduceSub, Nat.reduceMul, Nat.reduceEqDiff, Nat.reduceLeDiff, Nat.reduceBEq, reduceCtorEq, A.impl_inLines, h]
theorem cr_true {f : Nat} {xs : List V} (hs : cr progA f xs = some (B true)) : ∃ outs, cw progA f xs = some (B true, outs) := by
  unfold cr at hs
  cases hc : cw progA f xs with
  | none => rw [hc] at hs; cases hs
  | some r => rw [hc] at hs; obtain ⟨a, b⟩ := r; simp only [Option.map_some, Option.some.injEq] at hs; subst hs; exact ⟨b, rfl⟩
end Go.Vm

set_option autoImplicit false
set_option maxHeartbeats 8000000
set_option maxRecDepth 100000
set_option linter.unusedSimpArgs false
set_option linter.unusedVariables false
namespace Go.Vm
/-! all clauses -/
def showDb : List Cl → Str
  | [] => []
  | c :: cs => showClause c ++ showDb cs
theorem showDb_len : ∀ cs : List Cl, (showDb cs).length ≤ cs.length * 50000
  | [] => Nat.le_refl _
  | c :: cs => by
    have := showDb_len cs
    have := showClause_len c
    simp only [showDb, List.length_append, List.length_cons]
    omega
theorem spec_ShowDb_loop (x : Db) (τ0 τ1 : Bool) (vs : List V) (hv : RL bCl x.clauses vs) (hlim : x.clauses.length ≤ Lm) (hw : ∀ c ∈ x.clauses, wCl c) (m : Nat) :
    ∀ (i : Nat) (acc : Str), i + m = x.clauses.length → acc.length ≤ i * 50000 →
    lw progA L.spec_ShowDb_0 ⟨[(1, .p (100000, 0) 0 0), (3, S acc), (4, I i)], [((100000, 0), 2, [.a [.i τ0 vs, .i τ1 (x.opn.map S)]])]⟩ =
      some (.exit 0, ⟨[(3, S (acc ++ showDb (x.clauses.drop i)))], [((100000, 0), 2, [.a [.i τ0 vs, .i τ1 (x.opn.map S)]])]⟩) := by
  unfold Lm at hlim
  have hn := RL_length hv
  induction m with
  | zero =>
    intro i acc hi ha
    have h : ¬ (i : Int) < x.clauses.length := by omega
    rw [List.drop_eq_nil_of_le (by omega), lw_eq]
    simp only [go_sem, Nat.reduceAdd, Nat.reduceSub, Nat.reduceMul, Nat.reduceEqDiff, Nat.reduceLeDiff, Nat.reduceBEq, reduceCtorEq, LB.spec_ShowDb_0, hn, h, showDb, List.append_nil]
  | succ m ih =>
    intro i acc hi ha
    have h : (i : Int) < x.clauses.length := by omega
    obtain ⟨c, hc⟩ := get_some' (l := x.clauses) (i := i) (by omega)
    obtain ⟨v, gv, hbt⟩ := RL_get hv hc
    have a1 := fun T => addr_i (τ := τ0) (T := T) (e := 9) gv (by obtain ⟨_, _, _, _, rfl, _⟩ := hbt; rfl)
    have cc := spec_ShowClause_ok c (hw c (List.mem_of_getElem? hc)) v hbt
    have hl := showClause_len c
    have e1 : w64 ((i : Int) + 1) = ((i + 1 : Nat) : Int) := by rw [w64_id] <;> omega
    have s1 : binV .add (S acc) (S (showClause c)) = _ := binS_add (by omega)
    have i1 := ih (i + 1) (acc ++ showClause c) (by omega) (by simp only [List.length_append]; omega)
    rw [drop_cons' hc, showDb, ← List.append_assoc]
    obtain ⟨_, _, _, _, rfl, _⟩ := hbt
    rw [lw_eq]
    simp only [go_sem, Nat.reduceAdd, Nat.reduceSub, Nat.reduceMul, Nat.reduceEqDiff, Nat.reduceLeDiff, Nat.reduceBEq, reduceCtorEq, LB.spec_ShowDb_0, hn, h, a1, gv, cc, e1, s1]
    exact i1
theorem impl_ShowDb_loop (x : Db) (τ0 : Bool) (vs : List V) (hv : RL bCl x.clauses vs) (hlim : x.clauses.length ≤ Lm) (hw : ∀ c ∈ x.clauses, wCl c) (m : Nat) :
    ∀ (i : Nat) (acc : Str), i + m = x.clauses.length → acc.length ≤ i * 50000 →
    lw progA L.impl_ShowDb_0 ⟨[(3, S acc), (7, .i τ0 vs), (8, I x.clauses.length), (9, I i)], []⟩ =
      some (.exit 0, ⟨[(3, S (acc ++ showDb (x.clauses.drop i)))], []⟩) := by
  unfold Lm at hlim
  have hn := RL_length hv
  induction m with
  | zero =>
    intro i acc hi ha
    have h : ¬ (i : Int) < x.clauses.length := by omega
    rw [List.drop_eq_nil_of_le (by omega), lw_eq]
    simp only [go_sem, Nat.reduceAdd, Nat.reduceSub, Nat.reduceMul, Nat.reduceEqDiff, Nat.reduceLeDiff, Nat.reduceBEq, reduceCtorEq, LB.impl_ShowDb_0, hn, h, showDb, List.append_nil]
  | succ m ih =>
    intro i acc hi ha
    have h : (i : Int) < x.clauses.length := by omega
    obtain ⟨c, hc⟩ := get_some' (l := x.clauses) (i := i) (by omega)
    obtain ⟨v, gv, hbt⟩ := RL_get hv hc
    have a1 := fun T => addr_i (τ := τ0) (T := T) (e := 9) gv (by obtain ⟨_, _, _, _, rfl, _⟩ := hbt; rfl)
    have cc := impl_ShowClause_ok c (hw c (List.mem_of_getElem? hc)) v hbt
    have hl := showClause_len c
    have e1 : w64 ((i : Int) + 1) = ((i + 1 : Nat) : Int) := by rw [w64_id] <;> omega
    have s1 : binV .add (S acc) (S (showClause c)) = _ := binS_add (by omega)
    have i1 := ih (i + 1) (acc ++ showClause c) (by omega) (by simp only [List.length_append]; omega)
    rw [drop_cons' hc, showDb, ← List.append_assoc]
    obtain ⟨_, _, _, _, rfl, _⟩ := hbt
    rw [lw_eq]
    simp only [go_sem, Nat.reduceAdd, Nat.reduceSub, Nat.reduceMul, Nat.reduceEqDiff, Nat.reduceLeDiff, Nat.reduceBEq, reduceCtorEq, LB.impl_ShowDb_0, hn, h, a1, gv, cc, e1, s1]
    exact i1
theorem spec_ShowDb_ok (x : Db) (hw : wDb x) (v : V) (h : bDb x v) : cr progA F.spec_ShowDb [v] = some (S (showDb x.clauses)) := by
  obtain ⟨τ0, vs, τ1, rfl, hv⟩ := h
  have lp := spec_ShowDb_loop x τ0 τ1 vs hv hw.1.1 hw.1.2 x.clauses.length 0 [] (by omega) (Nat.zero_le _)
  simp only [Int.natCast_zero, List.nil_append, List.drop_zero] at lp
  rw [cr_fn pA_spec_ShowDb rfl]
  simp only [go_sem, Nat.reduceAdd, Nat.reduceSub, Nat.reduceMul, Nat.reduceEqDiff, Nat.reduceLeDiff, Nat.reduceBEq, reduceCtorEq, A.spec_ShowDb, lp]
theorem impl_ShowDb_ok (x : Db) (hw : wDb x) (v : V) (h : bDb x v) : cr progA F.impl_ShowDb [v] = some (S (showDb x.clauses)) := by
  obtain ⟨τ0, vs, τ1, rfl, hv⟩ := h
  have hn := RL_length hv
  have lp := impl_ShowDb_loop x τ0 vs hv hw.1.1 hw.1.2 x.clauses.length 0 [] (by omega) (Nat.zero_le _)
  simp only [Int.natCast_zero, List.nil_append, List.drop_zero] at lp
  rw [cr_fn pA_impl_ShowDb rfl]
  simp only [go_sem, Nat.reduceAdd, Nat.reduceSub, Nat.reduceMul, Nat.reduceEqDiff, Nat.reduceLeDiff, Nat.reduceBEq, reduceCtorEq, A.impl_ShowDb, hn, lp]
theorem law_ShowDb (x : Db) (hw : wDb x) (v : V) (h : bDb x v) : ∃ outs, cw progA F.laws_FnExactShowDb [v] = some (B true, outs) := by
  apply cr_true
  obtain ⟨m, hm⟩ := szDb_ok x hw v 1048576 h
  have ht := toDb_ok x hw v h
  have hp1 := spec_ShowDb_ok x hw _ (b_iDb false x)
  have hp2 := fun τ => impl_ShowDb_ok x hw _ (b_iDb τ x)
  have he := fun τ τ' => (eqDb_ok x hw x _ _ (b_iDb τ x) (b_iDb τ' x)).trans (by rw [decide_eq_true (rfl : x = x)])
  simp only [iDb] at hp1 hp2 he
  simp only [oDb] at ht
  obtain ⟨τ0, vs, τ1, rfl, hv⟩ := h
  rw [cr_fn pA_laws_FnExactShowDb rfl]
  by_cases hneg : m < 0
  · simp only [go_sem, Nat.reduceAdd, Nat.reduceSub, Nat.reduceMul, Nat.reduceEqDiff, Nat.reduceLeDiff, Nat.reduceBEq, reduceCtorEq, A.laws_FnExactShowDb, C.laws_FnExactShowDb_2, C.laws_FnExactShowDb_1, C.laws_FnExactShowDb_0, hm, hneg]
  · simp only [go_sem, Nat.reduceAdd, Nat.reduceSub, Nat.reduceMul, Nat.reduceEqDiff, Nat.reduceLeDiff, Nat.reduceBEq, reduceCtorEq, A.laws_FnExactShowDb, C.laws_FnExactShowDb_2, C.laws_FnExactShowDb_1, C.laws_FnExactShowDb_0, hm, hneg, ht, hp1, hp2, he]
end Go.Vm

set_option autoImplicit false
set_option maxHeartbeats 8000000
set_option maxRecDepth 100000
set_option linter.unusedSimpArgs false
set_option linter.unusedVariables false
namespace Go.Vm
open Go.Lib (itoa join joinTail)
/-! ### plain writing -/
theorem held_of {m : Int} {t : Tm} : held true m t = if m < prioOf t then [40] ++ wr true t ++ [41] else wr true t := by
  unfold held hold
  by_cases h : m < prioOf t
  · rw [if_pos ⟨rfl, h⟩, if_pos h]
  · rw [if_neg (fun e => h e.2), if_neg h]
theorem bracketed_of (t : Tm) (hN : nT t ≤ 400) (hr : Rt t) (hp : ∀ v, BT t v → cr progA F.impl_plain [v] = some (S (wr true t))) (m : Int) (v : V) (hb : BT t v) :
    cr progA F.impl_bracketed [v, I m] = some (S (held true m t)) := by
  have pr := impl_PrioOf_ok t v hb
  have g := hp v hb
  have hl := (Rt_len true hr).1
  have s1 : binV .add (S [40]) (S (wr true t)) = _ := binS_add (by simp only [List.length_cons, List.length_nil]; omega)
  have s2 : binV .add (S ([40] ++ wr true t)) (S [41]) = _ := binS_add (by simp only [List.length_append, List.length_cons, List.length_nil]; omega)
  obtain ⟨τ, vs, rfl, hv⟩ := BT_shape hb
  rw [held_of, cr_fn pA_impl_bracketed rfl]
  simp only [List.cons_append, List.nil_append] at s1 s2
  by_cases h : m < prioOf t
  · rw [if_pos h]; simp only [go_sem, Nat.reduceAdd, Nat.reduceSub, Nat.reduceMul, Nat.reduceEqDiff, Nat.reduceLeDiff, Nat.reduceBEq, reduceCtorEq, A.impl_bracketed, pr, h, g, s1, s2]
  · rw [if_neg h]; simp only [go_sem, Nat.reduceAdd, Nat.reduceSub, Nat.reduceMul, Nat.reduceEqDiff, Nat.reduceLeDiff, Nat.reduceBEq, reduceCtorEq, A.impl_bracketed, pr, h, g]
theorem l28Held_of (t : Tm) (hN : nT t ≤ 400) (hr : Rt t) (hp : ∀ v, BT t v → cr progA F.spec_l28Write [v] = some (S (wr true t))) (m : Int) (v : V) (hb : BT t v) :
    cr progA F.spec_l28Held [v, I m] = some (S (held true m t)) := by
  have pr := spec_PrioOf_ok t v hb
  have g := hp v hb
  have hl := (Rt_len true hr).1
  have s1 : binV .add (S [40]) (S (wr true t)) = _ := binS_add (by simp only [List.length_cons, List.length_nil]; omega)
  have s2 : binV .add (S ([40] ++ wr true t)) (S [41]) = _ := binS_add (by simp only [List.length_append, List.length_cons, List.length_nil]; omega)
  obtain ⟨τ, vs, rfl, hv⟩ := BT_shape hb
  rw [held_of, cr_fn pA_spec_l28Held rfl]
  simp only [List.cons_append, List.nil_append] at s1 s2
  by_cases h : m < prioOf t
  · rw [if_pos h]; simp only [go_sem, Nat.reduceAdd, Nat.reduceSub, Nat.reduceMul, Nat.reduceEqDiff, Nat.reduceLeDiff, Nat.reduceBEq, reduceCtorEq, A.spec_l28Held, pr, h, g, s1, s2]
  · rw [if_neg h]; simp only [go_sem, Nat.reduceAdd, Nat.reduceSub, Nat.reduceMul, Nat.reduceEqDiff, Nat.reduceLeDiff, Nat.reduceBEq, reduceCtorEq, A.spec_l28Held, pr, h, g]
theorem inf_true {t a b : Tm} : infW true t.name (wk true a) (wk true b) = held true (infixOf t.name).left a ++ [32] ++ signText t.name ++ [32] ++ held true (infixOf t.name).right b := by
  unfold infW
  rw [if_pos rfl, held_eq, held_eq]
theorem impl_plain_ok' : ∀ (n : Nat) (t : Tm), nT t ≤ n → nT t ≤ 400 → Rt t → WT t → ∀ v, BT t v → cr progA F.impl_plain [v] = some (S (wr true t)) := by
  intro n
  induction n with
  | zero => intro t hn; have := nT_pos t; omega
  | succ n ih =>
    intro t hn hN hr hw v hb
    have hB : ∀ u, nT u < nT t → Rt u → WT u → ∀ m v, BT u v → cr progA F.impl_bracketed [v, I m] = some (S (held true m u)) := fun u h1 h2 h3 => bracketed_of u (by omega) h2 (fun v hb => ih u (by omega) (by omega) h2 h3 v hb)
    have hW : ∀ u, nT u < nT t → Rt u → WT u → ∀ v, BT u v → cr progA F.impl_plain_1 [v] = some (S (held true 999 u)) := by
      intro u h1 h2 h3 v hb
      have g := hB u h1 h2 h3 999 v hb
      obtain ⟨τ, vs, rfl, hv⟩ := BT_shape hb
      rw [cr_fn pA_impl_plain_1 rfl]
      simp only [go_sem, Nat.reduceAdd, Nat.reduceSub, Nat.reduceMul, Nat.reduceEqDiff, Nat.reduceLeDiff, Nat.reduceBEq, reduceCtorEq, A.impl_plain_1, g]
    have hI : ∀ a b, t.kind = 4 → t.kids = [a, b] → (infixOf t.name).prio ≠ 0 → ∀ v, BT t v → cr progA F.impl_plain_2 [v] = some (S (infW true t.name (wk true a) (wk true b))) := by
      intro a b k4 hk hi v hb
      obtain ⟨-, hnm, -, -, -⟩ := okOne_kind (Rt_ok hr)
      have hnt := nT_two hk
      have ra := Rt_kids hr a (by rw [hk]; simp)
      have rb := Rt_kids hr b (by rw [hk]; simp)
      have hla := held_len true (infixOf t.name).left ra
      have hlb := held_len true (infixOf t.name).right rb
      have hpa := nT_pos a
      have hpb := nT_pos b
      have st := impl_signText_ok t.name (by omega)
      have hst := signText_len t.name
      have inf := impl_InfixOf_ok t.name
      unfold opV at inf
      obtain ⟨τ, vs, rfl, hv⟩ := BT_shape hb
      rw [hk] at hv
      obtain ⟨va, vb, rfl, hva, hvb⟩ := RL_two hv
      have ca := hB a (by omega) ra (WT_kids hw a (by rw [hk]; simp)) (infixOf t.name).left va hva
      have cb := hB b (by omega) rb (WT_kids hw b (by rw [hk]; simp)) (infixOf t.name).right vb hvb
      obtain ⟨τa, vsa, rfl, -⟩ := BT_shape hva
      obtain ⟨τb, vsb, rfl, -⟩ := BT_shape hvb
      rw [inf_true]
      generalize hA : held true (infixOf t.name).left a = A1 at *
      generalize hB' : held true (infixOf t.name).right b = B1 at *
      have s2 : binV .add (S A1) (S [32]) = _ := binS_add (by simp only [List.length_cons, List.length_nil]; omega)
      have s3 : binV .add (S (A1 ++ [32])) (S (signText t.name)) = _ := binS_add (by simp only [List.length_append, List.length_cons, List.length_nil]; omega)
      have s4 : binV .add (S (A1 ++ [32] ++ signText t.name)) (S [32]) = _ := binS_add (by simp only [List.length_append, List.length_cons, List.length_nil]; omega)
      have s5 : binV .add (S (A1 ++ [32] ++ signText t.name ++ [32])) (S B1) = _ := binS_add (by simp only [List.length_append, List.length_cons, List.length_nil]; omega)
      rw [cr_fn pA_impl_plain_2 rfl]
      simp only [go_sem, Nat.reduceAdd, Nat.reduceSub, Nat.reduceMul, Nat.reduceEqDiff, Nat.reduceLeDiff, Nat.reduceBEq, reduceCtorEq, A.impl_plain_2, inf, ca, cb, st, s2, s3, s4, s5]
    have g := writeWith_ok true F.impl_plain_1 F.impl_plain_2 t hN hr hw hW hI v hb
    obtain ⟨τ, vs, rfl, hv⟩ := BT_shape hb
    rw [cr_fn pA_impl_plain rfl]
    simp only [go_sem, Nat.reduceAdd, Nat.reduceSub, Nat.reduceMul, Nat.reduceEqDiff, Nat.reduceLeDiff, Nat.reduceBEq, reduceCtorEq, A.impl_plain, g]
theorem wr_tf {t : Tm} (hr : Rt t) (h : t.kind ≠ 4) : wr true t = wr false t := by
  obtain ⟨hk, -⟩ := okOne_kind (Rt_ok hr)
  rcases hk with h1 | h1 | h1 | h1
  · rw [wr_var true h1, wr_var false h1]
  · rw [wr_atom true h1, wr_atom false h1]
  · rw [wr_int true h1, wr_int false h1]
  · exact absurd h1 h
theorem l28Write_ok' : ∀ (n : Nat) (t : Tm), nT t ≤ n → nT t ≤ 400 → Rt t → WT t → ∀ v, BT t v → cr progA F.spec_l28Write [v] = some (S (wr true t)) := by
  intro n
  induction n with
  | zero => intro t hn; have := nT_pos t; omega
  | succ n ih =>
    intro t hn hN hr hw v hb
    have hB : ∀ u, nT u < nT t → Rt u → WT u → ∀ m v, BT u v → cr progA F.spec_l28Held [v, I m] = some (S (held true m u)) := fun u h1 h2 h3 => l28Held_of u (by omega) h2 (fun v hb => ih u (by omega) (by omega) h2 h3 v hb)
    have hW : ∀ u, nT u < nT t → Rt u → WT u → ∀ v, BT u v → cr progA F.spec_l28Held [v, I 999] = some (S (held true 999 u)) := fun u h1 h2 h3 v hb => hB u h1 h2 h3 999 v hb
    obtain ⟨hk4, hnm, hnum, hkid, hnok⟩ := okOne_kind (Rt_ok hr)
    have at_ := spec_AtomText_ok t.name (by omega)
    have atl := atomText_len t.name
    have hrow := fun h2 => l28Row_ok t h2 hN hr hw hW v hb
    have is := l03Is_ok t v hb [46] 2
    have inf := spec_InfixOf_ok t.name
    unfold opV at inf
    have w7 := l07Write_ok t hN hr hw v hb
    obtain ⟨τ, vs, rfl, hv⟩ := BT_shape hb
    have hl := RL_length hv
    rw [cr_fn pA_spec_l28Write rfl]
    by_cases k4 : t.kind = 4
    case neg =>
      have d4 : decide (t.kind = 4) = false := decide_eq_false k4
      rw [wr_tf hr k4]
      simp only [go_sem, Nat.reduceAdd, Nat.reduceSub, Nat.reduceMul, Nat.reduceEqDiff, Nat.reduceLeDiff, Nat.reduceBEq, reduceCtorEq, A.spec_l28Write, d4, w7]
    have d4 : decide (t.kind = 4) = true := decide_eq_true k4
    cases hp : isStr t [46] 2 with
    | true =>
      have hrw := hrow hp
      rw [hp] at is
      simp only [go_sem, Nat.reduceAdd, Nat.reduceSub, Nat.reduceMul, Nat.reduceEqDiff, Nat.reduceLeDiff, Nat.reduceBEq, reduceCtorEq, A.spec_l28Write, d4, is, hrw]
    | false =>
    rw [hp] at is
    have pi := prio_inf (t := t)
    rw [d4, Bool.true_and] at pi
    have hkl := (hkid k4).2
    have h1k := (hkid k4).1
    have hks : ∀ u ∈ t.kids, ∀ v, BT u v → cr progA F.spec_l28Held [v, I 999] = some (S (held true 999 u)) := fun u hu => hW u (by have := nT_kids t; have := nTs_mem hu; omega) (Rt_kids hr u hu) (WT_kids hw u hu)
    have hbd : ∀ u ∈ t.kids, (held true 999 u).length ≤ 30000 := fun u hu => by
      have h1 := held_len true 999 (Rt_kids hr u hu)
      have := nT_kids t; have := nTs_mem hu; omega
    have gen : prioOf t = 0 → ∃ acc', join (t.kids.map (held true 999)) [44] = acc' ∧ acc'.length ≤ 200000 ∧ binV .add (S (atomText t.name)) (S [40]) = some (S (atomText t.name ++ [40])) ∧ binV .add (S (atomText t.name ++ [40] ++ acc')) (S [41]) = some (S (wr true t)) := by
      intro h0
      have hw' := wr_gen true k4 hp h0
      have hlen := (Rt_len true hr).1
      have hL : (join (t.kids.map (held true 999)) [44]).length ≤ 200000 := by
        rw [hw'] at hlen
        simp only [List.length_append] at hlen
        omega
      refine ⟨_, rfl, hL, binS_add (by simp only [List.length_cons, List.length_nil]; omega), ?_⟩
      rw [hw']
      exact binS_add (by simp only [List.length_append, List.length_cons, List.length_nil]; omega)
    have first := l28Gen_first t τ vs hv hkl h1k hks hbd (atomText t.name ++ [40]) (by simp only [List.length_append, List.length_cons, List.length_nil]; omega)
    by_cases hi : (infixOf t.name).prio ≠ 0
    · have di : decide ((infixOf t.name).prio ≠ 0) = true := decide_eq_true hi
      rw [di] at inf pi
      have hz : ¬ (infixOf t.name).prio = 0 := hi
      by_cases h2 : (t.kids.length : Int) = 2
      · obtain ⟨a, b, hk⟩ := two_of h2
        have hnt := nT_two hk
        have hpa := nT_pos a
        have hpb := nT_pos b
        have ra := Rt_kids hr a (by rw [hk]; simp)
        have rb := Rt_kids hr b (by rw [hk]; simp)
        have hla := held_len true (infixOf t.name).left ra
        have hlb := held_len true (infixOf t.name).right rb
        rw [hk] at hv
        obtain ⟨va, vb, rfl, hva, hvb⟩ := RL_two hv
        have ca := hB a (by omega) ra (WT_kids hw a (by rw [hk]; simp)) (infixOf t.name).left va hva
        have cb := hB b (by omega) rb (WT_kids hw b (by rw [hk]; simp)) (infixOf t.name).right vb hvb
        obtain ⟨τa, vsa, rfl, -⟩ := BT_shape hva
        obtain ⟨τb, vsb, rfl, -⟩ := BT_shape hvb
        rw [wr_inf true k4 hk hi, inf_true]
        generalize hA : held true (infixOf t.name).left a = A1 at *
        generalize hB' : held true (infixOf t.name).right b = B1 at *
        have hst := signText_len t.name
        have s2 : binV .add (S A1) (S [32]) = _ := binS_add (by simp only [List.length_cons, List.length_nil]; omega)
        have s3 : binV .add (S (A1 ++ [32])) (S (signText t.name)) = _ := binS_add (by simp only [List.length_append, List.length_cons, List.length_nil]; omega)
        have s4 : binV .add (S (A1 ++ [32] ++ signText t.name)) (S [32]) = _ := binS_add (by simp only [List.length_append, List.length_cons, List.length_nil]; omega)
        have s5 : binV .add (S (A1 ++ [32] ++ signText t.name ++ [32])) (S B1) = _ := binS_add (by simp only [List.length_append, List.length_cons, List.length_nil]; omega)
        by_cases hc : t.name = [44]
        · have dc : decide (t.name = [44]) = true := decide_eq_true hc
          unfold signText at s3 s4 s5 ⊢
          rw [if_pos hc] at s3 s4 s5 ⊢
          simp only [go_sem, Nat.reduceAdd, Nat.reduceSub, Nat.reduceMul, Nat.reduceEqDiff, Nat.reduceLeDiff, Nat.reduceBEq, reduceCtorEq, A.spec_l28Write, d4, is, inf, hz, two_two, at_, dc, ca, cb, s2, s3, s4, s5, List.length_cons, List.length_nil]
        · have dc : decide (t.name = [44]) = false := decide_eq_false hc
          unfold signText at s3 s4 s5 ⊢
          rw [if_neg hc] at s3 s4 s5 ⊢
          simp only [go_sem, Nat.reduceAdd, Nat.reduceSub, Nat.reduceMul, Nat.reduceEqDiff, Nat.reduceLeDiff, Nat.reduceBEq, reduceCtorEq, A.spec_l28Write, d4, is, inf, hz, two_two, at_, dc, ca, cb, s2, s3, s4, s5, List.length_cons, List.length_nil]
      · have d22 : decide ((t.kids.length : Int) = 2) = false := decide_eq_false h2
        rw [d22] at pi
        have h0 : prioOf t = 0 := by simpa using pi
        obtain ⟨acc', g1, g2, g3, g4⟩ := gen h0
        rw [g1] at first
        simp only [go_sem, Nat.reduceAdd, Nat.reduceSub, Nat.reduceMul, Nat.reduceEqDiff, Nat.reduceLeDiff, Nat.reduceBEq, reduceCtorEq, A.spec_l28Write, d4, is, inf, hz, d22, hl, at_, g3, first, g4]
    · have di : decide ((infixOf t.name).prio ≠ 0) = false := decide_eq_false hi
      rw [di] at inf pi
      have h0 : prioOf t = 0 := by simpa using pi
      obtain ⟨acc', g1, g2, g3, g4⟩ := gen h0
      rw [g1] at first
      have hz : (infixOf t.name).prio = 0 := by simpa using hi
      simp only [go_sem, Nat.reduceAdd, Nat.reduceSub, Nat.reduceMul, Nat.reduceEqDiff, Nat.reduceLeDiff, Nat.reduceBEq, reduceCtorEq, A.spec_l28Write, d4, is, inf, hz, hl, at_, g3, first, g4]
theorem impl_WritePlain_ok (t : Tm) (hw : WT t) (v : V) (hb : BT t v) : cr progA F.impl_WritePlain [v] = some (S (writeT true t)) := by
  have ok := impl_TermOk_ok t hw v hb
  have wt := fun h1 h2 => impl_plain_ok' (nT t) t (Nat.le_refl _) h1 h2 hw v hb
  obtain ⟨τ, vs, rfl, hv⟩ := BT_shape hb
  rw [cr_fn pA_impl_WritePlain rfl]
  unfold writeT
  cases h : termOk t with
  | false => rw [h] at ok; rw [if_neg (by decide)]; simp only [go_sem, Nat.reduceAdd, Nat.reduceSub, Nat.reduceMul, Nat.reduceEqDiff, Nat.reduceLeDiff, Nat.reduceBEq, reduceCtorEq, A.impl_WritePlain, ok]
  | true =>
    obtain ⟨h1, h2⟩ := termOk_of h
    have g := wt h1 h2
    rw [h] at ok
    rw [if_pos rfl]
    simp only [go_sem, Nat.reduceAdd, Nat.reduceSub, Nat.reduceMul, Nat.reduceEqDiff, Nat.reduceLeDiff, Nat.reduceBEq, reduceCtorEq, A.impl_WritePlain, ok, g]
theorem spec_WritePlain_ok (t : Tm) (hw : WT t) (v : V) (hb : BT t v) : cr progA F.spec_WritePlain [v] = some (S (writeT true t)) := by
  have ok := spec_TermOk_ok t hw v hb
  have wt := fun h1 h2 => l28Write_ok' (nT t) t (Nat.le_refl _) h1 h2 hw v hb
  obtain ⟨τ, vs, rfl, hv⟩ := BT_shape hb
  rw [cr_fn pA_spec_WritePlain rfl]
  unfold writeT
  cases h : termOk t with
  | false => rw [h] at ok; rw [if_neg (by decide)]; simp only [go_sem, Nat.reduceAdd, Nat.reduceSub, Nat.reduceMul, Nat.reduceEqDiff, Nat.reduceLeDiff, Nat.reduceBEq, reduceCtorEq, A.spec_WritePlain, ok]
  | true =>
    obtain ⟨h1, h2⟩ := termOk_of h
    have g := wt h1 h2
    rw [h] at ok
    rw [if_pos rfl]
    simp only [go_sem, Nat.reduceAdd, Nat.reduceSub, Nat.reduceMul, Nat.reduceEqDiff, Nat.reduceLeDiff, Nat.reduceBEq, reduceCtorEq, A.spec_WritePlain, ok, g]
theorem bracketed_ok (t : Tm) (hN : nT t ≤ 400) (hr : Rt t) (hw : WT t) (m : Int) (v : V) (hb : BT t v) : cr progA F.impl_bracketed [v, I m] = some (S (held true m t)) :=
  bracketed_of t hN hr (fun v hb => impl_plain_ok' (nT t) t (Nat.le_refl _) hN hr hw v hb) m v hb
theorem l28Held_ok (t : Tm) (hN : nT t ≤ 400) (hr : Rt t) (hw : WT t) (m : Int) (v : V) (hb : BT t v) : cr progA F.spec_l28Held [v, I m] = some (S (held true m t)) :=
  l28Held_of t hN hr (fun v hb => l28Write_ok' (nT t) t (Nat.le_refl _) hN hr hw v hb) m v hb
end Go.Vm

set_option autoImplicit false
set_option maxHeartbeats 8000000
set_option maxRecDepth 100000
set_option linter.unusedSimpArgs false
set_option linter.unusedVariables false
namespace Go.Vm
/-! ### a clause in plain writing -/
def nl4 : Str := [10, 32, 32, 32, 32]
def bl : Nat → Tm → Str
  | 0, _ => []
  | n + 1, t => match isStr t [44] 2, t.kids with
    | true, [a, b] => nl4 ++ held true 999 a ++ [44] ++ bl n b
    | _, _ => nl4 ++ held true 999 t ++ [46, 10]
theorem bl_last {n : Nat} {t : Tm} (h : isStr t [44] 2 = false) : bl (n + 1) t = nl4 ++ held true 999 t ++ [46, 10] := by
  simp only [bl, h]
theorem bl_more {n : Nat} {t a b : Tm} (h : isStr t [44] 2 = true) (hk : t.kids = [a, b]) : bl (n + 1) t = nl4 ++ held true 999 a ++ [44] ++ bl n b := by
  simp only [bl, h, hk]
theorem bl_len : ∀ (n : Nat) (t : Tm), Rt t → (bl n t).length ≤ 60 * nT t
  | 0, t, _ => by simp [bl]
  | n + 1, t, hr => by
    cases h : isStr t [44] 2 with
    | false =>
      have := held_len true 999 hr
      rw [bl_last h]
      simp only [nl4, List.length_append, List.length_cons, List.length_nil]; omega
    | true =>
      obtain ⟨-, -, a, b, hk⟩ := isStr_of h
      have hnt := nT_two hk
      have h1 := held_len true 999 (Rt_kids hr a (by rw [hk]; simp))
      have h2 := bl_len n b (Rt_kids hr b (by rw [hk]; simp))
      rw [bl_more h hk]
      simp only [nl4, List.length_append, List.length_cons, List.length_nil]; omega
theorem spec_pc_loop : ∀ (n : Nat) (t : Tm), nT t ≤ n → nT t ≤ 400 → Rt t → WT t → ∀ (v : V), BT t v → ∀ acc : Str, acc.length + 60 * nT t ≤ 2^40 →
    ∃ t' v' acc', BT t' v' ∧ isStr t' [44] 2 = false ∧ nT t' ≤ 400 ∧ Rt t' ∧ WT t' ∧ acc' ++ (nl4 ++ held true 999 t' ++ [46, 10]) = acc ++ bl n t ∧ acc'.length + 60 * nT t' ≤ 2^40 ∧
      lw progA L.spec_PlainClause_0 ⟨[(3, S acc), (4, .p (100000, 0) 0 0)], [((100000, 0), 4, [v])]⟩ = some (.exit 0, ⟨[(3, S acc'), (4, .p (100000, 0) 0 0)], [((100000, 0), 4, [v'])]⟩) := by
  intro n
  induction n with
  | zero => intro t hn; have := nT_pos t; omega
  | succ n ih =>
    intro t hn hN hr hw v hb acc hacc
    have is := l03Is_ok t v hb [44] 2
    cases h : isStr t [44] 2 with
    | false =>
      rw [h] at is
      refine ⟨t, v, acc, hb, h, hN, hr, hw, by rw [bl_last h], hacc, ?_⟩
      obtain ⟨τb, vsb, rfl, -⟩ := BT_shape hb
      rw [lw_eq]
      simp only [go_sem, Nat.reduceAdd, Nat.reduceSub, Nat.reduceMul, Nat.reduceEqDiff, Nat.reduceLeDiff, Nat.reduceBEq, reduceCtorEq, LB.spec_PlainClause_0, is]
    | true =>
      rw [h] at is
      obtain ⟨-, -, a, b, hk⟩ := isStr_of h
      have hnt := nT_two hk
      have hpa := nT_pos a
      have ra := Rt_kids hr a (by rw [hk]; simp)
      have rb := Rt_kids hr b (by rw [hk]; simp)
      have wa := WT_kids hw a (by rw [hk]; simp)
      have wb := WT_kids hw b (by rw [hk]; simp)
      have hl := held_len true 999 ra
      obtain ⟨τ, vs, rfl, hv⟩ := BT_shape hb
      rw [hk] at hv
      obtain ⟨va, vb, rfl, ha, hb'⟩ := RL_two hv
      have ca := l28Held_ok a (by omega) ra wa 999 va ha
      obtain ⟨t', v', acc', g1, g2, g3, g4, g5, g6, g7, g8⟩ := ih b (by omega) (by omega) rb wb vb hb' (acc ++ nl4 ++ held true 999 a ++ [44]) (by simp only [nl4, List.length_append, List.length_cons, List.length_nil]; omega)
      refine ⟨t', v', acc', g1, g2, g3, g4, g5, ?_, g7, ?_⟩
      · rw [g6, bl_more h hk]; simp only [List.append_assoc]
      · have s1 : binV .add (S acc) (S [10, 32, 32, 32, 32]) = some (S (acc ++ nl4)) := binS_add (by simp only [List.length_cons, List.length_nil]; omega)
        have s2 : binV .add (S (acc ++ nl4)) (S (held true 999 a)) = _ := binS_add (by simp only [nl4, List.length_append, List.length_cons, List.length_nil]; omega)
        have s3 : binV .add (S (acc ++ nl4 ++ held true 999 a)) (S [44]) = _ := binS_add (by simp only [nl4, List.length_append, List.length_cons, List.length_nil]; omega)
        obtain ⟨τa, vsa, rfl, -⟩ := BT_shape ha
        obtain ⟨τ2, vs2, rfl, -⟩ := BT_shape hb'
        rw [lw_eq]
        simp only [go_sem, Nat.reduceAdd, Nat.reduceSub, Nat.reduceMul, Nat.reduceEqDiff, Nat.reduceLeDiff, Nat.reduceBEq, reduceCtorEq, LB.spec_PlainClause_0, is, ca, s1, s2, s3]
        exact g8
theorem impl_pc_loop : ∀ (n : Nat) (t : Tm), nT t ≤ n → nT t ≤ 400 → Rt t → WT t → ∀ (v : V), BT t v → ∀ acc : Str, acc.length + 60 * nT t ≤ 2^40 →
    ∃ t' v' acc', BT t' v' ∧ isStr t' [44] 2 = false ∧ nT t' ≤ 400 ∧ Rt t' ∧ WT t' ∧ acc' ++ (nl4 ++ held true 999 t' ++ [46, 10]) = acc ++ bl n t ∧ acc'.length + 60 * nT t' ≤ 2^40 ∧
      lw progA L.impl_PlainClause_0 ⟨[(3, S acc), (4, .p (100000, 0) 0 0)], [((100000, 0), 4, [v])]⟩ = some (.exit 0, ⟨[(3, S acc'), (4, .p (100000, 0) 0 0)], [((100000, 0), 4, [v'])]⟩) := by
  intro n
  induction n with
  | zero => intro t hn; have := nT_pos t; omega
  | succ n ih =>
    intro t hn hN hr hw v hb acc hacc
    have is := impl_isStruct_ok t v hb [44] 2
    cases h : isStr t [44] 2 with
    | false =>
      rw [h] at is
      refine ⟨t, v, acc, hb, h, hN, hr, hw, by rw [bl_last h], hacc, ?_⟩
      obtain ⟨τb, vsb, rfl, -⟩ := BT_shape hb
      rw [lw_eq]
      simp only [go_sem, Nat.reduceAdd, Nat.reduceSub, Nat.reduceMul, Nat.reduceEqDiff, Nat.reduceLeDiff, Nat.reduceBEq, reduceCtorEq, LB.impl_PlainClause_0, is]
    | true =>
      rw [h] at is
      obtain ⟨-, -, a, b, hk⟩ := isStr_of h
      have hnt := nT_two hk
      have hpa := nT_pos a
      have ra := Rt_kids hr a (by rw [hk]; simp)
      have rb := Rt_kids hr b (by rw [hk]; simp)
      have wa := WT_kids hw a (by rw [hk]; simp)
      have wb := WT_kids hw b (by rw [hk]; simp)
      have hl := held_len true 999 ra
      obtain ⟨τ, vs, rfl, hv⟩ := BT_shape hb
      rw [hk] at hv
      obtain ⟨va, vb, rfl, ha, hb'⟩ := RL_two hv
      have ca := bracketed_ok a (by omega) ra wa 999 va ha
      obtain ⟨t', v', acc', g1, g2, g3, g4, g5, g6, g7, g8⟩ := ih b (by omega) (by omega) rb wb vb hb' (acc ++ (nl4 ++ held true 999 a ++ [44])) (by simp only [nl4, List.length_append, List.length_cons, List.length_nil]; omega)
      refine ⟨t', v', acc', g1, g2, g3, g4, g5, ?_, g7, ?_⟩
      · rw [g6, bl_more h hk]; simp only [List.append_assoc]
      · have s1 : binV .add (S [10, 32, 32, 32, 32]) (S (held true 999 a)) = some (S (nl4 ++ held true 999 a)) := binS_add (by simp only [List.length_cons, List.length_nil]; omega)
        have s2 : binV .add (S (nl4 ++ held true 999 a)) (S [44]) = _ := binS_add (by simp only [nl4, List.length_append, List.length_cons, List.length_nil]; omega)
        have s3 : binV .add (S acc) (S (nl4 ++ held true 999 a ++ [44])) = _ := binS_add (by simp only [nl4, List.length_append, List.length_cons, List.length_nil]; omega)
        obtain ⟨τa, vsa, rfl, -⟩ := BT_shape ha
        obtain ⟨τ2, vs2, rfl, -⟩ := BT_shape hb'
        rw [lw_eq]
        simp only [go_sem, Nat.reduceAdd, Nat.reduceSub, Nat.reduceMul, Nat.reduceEqDiff, Nat.reduceLeDiff, Nat.reduceBEq, reduceCtorEq, LB.impl_PlainClause_0, is, ca, s1, s2, s3]
        exact g8
def plainOk (c : Cl) : Bool := termOk c.head && (termOk c.body && decide (prioOf c.head ≤ 1199))
def plainClause (c : Cl) : Str :=
  if plainOk c = true then
    if isAt c.body [116, 114, 117, 101] = true then wr true c.head ++ [46, 10] else wr true c.head ++ [32, 58, 45] ++ bl (nT c.body) c.body
  else writeT true (clauseTerm c) ++ [32, 46, 10]
theorem plainOk_of {c : Cl} (h : plainOk c = true) : termOk c.head = true ∧ termOk c.body = true ∧ prioOf c.head ≤ 1199 := by
  unfold plainOk at h
  simp only [Bool.and_eq_true, decide_eq_true_eq] at h
  exact h
theorem plainClause_len (c : Cl) : (plainClause c).length ≤ 50000 := by
  unfold plainClause
  split
  · rename_i h
    obtain ⟨h1, h2, -⟩ := plainOk_of h
    obtain ⟨n1, r1⟩ := termOk_of h1
    obtain ⟨n2, r2⟩ := termOk_of h2
    have l1 := (Rt_len true r1).1
    have l2 := bl_len (nT c.body) c.body r2
    split <;> simp only [List.length_append, List.length_cons, List.length_nil] <;> omega
  · have := writeT_len true (clauseTerm c)
    simp only [List.length_append, List.length_cons, List.length_nil]; omega
theorem l27True_ok (t : Tm) (v : V) (hb : BT t v) : cr progA F.spec_l27True [v] = some (B (isAt t [116, 114, 117, 101])) := by
  obtain ⟨τ, vs, rfl, hv⟩ := BT_shape hb
  rw [cr_fn pA_spec_l27True rfl]
  unfold isAt
  cases h1 : decide (t.kind = 2) <;> simp only [go_sem, Nat.reduceAdd, Nat.reduceSub, Nat.reduceMul, Nat.reduceEqDiff, Nat.reduceLeDiff, Nat.reduceBEq, reduceCtorEq, A.spec_l27True, h1, Bool.true_and, Bool.false_and]
theorem oClauseTerm (c : Cl) : oT (clauseTerm c) = .a [I 4, S [58, 45], I 0, .o 4 [oT c.head, oT c.body]] := by
  rw [oT_mk]; rfl
theorem bClauseTerm (τ τ' : Bool) (c : Cl) : BT (clauseTerm c) (.a [I 4, S [58, 45], I 0, .i τ [iT τ' c.head, iT τ' c.body]]) := by
  unfold clauseTerm
  exact BT_mk.2 ⟨τ, _, rfl, _, _, rfl, BT_iT τ' c.head, _, _, rfl, BT_iT τ' c.body, rfl⟩
theorem impl_PlainClause_ok (c : Cl) (hw : wCl c) (v : V) (h : bCl c v) : cr progA F.impl_PlainClause [v] = some (S (plainClause c)) := by
  have hct := impl_ClauseTerm_ok c hw v h
  rw [oClauseTerm] at hct
  have hwp := impl_WritePlain_ok (clauseTerm c) (clauseTerm_ok c hw).1 _ (bClauseTerm true true c)
  obtain ⟨τ0, vs0, τ1, vs1, rfl, h0, h1⟩ := h
  have t1 := impl_TermOk_ok c.head hw.1.1 _ (BT_of (τ := τ0) h0)
  have t2 := impl_TermOk_ok c.body hw.2.1.1 _ (BT_of (τ := τ1) h1)
  have pr := impl_PrioOf_ok c.head _ (BT_of (τ := τ0) h0)
  have wh := impl_WritePlain_ok c.head hw.1.1 _ (BT_of (τ := τ0) h0)
  have ia := impl_isAtom_ok c.body _ (BT_of (τ := τ1) h1) [116, 114, 117, 101]
  have lw1 := writeT_len true (clauseTerm c)
  have sx : binV .add (S (writeT true (clauseTerm c))) (S [32, 46, 10]) = _ := binS_add (by simp only [List.length_cons, List.length_nil]; omega)
  rw [cr_fn pA_impl_PlainClause rfl]
  unfold plainClause
  cases hp : plainOk c with
  | false =>
    rw [if_neg (by decide)]
    unfold plainOk at hp
    cases d1 : termOk c.head with
    | false => rw [d1] at t1; simp only [go_sem, Nat.reduceAdd, Nat.reduceSub, Nat.reduceMul, Nat.reduceEqDiff, Nat.reduceLeDiff, Nat.reduceBEq, reduceCtorEq, A.impl_PlainClause, t1, hct, hwp, sx]
    | true =>
    rw [d1] at t1 hp
    cases d2 : termOk c.body with
    | false => rw [d2] at t2; simp only [go_sem, Nat.reduceAdd, Nat.reduceSub, Nat.reduceMul, Nat.reduceEqDiff, Nat.reduceLeDiff, Nat.reduceBEq, reduceCtorEq, A.impl_PlainClause, t1, t2, hct, hwp, sx]
    | true =>
    rw [d2] at t2 hp
    have d3 : (1199 : Int) < prioOf c.head := by simpa using hp
    simp only [go_sem, Nat.reduceAdd, Nat.reduceSub, Nat.reduceMul, Nat.reduceEqDiff, Nat.reduceLeDiff, Nat.reduceBEq, reduceCtorEq, A.impl_PlainClause, t1, t2, pr, d3, hct, hwp, sx]
  | true =>
    rw [if_pos rfl]
    obtain ⟨k1, k2, k3⟩ := plainOk_of hp
    obtain ⟨n1, r1⟩ := termOk_of k1
    obtain ⟨n2, r2⟩ := termOk_of k2
    have l1 := (Rt_len true r1).1
    have d3 : ¬ (1199 : Int) < prioOf c.head := by omega
    have hwr : writeT true c.head = wr true c.head := by unfold writeT; rw [if_pos k1]
    rw [k1] at t1
    rw [k2] at t2
    rw [hwr] at wh
    cases hi : isAt c.body [116, 114, 117, 101] with
    | true =>
      have s1 : binV .add (S (wr true c.head)) (S [46, 10]) = _ := binS_add (by simp only [List.length_cons, List.length_nil]; omega)
      rw [hi] at ia
      rw [if_pos rfl]
      simp only [go_sem, Nat.reduceAdd, Nat.reduceSub, Nat.reduceMul, Nat.reduceEqDiff, Nat.reduceLeDiff, Nat.reduceBEq, reduceCtorEq, A.impl_PlainClause, t1, t2, pr, d3, wh, ia, s1]
    | false =>
      have s1 : binV .add (S (wr true c.head)) (S [32, 58, 45]) = _ := binS_add (by simp only [List.length_cons, List.length_nil]; omega)
      rw [hi] at ia
      rw [if_neg (by decide)]
      obtain ⟨t', v', acc', g1, g2, g3, g4, g5, g6, g7, g8⟩ := impl_pc_loop (nT c.body) c.body (Nat.le_refl _) n2 r2 hw.2.1.1 _ (BT_of (τ := τ1) h1) (wr true c.head ++ [32, 58, 45]) (by simp only [List.length_append, List.length_cons, List.length_nil]; omega)
      have hl := held_len true 999 g4
      have cb := bracketed_ok t' g3 g4 g5 999 v' g1
      have s2 : binV .add (S acc') (S [10, 32, 32, 32, 32]) = some (S (acc' ++ nl4)) := binS_add (by simp only [List.length_cons, List.length_nil]; omega)
      have s3 : binV .add (S (acc' ++ nl4)) (S (held true 999 t')) = _ := binS_add (by simp only [nl4, List.length_append, List.length_cons, List.length_nil]; omega)
      have s4 : binV .add (S (acc' ++ nl4 ++ held true 999 t')) (S [46, 10]) = _ := binS_add (by simp only [nl4, List.length_append, List.length_cons, List.length_nil]; omega)
      have he : acc' ++ (nl4 ++ held true 999 t' ++ [46, 10]) = acc' ++ nl4 ++ held true 999 t' ++ [46, 10] := by simp only [List.append_assoc]
      rw [← g6, he]
      obtain ⟨τc, vsc, rfl, -⟩ := BT_shape g1
      simp only [go_sem, Nat.reduceAdd, Nat.reduceSub, Nat.reduceMul, Nat.reduceEqDiff, Nat.reduceLeDiff, Nat.reduceBEq, reduceCtorEq, A.impl_PlainClause, t1, t2, pr, d3, wh, ia, s1, g8, cb, s2, s3, s4]
theorem spec_PlainClause_ok (c : Cl) (hw : wCl c) (v : V) (h : bCl c v) (hn : noTag v = true) : cr progA F.spec_PlainClause [v] = some (S (plainClause c)) := by
  have hct := spec_ClauseTerm_ok c hw v h hn
  rw [oClauseTerm] at hct
  have hwp := spec_WritePlain_ok (clauseTerm c) (clauseTerm_ok c hw).1 _ (bClauseTerm true true c)
  obtain ⟨τ0, vs0, τ1, vs1, rfl, h0, h1⟩ := h
  have t1 := spec_TermOk_ok c.head hw.1.1 _ (BT_of (τ := τ0) h0)
  have t2 := spec_TermOk_ok c.body hw.2.1.1 _ (BT_of (τ := τ1) h1)
  have pr := spec_PrioOf_ok c.head _ (BT_of (τ := τ0) h0)
  have ia := l27True_ok c.body _ (BT_of (τ := τ1) h1)
  have lw1 := writeT_len true (clauseTerm c)
  have sx : binV .add (S (writeT true (clauseTerm c))) (S [32, 46, 10]) = _ := binS_add (by simp only [List.length_cons, List.length_nil]; omega)
  rw [cr_fn pA_spec_PlainClause rfl]
  unfold plainClause
  cases hp : plainOk c with
  | false =>
    rw [if_neg (by decide)]
    unfold plainOk at hp
    cases d1 : termOk c.head with
    | false => rw [d1] at t1; simp only [go_sem, Nat.reduceAdd, Nat.reduceSub, Nat.reduceMul, Nat.reduceEqDiff, Nat.reduceLeDiff, Nat.reduceBEq, reduceCtorEq, A.spec_PlainClause, t1, hct, hwp, sx]
    | true =>
    rw [d1] at t1 hp
    cases d2 : termOk c.body with
    | false => rw [d2] at t2; simp only [go_sem, Nat.reduceAdd, Nat.reduceSub, Nat.reduceMul, Nat.reduceEqDiff, Nat.reduceLeDiff, Nat.reduceBEq, reduceCtorEq, A.spec_PlainClause, t1, t2, hct, hwp, sx]
    | true =>
    rw [d2] at t2 hp
    have d3 : (1199 : Int) < prioOf c.head := by simpa using hp
    simp only [go_sem, Nat.reduceAdd, Nat.reduceSub, Nat.reduceMul, Nat.reduceEqDiff, Nat.reduceLeDiff, Nat.reduceBEq, reduceCtorEq, A.spec_PlainClause, t1, t2, pr, d3, hct, hwp, sx]
  | true =>
    rw [if_pos rfl]
    obtain ⟨k1, k2, k3⟩ := plainOk_of hp
    obtain ⟨n1, r1⟩ := termOk_of k1
    obtain ⟨n2, r2⟩ := termOk_of k2
    have l1 := (Rt_len true r1).1
    have d3 : ¬ (1199 : Int) < prioOf c.head := by omega
    have wh := l28Write_ok' (nT c.head) c.head (Nat.le_refl _) n1 r1 hw.1.1 _ (BT_of (τ := τ0) h0)
    rw [k1] at t1
    rw [k2] at t2
    cases hi : isAt c.body [116, 114, 117, 101] with
    | true =>
      have s1 : binV .add (S (wr true c.head)) (S [46, 10]) = _ := binS_add (by simp only [List.length_cons, List.length_nil]; omega)
      rw [hi] at ia
      rw [if_pos rfl]
      simp only [go_sem, Nat.reduceAdd, Nat.reduceSub, Nat.reduceMul, Nat.reduceEqDiff, Nat.reduceLeDiff, Nat.reduceBEq, reduceCtorEq, A.spec_PlainClause, t1, t2, pr, d3, wh, ia, s1]
    | false =>
      have s1 : binV .add (S (wr true c.head)) (S [32, 58, 45]) = _ := binS_add (by simp only [List.length_cons, List.length_nil]; omega)
      rw [hi] at ia
      rw [if_neg (by decide)]
      obtain ⟨t', v', acc', g1, g2, g3, g4, g5, g6, g7, g8⟩ := spec_pc_loop (nT c.body) c.body (Nat.le_refl _) n2 r2 hw.2.1.1 _ (BT_of (τ := τ1) h1) (wr true c.head ++ [32, 58, 45]) (by simp only [List.length_append, List.length_cons, List.length_nil]; omega)
      have hl := held_len true 999 g4
      have cb := l28Held_ok t' g3 g4 g5 999 v' g1
      have s2 : binV .add (S acc') (S [10, 32, 32, 32, 32]) = some (S (acc' ++ nl4)) := binS_add (by simp only [List.length_cons, List.length_nil]; omega)
      have s3 : binV .add (S (acc' ++ nl4)) (S (held true 999 t')) = _ := binS_add (by simp only [nl4, List.length_append, List.length_cons, List.length_nil]; omega)
      have s4 : binV .add (S (acc' ++ nl4 ++ held true 999 t')) (S [46, 10]) = _ := binS_add (by simp only [nl4, List.length_append, List.length_cons, List.length_nil]; omega)
      have he : acc' ++ (nl4 ++ held true 999 t' ++ [46, 10]) = acc' ++ nl4 ++ held true 999 t' ++ [46, 10] := by simp only [List.append_assoc]
      rw [← g6, he]
      obtain ⟨τc, vsc, rfl, -⟩ := BT_shape g1
      simp only [go_sem, Nat.reduceAdd, Nat.reduceSub, Nat.reduceMul, Nat.reduceEqDiff, Nat.reduceLeDiff, Nat.reduceBEq, reduceCtorEq, A.spec_PlainClause, t1, t2, pr, d3, wh, ia, s1, g8, cb, s2, s3, s4]
theorem law_PlainClause (x : Cl) (hw : wCl x) (v : V) (h : bCl x v) : ∃ outs, cw progA F.laws_FnExactPlainClause [v] = some (B true, outs) := by
  apply cr_true
  obtain ⟨m, hm⟩ := szClause_ok x hw v 1048576 h
  have ht := toClause_ok x hw v h
  have hp1 := spec_PlainClause_ok x hw _ (b_iCl false x) (noTag_iCl x)
  have hp2 := fun τ => impl_PlainClause_ok x hw _ (b_iCl τ x)
  have he := fun τ τ' => (eqClause_ok x hw x _ _ (b_iCl τ x) (b_iCl τ' x)).trans (by rw [decide_eq_true (rfl : x = x)])
  simp only [iCl] at hp1 hp2 he
  simp only [oCl] at ht
  obtain ⟨τ0, vs0, τ1, vs1, rfl, h0, h1⟩ := h
  rw [cr_fn pA_laws_FnExactPlainClause rfl]
  by_cases hneg : m < 0
  · simp only [go_sem, Nat.reduceAdd, Nat.reduceSub, Nat.reduceMul, Nat.reduceEqDiff, Nat.reduceLeDiff, Nat.reduceBEq, reduceCtorEq, A.laws_FnExactPlainClause, C.laws_FnExactPlainClause_2, C.laws_FnExactPlainClause_1, C.laws_FnExactPlainClause_0, hm, hneg]
  · simp only [go_sem, Nat.reduceAdd, Nat.reduceSub, Nat.reduceMul, Nat.reduceEqDiff, Nat.reduceLeDiff, Nat.reduceBEq, reduceCtorEq, A.laws_FnExactPlainClause, C.laws_FnExactPlainClause_2, C.laws_FnExactPlainClause_1, C.laws_FnExactPlainClause_0, hm, hneg, ht, hp1, hp2, he]
end Go.Vm

set_option autoImplicit false
set_option maxHeartbeats 8000000
set_option maxRecDepth 100000
set_option linter.unusedSimpArgs false
set_option linter.unusedVariables false
namespace Go.Vm
def plainText : List Cl → Str
  | [] => []
  | c :: cs => plainClause c ++ plainText cs
theorem noTagL_get : ∀ {vs : List V} {i : Nat} {v : V}, noTagL vs = true → vs[i]? = some v → noTag v = true
  | [], i, v, _, h => by simp at h
  | x :: xs, 0, v, h, hv => by
    simp only [List.getElem?_cons_zero, Option.some.injEq] at hv
    subst hv
    simp only [noTagL, Bool.and_eq_true] at h
    exact h.1
  | x :: xs, i + 1, v, h, hv => by
    rw [List.getElem?_cons_succ] at hv
    simp only [noTagL, Bool.and_eq_true] at h
    exact noTagL_get h.2 hv
theorem spec_PlainText_loop (x : Db) (τ0 τ1 : Bool) (vs : List V) (hv : RL bCl x.clauses vs) (hlim : x.clauses.length ≤ Lm) (hw : ∀ c ∈ x.clauses, wCl c) (hnt : noTagL vs = true) (m : Nat) :
    ∀ (i : Nat) (acc : Str), i + m = x.clauses.length → acc.length ≤ i * 50000 →
    lw progA L.spec_PlainText_0 ⟨[(1, .p (100000, 0) 0 0), (3, S acc), (4, I i)], [((100000, 0), 2, [.a [.i τ0 vs, .i τ1 (x.opn.map S)]])]⟩ =
      some (.exit 0, ⟨[(3, S (acc ++ plainText (x.clauses.drop i)))], [((100000, 0), 2, [.a [.i τ0 vs, .i τ1 (x.opn.map S)]])]⟩) := by
  unfold Lm at hlim
  have hn := RL_length hv
  induction m with
  | zero =>
    intro i acc hi ha
    have h : ¬ (i : Int) < x.clauses.length := by omega
    rw [List.drop_eq_nil_of_le (by omega), lw_eq]
    simp only [go_sem, Nat.reduceAdd, Nat.reduceSub, Nat.reduceMul, Nat.reduceEqDiff, Nat.reduceLeDiff, Nat.reduceBEq, reduceCtorEq, LB.spec_PlainText_0, hn, h, plainText, List.append_nil]
  | succ m ih =>
    intro i acc hi ha
    have h : (i : Int) < x.clauses.length := by omega
    obtain ⟨c, hc⟩ := get_some' (l := x.clauses) (i := i) (by omega)
    obtain ⟨v, gv, hbt⟩ := RL_get hv hc
    have a1 := fun T => addr_i (τ := τ0) (T := T) (e := 9) gv (by obtain ⟨_, _, _, _, rfl, _⟩ := hbt; rfl)
    have cc := spec_PlainClause_ok c (hw c (List.mem_of_getElem? hc)) v hbt (noTagL_get hnt gv)
    have hl := plainClause_len c
    have e1 : w64 ((i : Int) + 1) = ((i + 1 : Nat) : Int) := by rw [w64_id] <;> omega
    have s1 : binV .add (S acc) (S (plainClause c)) = _ := binS_add (by omega)
    have i1 := ih (i + 1) (acc ++ plainClause c) (by omega) (by simp only [List.length_append]; omega)
    rw [drop_cons' hc, plainText, ← List.append_assoc]
    obtain ⟨_, _, _, _, rfl, _⟩ := hbt
    rw [lw_eq]
    simp only [go_sem, Nat.reduceAdd, Nat.reduceSub, Nat.reduceMul, Nat.reduceEqDiff, Nat.reduceLeDiff, Nat.reduceBEq, reduceCtorEq, LB.spec_PlainText_0, hn, h, a1, gv, cc, e1, s1]
    exact i1
theorem impl_PlainText_loop (x : Db) (τ0 : Bool) (vs : List V) (hv : RL bCl x.clauses vs) (hlim : x.clauses.length ≤ Lm) (hw : ∀ c ∈ x.clauses, wCl c) (m : Nat) :
    ∀ (i : Nat) (acc : Str), i + m = x.clauses.length → acc.length ≤ i * 50000 →
    lw progA L.impl_PlainText_0 ⟨[(3, S acc), (7, .i τ0 vs), (8, I x.clauses.length), (9, I i)], []⟩ =
      some (.exit 0, ⟨[(3, S (acc ++ plainText (x.clauses.drop i)))], []⟩) := by
  unfold Lm at hlim
  have hn := RL_length hv
  induction m with
  | zero =>
    intro i acc hi ha
    have h : ¬ (i : Int) < x.clauses.length := by omega
    rw [List.drop_eq_nil_of_le (by omega), lw_eq]
    simp only [go_sem, Nat.reduceAdd, Nat.reduceSub, Nat.reduceMul, Nat.reduceEqDiff, Nat.reduceLeDiff, Nat.reduceBEq, reduceCtorEq, LB.impl_PlainText_0, hn, h, plainText, List.append_nil]
  | succ m ih =>
    intro i acc hi ha
    have h : (i : Int) < x.clauses.length := by omega
    obtain ⟨c, hc⟩ := get_some' (l := x.clauses) (i := i) (by omega)
    obtain ⟨v, gv, hbt⟩ := RL_get hv hc
    have a1 := fun T => addr_i (τ := τ0) (T := T) (e := 9) gv (by obtain ⟨_, _, _, _, rfl, _⟩ := hbt; rfl)
    have cc := impl_PlainClause_ok c (hw c (List.mem_of_getElem? hc)) v hbt
    have hl := plainClause_len c
    have e1 : w64 ((i : Int) + 1) = ((i + 1 : Nat) : Int) := by rw [w64_id] <;> omega
    have s1 : binV .add (S acc) (S (plainClause c)) = _ := binS_add (by omega)
    have i1 := ih (i + 1) (acc ++ plainClause c) (by omega) (by simp only [List.length_append]; omega)
    rw [drop_cons' hc, plainText, ← List.append_assoc]
    obtain ⟨_, _, _, _, rfl, _⟩ := hbt
    rw [lw_eq]
    simp only [go_sem, Nat.reduceAdd, Nat.reduceSub, Nat.reduceMul, Nat.reduceEqDiff, Nat.reduceLeDiff, Nat.reduceBEq, reduceCtorEq, LB.impl_PlainText_0, hn, h, a1, gv, cc, e1, s1]
    exact i1
theorem spec_PlainText_ok (x : Db) (hw : wDb x) (v : V) (h : bDb x v) (hn : noTag v = true) : cr progA F.spec_PlainText [v] = some (S (plainText x.clauses)) := by
  obtain ⟨τ0, vs, τ1, rfl, hv⟩ := h
  simp only [noTag, noTagL, Bool.and_eq_true] at hn
  have lp := spec_PlainText_loop x τ0 τ1 vs hv hw.1.1 hw.1.2 hn.1.2 x.clauses.length 0 [] (by omega) (Nat.zero_le _)
  simp only [Int.natCast_zero, List.nil_append, List.drop_zero] at lp
  rw [cr_fn pA_spec_PlainText rfl]
  simp only [go_sem, Nat.reduceAdd, Nat.reduceSub, Nat.reduceMul, Nat.reduceEqDiff, Nat.reduceLeDiff, Nat.reduceBEq, reduceCtorEq, A.spec_PlainText, lp]
theorem impl_PlainText_ok (x : Db) (hw : wDb x) (v : V) (h : bDb x v) : cr progA F.impl_PlainText [v] = some (S (plainText x.clauses)) := by
  obtain ⟨τ0, vs, τ1, rfl, hv⟩ := h
  have hn := RL_length hv
  have lp := impl_PlainText_loop x τ0 vs hv hw.1.1 hw.1.2 x.clauses.length 0 [] (by omega) (Nat.zero_le _)
  simp only [Int.natCast_zero, List.nil_append, List.drop_zero] at lp
  rw [cr_fn pA_impl_PlainText rfl]
  simp only [go_sem, Nat.reduceAdd, Nat.reduceSub, Nat.reduceMul, Nat.reduceEqDiff, Nat.reduceLeDiff, Nat.reduceBEq, reduceCtorEq, A.impl_PlainText, hn, lp]
theorem law_PlainText (x : Db) (hw : wDb x) (v : V) (h : bDb x v) : ∃ outs, cw progA F.laws_FnExactPlainText [v] = some (B true, outs) := by
  apply cr_true
  obtain ⟨m, hm⟩ := szDb_ok x hw v 1048576 h
  have ht := toDb_ok x hw v h
  have hp1 := spec_PlainText_ok x hw _ (b_iDb false x) (noTag_iDb x)
  have hp2 := fun τ => impl_PlainText_ok x hw _ (b_iDb τ x)
  have he := fun τ τ' => (eqDb_ok x hw x _ _ (b_iDb τ x) (b_iDb τ' x)).trans (by rw [decide_eq_true (rfl : x = x)])
  simp only [iDb] at hp1 hp2 he
  simp only [oDb] at ht
  obtain ⟨τ0, vs, τ1, rfl, hv⟩ := h
  rw [cr_fn pA_laws_FnExactPlainText rfl]
  by_cases hneg : m < 0
  · simp only [go_sem, Nat.reduceAdd, Nat.reduceSub, Nat.reduceMul, Nat.reduceEqDiff, Nat.reduceLeDiff, Nat.reduceBEq, reduceCtorEq, A.laws_FnExactPlainText, C.laws_FnExactPlainText_2, C.laws_FnExactPlainText_1, C.laws_FnExactPlainText_0, hm, hneg]
  · simp only [go_sem, Nat.reduceAdd, Nat.reduceSub, Nat.reduceMul, Nat.reduceEqDiff, Nat.reduceLeDiff, Nat.reduceBEq, reduceCtorEq, A.laws_FnExactPlainText, C.laws_FnExactPlainText_2, C.laws_FnExactPlainText_1, C.laws_FnExactPlainText_0, hm, hneg, ht, hp1, hp2, he]
end Go.Vm

set_option autoImplicit false
set_option linter.unusedSimpArgs false
set_option linter.unusedVariables false
namespace Go.Vm
structure Ou where
  answers : List Tm
  fin : Int
  ball : Tm
  out : Str
  db : Db
  steps : Int
noncomputable instance : DecidableEq Ou := fun a b => Classical.propDecidable (a = b)
def bOu (x : Ou) (v : V) : Prop := ∃ τ0 vs0 τ1 vs1 τ2 vs2 τ3, v = .a [.i τ0 vs0, I x.fin, I x.ball.kind, S x.ball.name, I x.ball.num, .i τ1 vs1, S x.out, .i τ2 vs2, .i τ3 (x.db.opn.map S), I x.steps] ∧ RL BT x.answers vs0 ∧ RL BT x.ball.kids vs1 ∧ RL bCl x.db.clauses vs2
def oOu (x : Ou) : V := .a [.o 4 (x.answers.map oT), I x.fin, I x.ball.kind, S x.ball.name, I x.ball.num, .o 4 (x.ball.kids.map oT), S x.out, .o 9 (x.db.clauses.map oCl), .o 1 (x.db.opn.map S), I x.steps]
def iOu (τ : Bool) (x : Ou) : V := .a [.i τ (x.answers.map (iT τ)), I x.fin, I x.ball.kind, S x.ball.name, I x.ball.num, .i τ (x.ball.kids.map (iT τ)), S x.out, .i τ (x.db.clauses.map (iCl τ)), .i τ (x.db.opn.map S), I x.steps]
def wOu (x : Ou) : Prop := (x.answers.length ≤ Lm ∧ ∀ y ∈ x.answers, wTm y) ∧ inI x.fin ∧ wTm x.ball ∧ wS x.out ∧ wDb x.db ∧ inI x.steps
theorem b_iOu (τ : Bool) (x : Ou) : bOu x (iOu τ x) := ⟨τ, _, τ, _, τ, _, τ, rfl, RL_iT τ _, RL_iT τ _, RL_map (b_iCl τ) _⟩
theorem conv_oOu (τ : Bool) (x : Ou) : conv τ (oOu x) = iOu τ x := by simp only [oOu, iOu, go_sem]
theorem noTag_oOu (x : Ou) : noTag (oOu x) = true := by simp only [oOu, go_sem]
theorem noTag_iOu (x : Ou) : noTag (iOu false x) = true := by simp only [iOu, go_sem]
theorem Ou_flat (x : Ou) (v : V) (h : bOu x v) : FlatA 10 v := by
  obtain ⟨τ0, vs0, τ1, vs1, τ2, vs2, τ3, rfl, -, -, -⟩ := h; exact ⟨_, rfl, rfl, rfl⟩
@[go_sem] theorem zero_iOu (τ : Bool) (x : Ou) : zeroB (iOu τ x) = true := rfl
@[go_sem] theorem close_iOu (m : Nat) (T : Mem) (τ : Bool) (x : Ou) : closeV (m + 2) T (iOu τ x) = (iOu τ x, T) := rfl
@[go_sem] theorem conv_iOu (τ τ' : Bool) (x : Ou) : conv τ (iOu τ' x) = iOu τ' x := rfl
@[go_sem] theorem kill_iOu (d : Nat) (τ : Bool) (x : Ou) : killV d (iOu τ x) = iOu τ x := rfl
@[go_sem] theorem dir_iOu (τ : Bool) (x : Ou) : dirV (iOu τ x) = [] := rfl
@[go_sem] theorem isA_iOu (τ : Bool) (x : Ou) : (iOu τ x).isA = true := rfl
@[go_sem] theorem load_iOu (τ : Bool) (x : Ou) : loadE true 10 (iOu τ x) 0 = some (iOu τ x) := rfl
@[go_sem] theorem cells_iOu (τ : Bool) (x : Ou) : (iOu τ x).cells = [.i τ (x.answers.map (iT τ)), I x.fin, I x.ball.kind, S x.ball.name, I x.ball.num, .i τ (x.ball.kids.map (iT τ)), S x.out, .i τ (x.db.clauses.map (iCl τ)), .i τ (x.db.opn.map S), I x.steps] := rfl
@[go_sem] theorem clE_oOu (x : Ou) : clE (oOu x) = true := rfl
@[go_sem] theorem clE_iOu (τ : Bool) (x : Ou) : clE (iOu τ x) = true := rfl
attribute [go_sem] conv_oOu noTag_oOu noTag_iOu
@[go_sem] theorem convL_mOu (τ : Bool) (l : List Ou) : convL τ (l.map oOu) = l.map (iOu τ) := convL_map (conv_oOu τ) l
@[go_sem] theorem noTagL_mOu (l : List Ou) : noTagL (l.map oOu) = true := noTagL_map noTag_oOu l
@[go_sem] theorem noTagL_miOu (l : List Ou) : noTagL (l.map (iOu false)) = true := noTagL_map noTag_iOu l
@[go_sem] theorem clEs_mOu (l : List Ou) : clEs (l.map oOu) = true := clEs_map clE_oOu l
@[go_sem] theorem mapE_mOu (m : Nat) (T : Mem) (l : List Ou) : mapT (closeE m) T (l.map oOu) = (l.map oOu, T) := mapE_cl m T _ (clEs_mOu l)
@[go_sem] theorem repEs_mOu (k : Key) (ob : Ob) (l : List Ou) : repEs k ob (l.map oOu) = none := repEs_closed k ob _ (clEs_mOu l)
@[go_sem] theorem killL_mOu (d : Nat) (l : List Ou) : killL d (l.map oOu) = l.map oOu := killL_map clE_oOu d l
end Go.Vm

set_option autoImplicit false
set_option maxRecDepth 100000
set_option linter.unusedSimpArgs false
set_option linter.unusedVariables false
namespace Go.Vm
theorem szOutcome_ok (x : Ou) (hw : wOu x) (v : V) (left : Int) (h : bOu x v) : ∃ m, cr progA F.laws_szOutcome [v, I left] = some (I m) := by
  obtain ⟨τ0, vs0, τ1, vs1, τ2, vs2, τ3, rfl, h0, h1, h2⟩ := h
  rw [cr_fn pA_laws_szOutcome rfl]
  obtain ⟨m1, e1⟩ := szTermS_ok τ0 vs0 x.answers h0 (hw.1).1 (fun t ht => ((hw.1).2 t ht).1) left
  by_cases n1 : m1 < 0
  · simp only [go_sem, Nat.reduceAdd, Nat.reduceSub, Nat.reduceMul, Nat.reduceEqDiff, Nat.reduceLeDiff, Nat.reduceBEq, reduceCtorEq, A.laws_szOutcome, e1, n1]; exact ⟨_, rfl⟩
  obtain ⟨m3, e3⟩ := szTerm_ok x.ball (hw.2.2.1).1 _ m1 (BT_of (τ := τ1) h1)
  by_cases n3 : m3 < 0
  · simp only [go_sem, Nat.reduceAdd, Nat.reduceSub, Nat.reduceMul, Nat.reduceEqDiff, Nat.reduceLeDiff, Nat.reduceBEq, reduceCtorEq, A.laws_szOutcome, e1, n1, e3, n3]; exact ⟨_, rfl⟩
  by_cases n4 : w64 (m3 - x.out.length) < 0
  · simp only [go_sem, Nat.reduceAdd, Nat.reduceSub, Nat.reduceMul, Nat.reduceEqDiff, Nat.reduceLeDiff, Nat.reduceBEq, reduceCtorEq, A.laws_szOutcome, e1, n1, e3, n3, n4]; exact ⟨_, rfl⟩
  obtain ⟨m5, e5⟩ := szDb_ok x.db (hw.2.2.2.2.1) _ (w64 (m3 - x.out.length)) ⟨τ2, vs2, τ3, rfl, h2⟩
  by_cases n5 : m5 < 0
  · simp only [go_sem, Nat.reduceAdd, Nat.reduceSub, Nat.reduceMul, Nat.reduceEqDiff, Nat.reduceLeDiff, Nat.reduceBEq, reduceCtorEq, A.laws_szOutcome, e1, n1, e3, n3, n4, e5, n5]; exact ⟨_, rfl⟩
  simp only [go_sem, Nat.reduceAdd, Nat.reduceSub, Nat.reduceMul, Nat.reduceEqDiff, Nat.reduceLeDiff, Nat.reduceBEq, reduceCtorEq, A.laws_szOutcome, e1, n1, e3, n3, n4, e5, n5]; exact ⟨_, rfl⟩
theorem toOutcome_ok (x : Ou) (hw : wOu x) (v : V) (h : bOu x v) : cr progA F.laws_toOutcome [v] = some (oOu x) := by
  obtain ⟨τ0, vs0, τ1, vs1, τ2, vs2, τ3, rfl, h0, h1, h2⟩ := h
  have e1 := toTermS_ok τ0 vs0 x.answers h0 (hw.1).1 (fun t ht => ((hw.1).2 t ht).1)
  have e3 := toTerm_ok x.ball (hw.2.2.1).1 _ (BT_of (τ := τ1) h1)
  rw [oT_mk] at e3
  have e5 := toDb_ok x.db (hw.2.2.2.2.1) _ ⟨τ2, vs2, τ3, rfl, h2⟩
  rw [oDb] at e5
  rw [cr_fn pA_laws_toOutcome rfl, oOu]
  simp only [go_sem, Nat.reduceAdd, Nat.reduceSub, Nat.reduceMul, Nat.reduceEqDiff, Nat.reduceLeDiff, Nat.reduceBEq, reduceCtorEq, A.laws_toOutcome, e1, e3, e5]
theorem eqOutcome_ok (x : Ou) (hw : wOu x) (y : Ou) (v v' : V) (h : bOu x v) (h' : bOu y v') : cr progA F.laws_eqOutcome [v, v'] = some (B (decide (x = y))) := by
  obtain ⟨τ0, vs0, τ1, vs1, τ2, vs2, τ3, rfl, h0, h1, h2⟩ := h
  obtain ⟨τ0', vs0', τ1', vs1', τ2', vs2', τ3', rfl, h0', h1', h2'⟩ := h'
  have e1 := eqTermS_ok τ0 τ0' vs0 vs0' x.answers y.answers h0 h0' (hw.1).1 (fun t ht => ((hw.1).2 t ht).1)
  have e3 := eqTerm_ok x.ball (hw.2.2.1).1 y.ball _ _ (BT_of (τ := τ1) h1) (BT_of (τ := τ1') h1')
  have e5 := eqDb_ok x.db (hw.2.2.2.2.1) y.db _ _ ⟨τ2, vs2, τ3, rfl, h2⟩ ⟨τ2', vs2', τ3', rfl, h2'⟩
  rw [cr_fn pA_laws_eqOutcome rfl]
  by_cases c0 : x.answers = y.answers
  case neg =>
    have d0 : decide (x.answers = y.answers) = false := decide_eq_false c0
    have hf : decide (x = y) = false := decide_eq_false fun h => c0 (by rw [h])
    simp only [go_sem, Nat.reduceAdd, Nat.reduceSub, Nat.reduceMul, Nat.reduceEqDiff, Nat.reduceLeDiff, Nat.reduceBEq, reduceCtorEq, A.laws_eqOutcome, e1, e3, e5, d0, hf]
  have d0 : decide (x.answers = y.answers) = true := decide_eq_true c0
  by_cases c1 : x.fin = y.fin
  case neg =>
    have d1 : decide (x.fin = y.fin) = false := decide_eq_false c1
    have hf : decide (x = y) = false := decide_eq_false fun h => c1 (by rw [h])
    simp only [go_sem, Nat.reduceAdd, Nat.reduceSub, Nat.reduceMul, Nat.reduceEqDiff, Nat.reduceLeDiff, Nat.reduceBEq, reduceCtorEq, A.laws_eqOutcome, e1, e3, e5, d0, d1, hf]
  have d1 : decide (x.fin = y.fin) = true := decide_eq_true c1
  by_cases c2 : x.ball = y.ball
  case neg =>
    have d2 : decide (x.ball = y.ball) = false := decide_eq_false c2
    have hf : decide (x = y) = false := decide_eq_false fun h => c2 (by rw [h])
    simp only [go_sem, Nat.reduceAdd, Nat.reduceSub, Nat.reduceMul, Nat.reduceEqDiff, Nat.reduceLeDiff, Nat.reduceBEq, reduceCtorEq, A.laws_eqOutcome, e1, e3, e5, d0, d1, d2, hf]
  have d2 : decide (x.ball = y.ball) = true := decide_eq_true c2
  by_cases c3 : x.out = y.out
  case neg =>
    have d3 : decide (x.out = y.out) = false := decide_eq_false c3
    have hf : decide (x = y) = false := decide_eq_false fun h => c3 (by rw [h])
    simp only [go_sem, Nat.reduceAdd, Nat.reduceSub, Nat.reduceMul, Nat.reduceEqDiff, Nat.reduceLeDiff, Nat.reduceBEq, reduceCtorEq, A.laws_eqOutcome, e1, e3, e5, d0, d1, d2, d3, hf]
  have d3 : decide (x.out = y.out) = true := decide_eq_true c3
  by_cases c4 : x.db = y.db
  case neg =>
    have d4 : decide (x.db = y.db) = false := decide_eq_false c4
    have hf : decide (x = y) = false := decide_eq_false fun h => c4 (by rw [h])
    simp only [go_sem, Nat.reduceAdd, Nat.reduceSub, Nat.reduceMul, Nat.reduceEqDiff, Nat.reduceLeDiff, Nat.reduceBEq, reduceCtorEq, A.laws_eqOutcome, e1, e3, e5, d0, d1, d2, d3, d4, hf]
  have d4 : decide (x.db = y.db) = true := decide_eq_true c4
  by_cases c5 : x.steps = y.steps
  case neg =>
    have d5 : decide (x.steps = y.steps) = false := decide_eq_false c5
    have hf : decide (x = y) = false := decide_eq_false fun h => c5 (by rw [h])
    simp only [go_sem, Nat.reduceAdd, Nat.reduceSub, Nat.reduceMul, Nat.reduceEqDiff, Nat.reduceLeDiff, Nat.reduceBEq, reduceCtorEq, A.laws_eqOutcome, e1, e3, e5, d0, d1, d2, d3, d4, d5, hf]
  have d5 : decide (x.steps = y.steps) = true := decide_eq_true c5
  have hf : decide (x = y) = true := decide_eq_true (by cases x; cases y; simp only at c0 c1 c2 c3 c4 c5; simp only [Ou.mk.injEq]; exact ⟨c0, c1, c2, c3, c4, c5⟩)
  simp only [go_sem, Nat.reduceAdd, Nat.reduceSub, Nat.reduceMul, Nat.reduceEqDiff, Nat.reduceLeDiff, Nat.reduceBEq, reduceCtorEq, A.laws_eqOutcome, e1, e3, e5, d0, d1, d2, d3, d4, d5, hf]
end Go.Vm
