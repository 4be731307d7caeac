import Derived.Test.YtehgffojgiefaaaGBodies
import Derived.Test.YtehgffojgiefaaaVmDat
set_option autoImplicit false
set_option maxRecDepth 100000
set_option linter.unusedSimpArgs false
set_option linter.unusedVariables false
namespace Go.Vm

/-! a struct that may only be read -/
def flatC : V → Bool
  | .v _ => true
  | .i _ _ => true
  | _ => false
def flatL : List V → Bool
  | [] => true
  | c :: cs => flatC c && flatL cs
def FlatA (e : Nat) (v : V) : Prop := ∃ cs, v = .a cs ∧ cs.length = e ∧ flatL cs = true
theorem flat_close (m : Nat) (T : Mem) : ∀ (cs : List V), flatL cs = true → mapT (closeV (m + 1)) T cs = (cs, T)
  | [], _ => rfl
  | c :: cs, h => by
    simp only [flatL, Bool.and_eq_true] at h
    have h1 : closeV (m + 1) T c = (c, T) := by cases c <;> first | rfl | (simp [flatC] at h)
    simp only [mapT, h1, flat_close m T cs h.2]
theorem flat_conv (τ : Bool) : ∀ (cs : List V), flatL cs = true → convL τ cs = cs
  | [], _ => rfl
  | c :: cs, h => by
    simp only [flatL, Bool.and_eq_true] at h
    have h1 : conv τ c = c := by cases c <;> first | rfl | (simp [flatC] at h)
    simp only [convL, h1, flat_conv τ cs h.2]
theorem flat_zero : ∀ (cs : List V), flatL cs = true → zeroBL cs = true
  | [], _ => rfl
  | c :: cs, h => by
    simp only [flatL, Bool.and_eq_true] at h
    have h1 : zeroB c = true := by cases c <;> first | rfl | (simp [flatC] at h)
    simp only [zeroBL, h1, flat_zero cs h.2, Bool.and_self]
theorem flat_kill (d : Nat) : ∀ (cs : List V), flatL cs = true → killL d cs = cs
  | [], _ => rfl
  | c :: cs, h => by
    simp only [flatL, Bool.and_eq_true] at h
    have h1 : killV d c = c := by cases c <;> first | rfl | (simp [flatC] at h)
    simp only [killL, h1, flat_kill d cs h.2]
theorem flat_dir : ∀ (cs : List V), flatL cs = true → dirL cs = []
  | [], _ => rfl
  | c :: cs, h => by
    simp only [flatL, Bool.and_eq_true] at h
    have h1 : dirV c = [] := by cases c <;> first | rfl | (simp [flatC] at h)
    simp only [dirL, h1, flat_dir cs h.2, List.append_nil]
theorem FlatA.cells {e : Nat} {v : V} (h : FlatA e v) : v.cells.length = e := by obtain ⟨cs, rfl, h, -⟩ := h; exact h

section
variable {prog : Nat → Option AE} {α : Type} {R : α → V → Prop}
noncomputable local instance : DecidableEq α := fun a b => Classical.propDecidable (a = b)
theorem eqS_loop (f e : Nat) (hR : ∀ t v, R t v → FlatA e v) (τ τ' : Bool) (vs vs' : List V) (ts ts' : List α) (n : Nat) (hl : ts.length = n) (hl' : ts'.length = n) (hv : RL R ts vs) (hv' : RL R ts' vs') (hlim : n ≤ Lm)
    (hc : ∀ t ∈ ts, ∀ t' v v', R t v → R t' v' → cr prog f [v, v'] = some (B (decide (t = t')))) (m : Nat) : ∀ i, i + m = n →
    (ts.drop i = ts'.drop i → ∃ a b c e', lw prog (GL.eqS f e) ⟨[(0, .i τ vs), (1, .i τ' vs'), (5, I i)], []⟩ = some (.exit 0, ⟨[(14, a), (13, b), (12, c), (11, e'), (0, .i τ vs), (1, .i τ' vs'), (5, I n)], []⟩)) ∧
    (ts.drop i ≠ ts'.drop i → ∃ st, lw prog (GL.eqS f e) ⟨[(0, .i τ vs), (1, .i τ' vs'), (5, I i)], []⟩ = some (.ret, st) ∧ getS st.σ 4 = some (B false)) := by
  unfold Lm at hlim
  have hn := RL_length hv
  have hn' := RL_length hv'
  rw [hl] at hn
  rw [hl'] at hn'
  induction m with
  | zero =>
    intro i hi
    obtain rfl : i = n := by omega
    rw [lw_eq]
    have h1 : ¬ (i : Int) < (i : Int) := by omega
    rw [List.drop_eq_nil_of_le (by omega), List.drop_eq_nil_of_le (by omega)]
    simp only [go_sem, Nat.reduceAdd, Nat.reduceSub, Nat.reduceMul, Nat.reduceEqDiff, Nat.reduceLeDiff, Nat.reduceBEq, reduceCtorEq, GB.eqS, hn, h1]
    refine ⟨fun _ => ⟨_, _, _, _, rfl⟩, fun h => h.elim⟩
  | succ m ih =>
    intro i hi
    rw [lw_eq]
    have hlt : (i : Int) < (n : Int) := by omega
    obtain ⟨t, ht⟩ := get_some' (l := ts) (i := i) (by omega)
    obtain ⟨t', ht'⟩ := get_some' (l := ts') (i := i) (by omega)
    obtain ⟨v, g, hb⟩ := RL_get hv ht
    obtain ⟨v', g', hb'⟩ := RL_get hv' ht'
    have hcc := hc t (List.mem_of_getElem? ht) t' v v' hb hb'
    have a1 := addr_i (τ := τ) (T := []) g (hR _ _ hb).cells
    have a2 := addr_i (τ := τ') (T := []) g' (hR _ _ hb').cells
    have e1 : w64 ((i : Int) + 1) = ((i + 1 : Nat) : Int) := by rw [w64_id] <;> omega
    obtain ⟨i1, i2⟩ := ih (i + 1) (by omega)
    obtain ⟨cs, rfl, hcl, hfl⟩ := hR _ _ hb
    obtain ⟨cs', rfl, hcl', hfl'⟩ := hR _ _ hb'
    rw [drop_cons' ht, drop_cons' ht']
    simp only [go_sem, Nat.reduceAdd, Nat.reduceSub, Nat.reduceMul, Nat.reduceEqDiff, Nat.reduceLeDiff, Nat.reduceBEq, reduceCtorEq, GB.eqS, hn, hlt, a1, a2, g, g', hcc, e1, hcl, hcl', flat_close, flat_conv, flat_zero, hfl, hfl']
    by_cases he : t = t'
    · subst he
      simp only [decide_true, Bool.true_eq_false, if_false, List.cons.injEq, true_and]
      exact ⟨i1, i2⟩
    · simp only [he, decide_false, if_true, List.cons.injEq, false_and, false_implies, true_and]
      exact fun _ => ⟨_, rfl, rfl⟩
theorem eqS_ok (fS f e : Nat) (hp : prog fS = some (.fn (GA.eqS f e))) (hR : ∀ t v, R t v → FlatA e v) (τ τ' : Bool) (vs vs' : List V) (ts ts' : List α) (hv : RL R ts vs) (hv' : RL R ts' vs') (hw : ts.length ≤ Lm)
    (hc : ∀ t ∈ ts, ∀ t' v v', R t v → R t' v' → cr prog f [v, v'] = some (B (decide (t = t')))) :
    cr prog fS [.i τ vs, .i τ' vs'] = some (B (decide (ts = ts'))) := by
  rw [cr_fn hp rfl]
  by_cases hl : ts'.length = ts.length
  · obtain ⟨h1, h2⟩ := eqS_loop f e hR τ τ' vs vs' ts ts' ts.length rfl hl hv hv' hw hc ts.length 0 (by omega)
    simp only [List.drop_zero, Int.natCast_zero] at h1 h2
    by_cases he : ts = ts'
    · obtain ⟨a, b, c, e, h⟩ := h1 he
      simp only [go_sem, Nat.reduceAdd, Nat.reduceSub, Nat.reduceMul, Nat.reduceEqDiff, Nat.reduceLeDiff, Nat.reduceBEq, reduceCtorEq, GA.eqS, RL_length hv, RL_length hv', hl, h, he]
    · obtain ⟨st, h, hr⟩ := h2 he
      simp only [go_sem, Nat.reduceAdd, Nat.reduceSub, Nat.reduceMul, Nat.reduceEqDiff, Nat.reduceLeDiff, Nat.reduceBEq, reduceCtorEq, GA.eqS, RL_length hv, RL_length hv', hl, h, hr, he]
  · have he : ¬ ts = ts' := fun h => hl (by rw [h])
    have hne : ¬ (ts.length : Int) = ts'.length := by omega
    simp only [go_sem, Nat.reduceAdd, Nat.reduceSub, Nat.reduceMul, Nat.reduceEqDiff, Nat.reduceLeDiff, Nat.reduceBEq, reduceCtorEq, GA.eqS, RL_length hv, RL_length hv', hne, he]

theorem szS_loop (f e : Nat) (hR : ∀ t v, R t v → FlatA e v) (τ : Bool) (vs : List V) (ts : List α) (n : Nat) (hl : ts.length = n) (hv : RL R ts vs) (hlim : n ≤ Lm)
    (hc : ∀ t ∈ ts, ∀ v left, R t v → ∃ m, cr prog f [v, I left] = some (I m)) (m : Nat) : ∀ i left, i + m = n →
    (∃ a b c e' r, lw prog (GL.szS f e) ⟨[(0, .i τ vs), (1, I left), (5, I i)], []⟩ = some (.exit 0, ⟨[(15, a), (14, b), (13, c), (12, e'), (0, .i τ vs), (1, I r), (5, I n)], []⟩)) ∨
    (∃ st, lw prog (GL.szS f e) ⟨[(0, .i τ vs), (1, I left), (5, I i)], []⟩ = some (.ret, st) ∧ getS st.σ 4 = some (I (-1))) := by
  unfold Lm at hlim
  have hn := RL_length hv
  rw [hl] at hn
  induction m with
  | zero =>
    intro i left hi
    obtain rfl : i = n := by omega
    rw [lw_eq]
    have h1 : ¬ (i : Int) < (i : Int) := by omega
    simp only [go_sem, Nat.reduceAdd, Nat.reduceSub, Nat.reduceMul, Nat.reduceEqDiff, Nat.reduceLeDiff, Nat.reduceBEq, reduceCtorEq, GB.szS, hn, h1]
    exact .inl ⟨_, _, _, _, _, rfl⟩
  | succ m ih =>
    intro i left hi
    rw [lw_eq]
    have hlt : (i : Int) < (n : Int) := by omega
    obtain ⟨t, ht⟩ := get_some' (l := ts) (i := i) (by omega)
    obtain ⟨v, g, hb⟩ := RL_get hv ht
    obtain ⟨r, hcc⟩ := hc t (List.mem_of_getElem? ht) v left hb
    have a1 := addr_i (τ := τ) (T := []) g (hR _ _ hb).cells
    have e1 : w64 ((i : Int) + 1) = ((i + 1 : Nat) : Int) := by rw [w64_id] <;> omega
    have i1 := ih (i + 1) r (by omega)
    obtain ⟨cs, rfl, hcl, hfl⟩ := hR _ _ hb
    by_cases hneg : r < 0
    · simp only [go_sem, Nat.reduceAdd, Nat.reduceSub, Nat.reduceMul, Nat.reduceEqDiff, Nat.reduceLeDiff, Nat.reduceBEq, reduceCtorEq, GB.szS, hn, hlt, a1, g, hcc, e1, hcl, flat_close, flat_conv, flat_zero, hfl, hneg]
      exact .inr ⟨_, rfl, rfl⟩
    · simp only [go_sem, Nat.reduceAdd, Nat.reduceSub, Nat.reduceMul, Nat.reduceEqDiff, Nat.reduceLeDiff, Nat.reduceBEq, reduceCtorEq, GB.szS, hn, hlt, a1, g, hcc, e1, hcl, flat_close, flat_conv, flat_zero, hfl, hneg]
      exact i1
theorem szS_ok (fS f e : Nat) (hp : prog fS = some (.fn (GA.szS f e))) (hR : ∀ t v, R t v → FlatA e v) (τ : Bool) (vs : List V) (ts : List α) (hv : RL R ts vs) (hw : ts.length ≤ Lm)
    (hc : ∀ t ∈ ts, ∀ v left, R t v → ∃ m, cr prog f [v, I left] = some (I m)) (left : Int) :
    ∃ m, cr prog fS [.i τ vs, I left] = some (I m) := by
  rw [cr_fn hp rfl]
  by_cases hneg : w64 (left - ts.length) < 0
  · simp only [go_sem, Nat.reduceAdd, Nat.reduceSub, Nat.reduceMul, Nat.reduceEqDiff, Nat.reduceLeDiff, Nat.reduceBEq, reduceCtorEq, GA.szS, RL_length hv, hneg]
    exact ⟨_, rfl⟩
  · rcases szS_loop f e hR τ vs ts ts.length rfl hv hw hc ts.length 0 (w64 (left - ts.length)) (by omega) with ⟨a, b, c, e', r, h⟩ | ⟨st, h, hr⟩
    · simp only [Int.natCast_zero] at h
      simp only [go_sem, Nat.reduceAdd, Nat.reduceSub, Nat.reduceMul, Nat.reduceEqDiff, Nat.reduceLeDiff, Nat.reduceBEq, reduceCtorEq, GA.szS, RL_length hv, hneg, h]
      exact ⟨_, rfl⟩
    · simp only [Int.natCast_zero] at h
      simp only [go_sem, Nat.reduceAdd, Nat.reduceSub, Nat.reduceMul, Nat.reduceEqDiff, Nat.reduceLeDiff, Nat.reduceBEq, reduceCtorEq, GA.szS, RL_length hv, hneg, h, hr]
      exact ⟨_, rfl⟩
end
end Go.Vm
