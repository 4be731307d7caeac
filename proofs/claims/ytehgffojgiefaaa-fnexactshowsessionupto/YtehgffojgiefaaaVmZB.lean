import Derived.Test.YtehgffojgiefaaaVmZA
set_option autoImplicit false
set_option linter.unusedVariables false
set_option linter.unusedSimpArgs false
namespace Go.Vm

/-- the names that operations to come will make -/
def fresh (plan : List Dp) (is : List AI) (listed : Array Bool) (d : Nat) : Prop :=
  ∃ (i : Nat) (p : Dp) (ai : AI), listed.getD i true = false ∧ plan[i]? = some p ∧ is[i]? = some ai ∧ p.k ≠ 0 ∧ dstI ai = some d
structure InvD (N n : Nat) (E0 : Env) (k0 : Cnt) (a0 : Act) (fr : Nat → Prop) (s : FS) (a : Act) (E : Env) (c : Cnt) : Prop where
  sz : a.tmps.size = N
  df : a.defers = a0.defers
  σ : ∀ t x, s.1 t = some x → ∃ y, a.tmps[t]? = some y ∧ Rel E x y c0
  T : ∃ L, (∀ k, getK L k = s.2 k) ∧ TRel E L c
  g : Good E c
  kn : KN n E0 E
  adv : Adv E0 k0 E c
  fr : ∀ d, fr d → ∀ j, E.μ (d, j) = none
section
variable {N n : Nat} {E0 E E' : Env} {k0 c cA cB : Cnt} {a0 a : Act} {fr fr' : Nat → Prop} {s : FS} {dst : Option Nat} {σ' : Sl} {T' L : Mem} {y : Value} {p : Dp}
theorem InvD.next (h : InvD N n E0 k0 a0 fr s a E c) (hL : ∀ k, getK L k = s.2 k) (hd : ∀ t, dst = some t → t < N) (hm : Mono E E' c0) (hσ : ∀ d x, dst = some d → getS σ' d = some x → Rel E' x y c0)
    (hA : TRel E' (filtT (p.own dst) T') cA) (hB : TRel E' (filtT (fun k => !p.own dst k) L) cB) (hg : Good E' (cadd cA cB)) (hadv : Adv E c E' (cadd cA cB)) (hkn : KN n E E')
    (hfr : ∀ d, fr' d → ∀ j, E'.μ (d, j) = none) : InvD N n E0 k0 a0 fr' (putF dst σ' s.1, updK p dst T' s.2) (a.put dst y) E' (cadd cA cB) := by
  refine ⟨by cases dst <;> simp [Act.put, h.sz], (put_defers _ _ _).trans h.df, fun t x hx => ?_, ⟨filtT (p.own dst) T' ++ filtT (fun k => !p.own dst k) L, fun k => ?_, tRel_append hA hB⟩, hg, h.kn.trans hkn, h.adv.trans hadv, hfr⟩
  · simp only [putF] at hx
    split at hx
    · rename_i e
      subst e
      have ht := hd t rfl
      refine ⟨y, ?_, hσ t x rfl hx⟩
      simp [Act.put, h.sz, ht]
    · rename_i e
      obtain ⟨v, h1, h2⟩ := h.σ t x hx
      refine ⟨v, ?_, rel_mono h2 hm⟩
      cases dst with
      | none => exact h1
      | some d =>
        have : d ≠ t := by rintro rfl; exact e rfl
        simp only [Act.put]
        rw [Array.getElem?_setIfInBounds_ne this]; exact h1
  · rw [getK_append, getK_filt, getK_filt]
    simp only [updK, hL]
    cases p.own dst k <;> simp
theorem getS_pickF {f : Nat → Option V} : ∀ {us : List Nat} {t : Nat} {x : V}, getS (pickF f us) t = some x → f t = some x
  | [], t, x, h => by cases h
  | u :: us, t, x, h => by
    simp only [pickF] at h
    split at h
    · rename_i z hz
      simp only [getS] at h
      split at h
      · rename_i e; subst e; rw [hz]; exact h
      · exact getS_pickF h
    · exact getS_pickF h
/-- what one operation sees of it -/
theorem InvD.sub (h : InvD N n E0 k0 a0 fr s a E c) (hL : ∀ k, getK L k = s.2 k) (hT : TRel E L c) (us : List Nat) {ks : List Key} (hn : ks.Nodup) :
    ∃ cK cR, FRel N E { σ := pickF s.1 us, T := pickFK s.2 ks } a.tmps cK ∧ TRel E (filtT (fun k => !ks.contains k) L) cR ∧ cle (cadd cK cR) c := by
  obtain ⟨c1, c2, h1, h2, h3⟩ := tRel_splitK ks hn hT
  have he : pickFK s.2 ks = pickFK (getK L) ks := pickFK_congr fun k _ => (hL k).symm
  refine ⟨c1, c2, ⟨h.sz, fun t x hx => h.σ t x (getS_pickF hx), by rw [he]; exact h1, h.g.le (cle_trans (cle_left _ _) h3)⟩, h2, h3⟩
/-- a quiet operation -/
theorem InvD.quiet (h : InvD N n E0 k0 a0 fr s a E c) {d : Nat} {x : V} {st0 : St} (hp : p.k = 0) (hd : d < N) (hx : Rel E x y c0) (hfr : ∀ d, fr' d → fr d) :
    InvD N n E0 k0 a0 fr' (putF (some d) (st0.put d x).σ s.1, updK p (some d) (st0.put d x).T s.2) (a.put (some d) y) E c := by
  obtain ⟨L, hL, hT⟩ := h.T
  have hown : ∀ k, p.own (some d) k = false := fun k => own_zero hp k
  have hf1 : ∀ T : Mem, filtT (p.own (some d)) T = [] := by
    intro T; induction T with
    | nil => rfl
    | cons z r ih => obtain ⟨u, v⟩ := z; simp only [filtT, hown, Bool.false_eq_true, if_false, ih]
  have hf2 : ∀ T : Mem, filtT (fun k => !p.own (some d) k) T = T := by
    intro T
    have e : (fun k => !p.own (some d) k) = fun _ => true := funext fun k => by rw [hown k]; rfl
    rw [e]
    induction T with
    | nil => rfl
    | cons z r ih => obtain ⟨u, v⟩ := z; simp only [filtT, if_true, ih]
  have := InvD.next (fr' := fr') (E' := E) (cA := c0) (cB := c) (dst := some d) (σ' := (st0.put d x).σ) (T' := (st0.put d x).T) (y := y) (p := p) h hL (fun t ht => by cases ht; exact hd) (mono_refl E c0)
    (fun d' x' hd' hx' => by cases hd'; simp only [St.put, getS, if_pos, Option.some.injEq] at hx'; subst hx'; exact hx) (by rw [hf1]; rfl) (by rw [hf2]; exact hT) (by rw [c0_cadd]; exact h.g) (by rw [c0_cadd]; exact Adv.refl _ _) KN.refl
    (fun d' hd' => h.fr d' (hfr d' hd'))
  rw [c0_cadd] at this; exact this
end
end Go.Vm
