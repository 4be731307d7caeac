import Derived.Test.YtehgffojgiefaaaVmX
import Derived.Test.YtehgffojgiefaaaVmA
set_option autoImplicit false
set_option linter.unusedVariables false
set_option linter.unusedSimpArgs false
namespace Go.Vm

/-! ### states as functions -/
abbrev FS := (Nat → Option V) × (Key → Option Ob)
def toFS (st : St) : FS := (getS st.σ, getK st.T)
def pickF (f : Nat → Option V) : List Nat → Sl
  | [] => []
  | t :: r => match f t with
    | some x => (t, x) :: pickF f r
    | none => pickF f r
def pickFK (f : Key → Option Ob) : List Key → Mem
  | [] => []
  | k :: r => match f k with
    | some x => (k, x) :: pickFK f r
    | none => pickFK f r
def updK (p : Dp) (d : Option Nat) (T' : Mem) (g : Key → Option Ob) : Key → Option Ob := fun k => if p.own d k then getK T' k else g k
def stepF (call : Call) (p : Dp) (i : AI) (s : FS) : Option FS :=
  match gstep call { σ := pickF s.1 (usesI i), T := pickFK s.2 p.ks } i with
  | none => none
  | some st' => match dstI i with
    | none => some (s.1, updK p none st'.T s.2)
    | some d => match getS st'.σ d with
      | some x => some (fun t => if d = t then some x else s.1 t, updK p (some d) st'.T s.2)
      | none => none
theorem pickS_F (σ : Sl) : ∀ us, pickS σ us = pickF (getS σ) us
  | [] => rfl
  | u :: us => by simp only [pickS, pickF, pickS_F σ us]; rfl
theorem pickK_F (T : Mem) : ∀ ks, pickK T ks = pickFK (getK T) ks
  | [] => rfl
  | k :: ks => by simp only [pickK, pickFK, pickK_F T ks]; rfl
theorem pickF_congr {f g : Nat → Option V} : ∀ {us : List Nat}, (∀ u ∈ us, f u = g u) → pickF f us = pickF g us
  | [], h => rfl
  | u :: us, h => by simp only [pickF, h u (List.mem_cons_self), pickF_congr (fun v hv => h v (List.mem_cons_of_mem _ hv))]
theorem pickFK_congr {f g : Key → Option Ob} : ∀ {us : List Key}, (∀ u ∈ us, f u = g u) → pickFK f us = pickFK g us
  | [], h => rfl
  | u :: us, h => by simp only [pickFK, h u (List.mem_cons_self), pickFK_congr (fun v hv => h v (List.mem_cons_of_mem _ hv))]
theorem getK_filt (f : Key → Bool) : ∀ (T : Mem) (k : Key), getK (filtT f T) k = if f k then getK T k else none
  | [], k => by simp [filtT, getK]
  | (u, x) :: r, k => by
    simp only [filtT]
    split
    · rename_i hu
      simp only [getK, getK_filt f r k]
      split
      · rename_i e; subst e; rw [if_pos hu]
      · rfl
    · rename_i hu
      simp only [getK, getK_filt f r k]
      split
      · rename_i hk
        rw [if_neg (by rintro rfl; exact hu hk)]
      · rfl
theorem getK_append : ∀ (A B : Mem) (k : Key), getK (A ++ B) k = (getK A k).or (getK B k)
  | [], B, k => by simp [getK]
  | (u, x) :: r, B, k => by
    simp only [List.cons_append, getK, getK_append r B k]
    split <;> rfl
theorem own_zero {p : Dp} {d : Option Nat} (h : p.k = 0) (k : Key) : p.own d k = false := by simp [Dp.own, h]
theorem getK_memD (p : Dp) (d : Option Nat) (T' T : Mem) : getK (memD p d T' T) = updK p d T' (getK T) := by
  funext k
  unfold memD updK
  split
  · rename_i h; rw [own_zero h]; rfl
  · rw [getK_append, getK_filt, getK_filt]
    cases p.own d k <;> simp
theorem stepD_F {call : Call} {p : Dp} {i : AI} {st st1 : St} (h : stepD call p i st = some st1) : stepF call p i (toFS st) = some (toFS st1) := by
  unfold stepD at h
  unfold stepF
  rw [pickS_F, pickK_F] at h
  simp only [toFS] at h ⊢
  split at h
  · cases h
  · rename_i st' hg
    rw [hg]
    simp only
    split at h
    · rename_i hd
      simp only [Option.some.injEq] at h; subst h
      rw [hd]
      simp only [getK_memD]
    · rename_i d hd
      rw [hd]
      simp only
      split at h
      · rename_i x hx
        simp only [Option.some.injEq] at h; subst h
        rw [hx]
        simp only [getK_memD]
        rfl
      · cases h
/-! two operations that do not touch each other -/
def offD (d : Option Nat) (us : List Nat) : Bool := match d with | some d => !us.contains d | none => true
def twoD (d e : Option Nat) : Bool := match d, e with | some d, some e => d != e | _, _ => true
def swapOk (pj : Dp) (aj : AI) (pi : Dp) (ai : AI) : Bool :=
  offD (dstI aj) (usesI ai) && offD (dstI ai) (usesI aj) && twoD (dstI aj) (dstI ai) && pi.ks.all (fun k => !pj.own (dstI aj) k) && pj.ks.all (fun k => !pi.own (dstI ai) k)
def putF (d : Option Nat) (σ' : Sl) (f : Nat → Option V) : Nat → Option V := fun t => if d = some t then getS σ' t else f t
theorem stepF_iff {call : Call} {p : Dp} {i : AI} {s s1 : FS} : stepF call p i s = some s1 ↔
    ∃ st', gstep call { σ := pickF s.1 (usesI i), T := pickFK s.2 p.ks } i = some st' ∧ (∀ d, dstI i = some d → (getS st'.σ d).isSome = true) ∧ s1 = (putF (dstI i) st'.σ s.1, updK p (dstI i) st'.T s.2) := by
  unfold stepF
  cases hg : gstep call { σ := pickF s.1 (usesI i), T := pickFK s.2 p.ks } i with
  | none => simp
  | some st' =>
    simp only [Option.some.injEq, exists_eq_left']
    cases hd : dstI i with
    | none =>
      simp only [Option.some.injEq, reduceCtorEq, false_implies, implies_true, true_and]
      have he : putF none st'.σ s.1 = s.1 := by funext t; simp [putF]
      rw [he]
      exact ⟨fun h => h.symm, fun h => h.symm⟩
    | some d =>
      simp only [Option.some.injEq, forall_eq']
      have he : ∀ x, getS st'.σ d = some x → (fun t => if d = t then some x else s.1 t) = putF (some d) st'.σ s.1 := by
        intro x hx; funext t
        simp only [putF, Option.some.injEq]
        split
        · rename_i e; subst e; exact hx.symm
        · rfl
      cases hx : getS st'.σ d with
      | none => simp
      | some x =>
        simp only [Option.some.injEq, Option.isSome_some, true_and]
        rw [he x hx]
        exact ⟨fun h => h.symm, fun h => h.symm⟩
theorem swaps_ok {call : Call} {pj pi : Dp} {aj ai : AI} (h : swapOk pj aj pi ai = true) {s s1 s2 : FS} (h1 : stepF call pj aj s = some s1) (h2 : stepF call pi ai s1 = some s2) :
    ∃ s1', stepF call pi ai s = some s1' ∧ stepF call pj aj s1' = some s2 := by
  simp only [swapOk, Bool.and_eq_true, List.all_eq_true, Bool.not_eq_true'] at h
  obtain ⟨⟨⟨⟨hu1, hu2⟩, hdd⟩, hk1⟩, hk2⟩ := h
  obtain ⟨stj, g1, x1, rfl⟩ := stepF_iff.1 h1
  obtain ⟨sti, g2, x2, rfl⟩ := stepF_iff.1 h2
  have off : ∀ (d : Option Nat) (us : List Nat) (σ' : Sl) (f : Nat → Option V), offD d us = true → ∀ u ∈ us, putF d σ' f u = f u := by
    intro d us σ' f ho u hu
    unfold putF
    rw [if_neg]
    rintro rfl
    simp only [offD, Bool.not_eq_true', List.contains_eq_mem, decide_eq_false_iff_not] at ho
    exact ho hu
  have upd : ∀ (p : Dp) (d : Option Nat) (T' : Mem) (g : Key → Option Ob) (k : Key), p.own d k = false → updK p d T' g k = g k := by
    intro p d T' g k hk; simp [updK, hk]
  have e1 : pickF (putF (dstI aj) stj.σ s.1) (usesI ai) = pickF s.1 (usesI ai) := pickF_congr (off _ _ _ _ hu1)
  have e2 : pickFK (updK pj (dstI aj) stj.T s.2) pi.ks = pickFK s.2 pi.ks := pickFK_congr fun k hk => upd _ _ _ _ _ (hk1 k hk)
  have e3 : pickF (putF (dstI ai) sti.σ s.1) (usesI aj) = pickF s.1 (usesI aj) := pickF_congr (off _ _ _ _ hu2)
  have e4 : pickFK (updK pi (dstI ai) sti.T s.2) pj.ks = pickFK s.2 pj.ks := pickFK_congr fun k hk => upd _ _ _ _ _ (hk2 k hk)
  simp only [e1, e2] at g2
  refine ⟨(putF (dstI ai) sti.σ s.1, updK pi (dstI ai) sti.T s.2), stepF_iff.2 ⟨sti, g2, x2, rfl⟩, stepF_iff.2 ⟨stj, by simp only [e3, e4]; exact g1, x1, ?_⟩⟩
  refine Prod.ext (funext fun t => ?_) (funext fun k => ?_)
  · simp only [putF]
    by_cases a1 : dstI aj = some t
    · by_cases a2 : dstI ai = some t
      · exfalso; rw [a1, a2] at hdd; simp [twoD] at hdd
      · rw [if_neg a2, if_pos a1, if_pos a1]
    · rw [if_neg a1, if_neg a1]
  · simp only [updK]
    cases b1 : pj.own (dstI aj) k with
    | false => rfl
    | true =>
      cases b2 : pi.own (dstI ai) k with
      | false => rfl
      | true =>
        exfalso
        have c1 := b1; have c2 := b2
        simp only [Dp.own, Bool.or_eq_true, Bool.and_eq_true, List.contains_iff_mem, beq_iff_eq, bne_iff_ne] at b1 b2
        rcases b1 with ⟨-, b1⟩ | ⟨-, b1⟩
        · rw [hk2 k b1] at c2; cases c2
        · rcases b2 with ⟨-, b2⟩ | ⟨-, b2⟩
          · rw [hk1 k b2] at c1; cases c1
          · rw [b1, b2] at hdd; simp [twoD] at hdd
end Go.Vm
