import Derived.Test.YtehgffojgiefaaaVmZB
set_option autoImplicit false
set_option linter.unusedVariables false
set_option linter.unusedSimpArgs false
namespace Go.Vm

section
variable {P : Program} {N n : Nat} {E0 E E' : Env} {k0 c cK cR c' : Cnt} {a0 a : Act} {fr fr' : Nat → Prop} {s : FS} {dst : Option Nat} {st' : St} {L : Mem} {y : Value} {p : Dp} {call : Call}
theorem names_keep (h : InvD N n E0 k0 a0 fr s a E c) (hkp : Keeps dst E E') (hdf : ∀ d, dst = some d → fr d) : ∀ k l, E.μ k = some l → E'.μ k = some l := by
  intro k l hk
  by_cases hd : dst = some k.1
  · have := h.fr k.1 (hdf _ hd) k.2
    rw [hk] at this; cases this
  · rw [hkp k hd]; exact hk
/-- an operation that writes to its keys -/
theorem InvD.write (h : InvD N n E0 k0 a0 fr s a E c) (hL : ∀ k, getK L k = s.2 k) (hcR : TRel E (filtT (fun k => !p.ks.contains k) L) cR) (hle : cle (cadd cK cR) c)
    (hp : p.k = 1) (hd : ∀ t, dst = some t → t < N) (hdf : ∀ d, dst = some d → fr d) (hfr : ∀ d, fr' d → fr d ∧ dst ≠ some d)
    (hF : FRel N E' st' (a.put dst y).tmps c') (hkn : KN n E E') (hkp : Keeps dst E E') (hA : Adv E cK E' c') :
    ∃ c'', InvD N n E0 k0 a0 fr' (putF dst st'.σ s.1, updK p dst st'.T s.2) (a.put dst y) E' c'' := by
  have hμ := names_keep h hkp hdf
  have hg : Good E (cadd cK cR) := h.g.le hle
  have hmono := mono_frame hg hA hμ
  have hgood := good_frame hg hA hF.g
  obtain ⟨cA, h1, h2⟩ := tRel_filt (p.own dst) hF.T
  have he : filtT (fun k => !p.own dst k) L = filtT (fun k => !p.own dst k) (filtT (fun k => !p.ks.contains k) L) := by
    rw [filt_filt]
    congr 1
    funext u
    cases hc : p.ks.contains u with
    | false => simp
    | true =>
      have : p.own dst u = true := by unfold Dp.own; rw [hp, hc]; rfl
      rw [this]; rfl
  obtain ⟨cB, h3, h4⟩ := tRel_filt (fun k => !p.own dst k) (tRel_mono hcR hmono)
  rw [← he] at h3
  have hle2 : cle (cadd cA cB) (cadd c' cR) := cle_add h2 h4
  refine ⟨cadd cA cB, InvD.next h hL hd (hmono.le fun _ => Nat.zero_le _) ?_ h1 h3 (hgood.le hle2) ((adv_le (adv_frame cR hA) hle).le hle2) hkn ?_⟩
  · intro d x hdd hx
    obtain ⟨v, hv, hr⟩ := hF.σ d x hx
    subst hdd
    have hdN := hd d rfl
    have : (a.put (some d) y).tmps[d]? = some y := by simp [Act.put, h.sz, hdN]
    rw [this] at hv; cases hv
    exact hr
  · intro d hd' j
    obtain ⟨h5, h6⟩ := hfr d hd'
    rw [hkp (d, j) h6]
    exact h.fr d h5 j
/-- a call that only reads -/
theorem wipe_filt {d : Nat} {st : St} : filtT (fun k => decide (k.1 = d)) (wipe d st).T = [] := by
  have : ∀ T : Mem, (∀ k ob, (k, ob) ∈ T → k.1 ≠ d) → filtT (fun k => decide (k.1 = d)) (killT d T) = [] := by
    intro T hT
    induction T with
    | nil => rfl
    | cons z r ih =>
      obtain ⟨k, e, xs⟩ := z
      have hk := hT k _ (List.mem_cons_self)
      simp only [killT, filtT]
      rw [if_neg (by simpa using hk)]
      exact ih fun k ob h => hT k ob (List.mem_cons_of_mem _ h)
  exact this _ fun k ob hk => dropAt_free d hk
theorem filt_append (f : Key → Bool) : ∀ A B : Mem, filtT f (A ++ B) = filtT f A ++ filtT f B
  | [], B => rfl
  | (k, x) :: r, B => by
    simp only [List.cons_append, filtT, filt_append f r B]
    split <;> rfl
theorem filt_pick {f : Key → Bool} {g : Key → Option Ob} : ∀ {ks : List Key}, (∀ k ∈ ks, f k = false) → filtT f (pickFK g ks) = []
  | [], h => rfl
  | k :: ks, h => by
    simp only [pickFK]
    split
    · simp only [filtT, h k (List.mem_cons_self), Bool.false_eq_true, if_false]
      exact filt_pick fun u hu => h u (List.mem_cons_of_mem _ hu)
    · exact filt_pick fun u hu => h u (List.mem_cons_of_mem _ hu)
theorem InvD.ro (h : InvD N n E0 k0 a0 fr s a E c) (hL : ∀ k, getK L k = s.2 k) (hT : TRel E L c) (hp : p.k = 2) (hd : ∀ t, dst = some t → t < N) (hdf : ∀ d, dst = some d → fr d) (hfr : ∀ d, fr' d → fr d ∧ dst ≠ some d)
    (hnk : ∀ t, dst = some t → n ≤ t) (hks : ∀ k ∈ p.ks, dst ≠ some k.1) {σ0 : Sl} {r : V} {c5 : Cnt} (hst : st' = bringO dst r { σ := σ0, T := pickFK s.2 p.ks }) (hσd : ∀ d, dst = some d → True)
    (hμ : E'.μ = E.μ) (hr : Rel E'.cl r y c5) (hg5 : Good E' c5) (hA : Adv E c0 E' c5) :
    ∃ E4 c4, E4.w = E'.w ∧ InvD N n E0 k0 a0 fr' (putF dst st'.σ s.1, updK p dst st'.T s.2) (a.put dst y) E4 c4 := by
  have hg' : Good E (cadd c0 c) := by rw [c0_cadd]; exact h.g
  have hM : Mono E E' c := mono_frame hg' hA (fun k l hk => by rw [hμ]; exact hk)
  have hgood : Good E' (cadd c5 c) := good_frame hg' hA hg5
  have hadv : Adv E c E' (cadd c5 c) := by have := adv_frame c hA; rwa [c0_cadd] at this
  have hown : ∀ k, p.own dst k = decide (dst = some k.1) := fun k => by
    simp only [Dp.own, hp]
    rw [Bool.eq_iff_iff]
    cases dst <;> simp
  obtain ⟨cB, hB, hBle⟩ := tRel_filt (fun k => !p.own dst k) (tRel_mono hT hM)
  cases dst with
  | none =>
    have e1 : ∀ T, filtT (p.own none) T = [] := by
      intro T; induction T with
      | nil => rfl
      | cons z t ih => obtain ⟨k, x⟩ := z; simp only [filtT, hown k]; rw [if_neg (by simp)]; exact ih
    refine ⟨E', cadd c0 cB, rfl, InvD.next h hL hd (hM.le fun _ => Nat.zero_le _) (fun d x hdd => by cases hdd) (by rw [e1]; rfl) hB (hgood.le ?_) (hadv.le ?_) (fun k _ => by rw [hμ]) (fun d hd' j => by rw [hμ]; exact h.fr d (hfr d hd').1 j)⟩
    · rw [c0_cadd]; exact cle_trans hBle (cle_right _ _)
    · rw [c0_cadd]; exact cle_trans hBle (cle_right _ _)
  | some d =>
    have hdN := hd d rfl
    have hfree : ∀ j, E'.μ (d, j) = none := fun j => by rw [hμ]; exact h.fr d (hdf d rfl) j
    have hownd : p.own (some d) = fun k : Key => decide (k.1 = d) := funext fun k => by rw [hown]; simp [eq_comm]
    simp only [bringO, bring] at hst
    split at hst
    · -- something owned
      obtain ⟨E4, c6, j', hn, h1, h2, h3⟩ := open_V (d := d) hfree (rel_mono hr (mono_cl E' c5))
      subst hst
      have hA4 : filtT (p.own (some d)) ((openV d r).2 ++ (wipe d { σ := σ0, T := pickFK s.2 p.ks }).T) = filtT (p.own (some d)) (openV d r).2 := by
        rw [filt_append, hownd, wipe_filt, List.append_nil]
      obtain ⟨cA, h4, h5⟩ := tRel_filt (p.own (some d)) h2
      have hle : cle (cadd cA cB) (cadd c5 c) := fun b => by have := h5 b; have := h3 b; have := hBle b; simp only [cadd] at *; omega
      have hMn := hn.mono (E := E') (E' := E4)
      have hg4 : Good E4 (cadd cA cB) := good_names hn.hw hn.hI hle hgood
      refine ⟨E4, cadd cA cB, hn.hw, InvD.next h hL hd ?_ ?_ (by simp only [hA4]; exact h4) (tRel_mono hB (hn.mono _)) hg4 ?_ ?_ ?_⟩
      · exact ⟨fun τ b hb => ⟨by rw [hn.hI]; exact (hM.hI τ b hb).1, by rw [hn.hw]; exact (hM.hI τ b hb).2⟩, fun b hb => absurd rfl hb, fun k l hk => hn.hμ k l (by rw [hμ]; exact hk)⟩
      · intro d' x hdd hx
        cases hdd
        simp only [getS, if_pos, Option.some.injEq] at hx
        subst hx; exact h1
      · exact hadv.trans (adv_names hn.hw hn.hI hle)
      · intro k hk
        rw [hn.hout k (by have := hnk d rfl; omega), hμ]
      · intro d' hd' j
        obtain ⟨h6, h7⟩ := hfr d' hd'
        rw [hn.hout (d', j) (by rintro rfl; exact h7 rfl), hμ]
        exact h.fr d' h6 j
    · rename_i hz
      have h0 := rel_zero hr (by simpa using hz)
      subst h0
      subst hst
      have e1 : filtT (p.own (some d)) (St.put { σ := σ0, T := pickFK s.2 p.ks } d r).T = [] := filt_pick fun k hk => by
        rw [hown]; simpa using hks k hk
      rw [c0_cadd] at hgood hadv
      refine ⟨E', cadd c0 cB, rfl, InvD.next h hL hd (hM.le fun _ => Nat.zero_le _) ?_ (by rw [e1]; rfl) hB (hgood.le ?_) (hadv.le ?_) (fun k _ => by rw [hμ]) (fun d hd' j => by rw [hμ]; exact h.fr d (hfr d hd').1 j)⟩
      · intro d' x hdd hx
        cases hdd
        simp only [St.put, getS, if_pos, Option.some.injEq] at hx
        subst hx
        exact rel_mono hr (mono_cl E' c0)
      · rw [c0_cadd]; exact hBle
      · rw [c0_cadd]; exact hBle
end
end Go.Vm
