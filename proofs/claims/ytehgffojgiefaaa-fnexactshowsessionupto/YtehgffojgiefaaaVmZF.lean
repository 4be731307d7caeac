import Derived.Test.YtehgffojgiefaaaVmZE
set_option autoImplicit false
set_option linter.unusedVariables false
set_option linter.unusedSimpArgs false
namespace Go.Vm

section
variable {P : Program} {N n : Nat} {ops : Array Oper} {call : Call} {plan : List Dp} {hs is : List AI}
theorem fresh_set {listed : Array Bool} {i : Nat} {p : Dp} {ai : AI} (hl : listed.size = ops.size) (hi : i < ops.size) (hp : plan[i]? = some p) (ha : is[i]? = some ai) (hlen : is.length = ops.size)
    (hpairs : pairsOk plan is (ancs ops) = true) {d : Nat} (h : fresh plan is (listed.setIfInBounds i true) d) : fresh plan is listed d ∧ (p.k ≠ 0 → dstI ai ≠ some d) := by
  obtain ⟨j, q, aj, h1, h2, h3, h4, h5⟩ := h
  have hne : j ≠ i := by
    rintro rfl
    have : (listed.setIfInBounds j true).getD j true = true := by simp [Array.getD_eq_getD_getElem?, hl, hi]
    rw [this] at h1; cases h1
  rw [getD_set_ne true (Ne.symm hne)] at h1
  refine ⟨⟨j, q, aj, h1, h2, h3, h4, h5⟩, fun hk hd => ?_⟩
  simp only [pairsOk, List.all_eq_true, List.mem_range] at hpairs
  have hj : j < is.length := (List.getElem?_eq_some_iff.1 h3).1
  rcases Nat.lt_or_gt_of_ne hne with hlt | hlt
  · have := hpairs i (by omega) j hlt
    simp only [h2, h3, hp, ha, Bool.and_eq_true, Bool.or_eq_true, beq_iff_eq] at this
    have h6 := this.2
    rcases h6 with (h6 | h6) | h6
    · exact h4 h6
    · exact hk h6
    · rw [h5, hd] at h6; simp [twoD] at h6
  · have := hpairs j hj i hlt
    simp only [h2, h3, hp, ha, Bool.and_eq_true, Bool.or_eq_true, beq_iff_eq] at this
    have h6 := this.2
    rcases h6 with (h6 | h6) | h6
    · exact hk h6
    · exact h4 h6
    · rw [h5, hd] at h6; simp [twoD] at h6
theorem trI1_dN {o : Oper} {h ai : AI} (ht : trI1 P N o h = some ai) : ∀ t, o.dst = some t → t < N := by
  cases h <;> simp only [trI1] at ht <;> (first | (cases ht; done) | skip) <;> (split at ht) <;> (first | (cases ht; done) | skip) <;> rename_i hd
  case st.isTrue =>
    intro t h; have hd' : o.dst = none := by simpa using hd
    rw [hd'] at h; cases h
  case call.isTrue =>
    simp only [okDst, Bool.and_eq_true, decide_eq_true_eq] at hd
    intro t h
    obtain ⟨h1, h2⟩ := hd
    rw [← h1, h] at h2; simpa using h2
  all_goals
    intro t h
    obtain ⟨h1, h2⟩ := okD_some hd
    rw [h1] at h; cases h; exact h2
theorem trI_dN {o : Oper} {h ai : AI} (ht : trI P N n ops o h = some ai) : ∀ t, o.dst = some t → t < N := by
  unfold trI at ht
  split at ht
  · split at ht
    case h_2 => cases ht
    split at ht
    case isFalse => cases ht
    rename_i hc
    rw [Option.map_eq_some_iff] at ht
    obtain ⟨i', hi', rfl⟩ := ht
    exact trI1_dN hi'
  · split at ht
    case isFalse => cases ht
    rename_i hc
    simp only [Bool.and_eq_true] at hc
    intro t h
    obtain ⟨h1, h2⟩ := okD_some hc.2
    rw [h1] at h; cases h; exact h2
  · split at ht
    case isFalse => cases ht
    exact trI1_dN ht
theorem dstep (hC : CallsOk P call) (hlen : is.length = ops.size) (hpl : plan.length = is.length) (htr : trOps P N n ops ops.toList hs = some is) (hops : opsOk n plan hs is = true) (hpairs : pairsOk plan is (ancs ops) = true)
    {E0 : Env} {k0 : Cnt} {a0 : Act} {Q : Exit → Act → World → Prop} (listed : Array Bool) (i : Nat) (s s1 : FS) (a : Act) (w : World) (K : Act → World → Prop) (hsz : listed.size = ops.size)
    (hi : i ∈ Region.ready .any ops listed) (hF : stepsF call plan is i s = some s1) (hI : ∃ E c, E.w = w ∧ InvD N n E0 k0 a0 (fresh plan is listed) s a E c)
    (hK : ∀ a' w', (∃ E c, E.w = w' ∧ InvD N n E0 k0 a0 (fresh plan is (listed.setIfInBounds i true)) s1 a' E c) → K a' w') : wpOp P ops Q i K a w := by
  obtain ⟨E, c, rfl, hI⟩ := hI
  obtain ⟨h0, o, ho, -⟩ := mem_ready.1 hi
  have hin : i < ops.size := (Array.getElem?_eq_some_iff.1 ho).1
  obtain ⟨h, ai, hh, hai, ht⟩ := (trOps_at htr).2 i o (by simpa using ho)
  unfold stepsF at hF
  split at hF
  case h_2 => cases hF
  rename_i p ai' hp hai'
  rw [hai] at hai'; cases hai'
  have hop := (opsOk_at hops).2.2 i p h ai hp hh hai
  obtain ⟨st', hg, hsome, rfl⟩ := stepF_iff.1 hF
  simp only [opOk, Bool.and_eq_true, Bool.or_eq_true, beq_iff_eq] at hop
  obtain ⟨⟨hkind, hnd⟩, hal⟩ := hop
  have hnd := nodupB_nodup hnd
  obtain ⟨L, hL, hT⟩ := hI.T
  obtain ⟨cK, cR, hFR, hcR, hle⟩ := hI.sub hL hT (usesI ai) hnd
  have hfs := fun d => @fresh_set ops plan is listed i p ai hsz hin hp hai hlen hpairs d
  obtain ⟨hdst, hcases⟩ := trI_cases ht hg hFR
  have hal' : p.k ≠ 0 → (∀ d, dstI ai = some d → n ≤ d) ∧ (∀ k ∈ p.ks, dstI ai ≠ some k.1) ∧ (∀ d, dstI ai = some d → fresh plan is listed d) := by
    intro hk
    have h1 := hal.resolve_left hk
    refine ⟨fun d hd => ?_, fun k hk' hd => ?_, fun d hd => ⟨i, p, ai, h0, hp, hai, hk, hd⟩⟩
    · rw [hd] at h1; simp only [Bool.and_eq_true, decide_eq_true_eq] at h1; exact h1.1
    · rw [hd] at h1
      simp only [Bool.and_eq_true, decide_eq_true_eq, List.all_eq_true, bne_iff_ne, ne_eq] at h1
      exact h1.2 k hk' rfl
  have hdN : ∀ t, dstI ai = some t → t < N := by rw [hdst]; exact trI_dN ht
  have hstay : p.k = 0 → st' = st' → (∀ (x : V) (y : Value), (dstI ai = none) → InvD N n E0 k0 a0 (fresh plan is (listed.setIfInBounds i true)) (putF (dstI ai) st'.σ s.1, updK p (dstI ai) st'.T s.2) (a.put (dstI ai) y) E c) := by
    intro hk _ x y hn
    have e1 : putF none st'.σ s.1 = s.1 := by funext t; simp [putF]
    have e2 : updK p none st'.T s.2 = s.2 := by funext k; simp [updK, own_zero hk]
    rw [hn, e1, e2]
    exact ⟨hI.sz, hI.df, hI.σ, hI.T, hI.g, hI.kn, hI.adv, fun d hd => hI.fr d (hfs d hd).1⟩
  have hquiet : p.k = 0 → ∀ d x y, dstI ai = some d → st' = St.put { σ := pickF s.1 (usesI ai), T := pickFK s.2 p.ks } d x → Rel E x y c0 → K (a.put o.dst y) E.w := by
    intro hk d x y hd hst hx
    refine hK _ _ ⟨E, c, rfl, ?_⟩
    rw [← hdst, hd, hst]
    exact hI.quiet hk (hdN d hd) hx fun d' hd' => (hfs d' hd').1
  have hro : p.k = 2 → ∀ y E3 c5 r, E3.μ = E.μ → Rel E3.cl r y c5 → Good E3 c5 → Adv E c0 E3 c5 → st' = bringO o.dst r { σ := pickF s.1 (usesI ai), T := pickFK s.2 p.ks } → K (a.put o.dst y) E3.w := by
    intro hk y E3 c5 r k1 k2 k3 k4 k5
    have hk0 : p.k ≠ 0 := by omega
    obtain ⟨g1, g2, g3⟩ := hal' hk0
    rw [← hdst] at k5 ⊢
    obtain ⟨E4, c4, hw4, hI4⟩ := hI.ro (fr' := fresh plan is (listed.setIfInBounds i true)) hL hT hk hdN g3 (fun d hd => ⟨(hfs d hd).1, (hfs d hd).2 hk0⟩) g1 g2 k5 (fun _ _ => trivial) k1 k2 k3 k4
    rw [← hw4]
    exact hK _ _ ⟨E4, c4, rfl, hI4⟩
  unfold wpOp
  rw [ho]
  simp only
  by_cases hk1 : p.k = 1
  · refine trI_wp hC ht hg hFR ?_
    intro y E' c' hF' hkn hkp hA
    obtain ⟨g1, g2, g3⟩ := hal' (by omega)
    rw [← hdst] at hF' hkp ⊢
    obtain ⟨c'', hI'⟩ := hI.write (fr' := fresh plan is (listed.setIfInBounds i true)) hL hcR hle hk1 hdN g3 (fun d hd => ⟨(hfs d hd).1, (hfs d hd).2 (by omega)⟩) hF' hkn hkp hA
    exact hK _ _ ⟨E', c'', rfl, hI'⟩
  rcases hkind with (⟨hk, hq⟩ | hk) | ⟨hk, hq⟩
  · rcases hcases with ⟨hw, hn1, hn2⟩ | ⟨hw, ai1, h1, h2⟩
    · rw [hw, if_neg (by simp)]
      cases hd : dstI ai with
      | none =>
        have := hstay hk rfl (.d) undef hd
        rw [hdst] at this
        exact hK _ _ ⟨E, c, rfl, by rw [hdst]; exact this⟩
      | some d => exact hquiet hk d undefV undef hd (hn2 d (by rw [← hdst, hd])).2 undef_rel
    · rw [if_pos hw]
      refine .inl (comesQ_wp (trI1_quiet hq h1 h2 hFR) ?_)
      intro d x y hd hdn hst hx
      exact hquiet hk d x y (by rw [hdst, hd]) hst hx
  · exact absurd hk hk1
  · rcases hcases with ⟨hw, hn1, hn2⟩ | ⟨hw, ai1, h1, h2⟩
    · rw [hw, if_neg (by simp)]
      refine hro hk undef E c0 undefV rfl (by simp [undefV, undef, Rel, aggB]) (hI.g.le fun _ => Nat.zero_le _) (Adv.refl _ _) ?_
      cases hd : o.dst with
      | none => simp only [bringO]; exact hn1 hd
      | some d =>
        simp only [bringO, bring, undefV, zeroB, Bool.not_true, Bool.false_eq_true, if_false]
        exact (hn2 d hd).2
    · rw [if_pos hw]
      exact .inl (ro_wp hC hq h1 h2 hFR fun y E3 c5 r k1 k2 k3 k4 k5 => hro hk y E3 c5 r k1 k2 k3 k4 k5)
end
end Go.Vm
