import Derived.Test.YtehgffojgiefaaaVmQ
set_option autoImplicit false
set_option linter.unusedVariables false
set_option linter.unusedSimpArgs false
namespace Go.Vm

/-! ### calls -/
def After (P : Program) (w : World) (R : Value → World → Prop) : Result Next → Prop
  | .ok (.enter f args) w' => w' = w ∧ Calls P f args w (fun e w'' => ∃ y, e = .returned y ∧ R y w'')
  | .ok (.value y) w' => R y w'
  | _ => False
theorem After.mono {P : Program} {w : World} {R R' : Value → World → Prop} {r : Result Next} (h : After P w R r) (hr : ∀ y w', R y w' → R' y w') : After P w R' r := by
  unfold After at *
  split
  · exact ⟨h.1, h.2.mono fun e w' ⟨y, h1, h2⟩ => ⟨y, h1, hr _ _ h2⟩⟩
  · exact hr _ _ h
  · rename_i h1 h2
    split at h
    · exact (h1 _ _ _ rfl).elim
    · exact (h2 _ _ rfl).elim
    · exact h
def CallOk (P : Program) (f : Nat) (xs : List V) (r : V) (outs : List V) : Prop :=
  ∀ (E : Env) (vs : List Value) (c : Cnt), RelL E.cl xs vs c → Good E c →
    After P E.w (fun y w' => ∃ E' cr co, E'.w = w' ∧ Rel E'.cl r y cr ∧ RelL E'.cl outs vs co ∧ Good E' (cadd cr co) ∧ Adv E c E' (cadd cr co)) ((callFunc f vs.toArray).run P E.w)
def CallsOk (P : Program) (call : Call) : Prop := ∀ f xs r outs, call f xs = some (r, outs) → CallOk P f xs r outs

section
variable {P : Program} {N : Nat} {E : Env} {c : Cnt} {st st' : St} {a : Act} {call : Call}

theorem cl_drop (E : Env) (d : Nat) : (E.drop d).cl = E.cl := rfl
theorem bring_rel {d : Nat} {x : V} {y : Value} {c1 c2 : Cnt} (hsz : a.tmps.size = N) (hσ : SRel E st.σ a.tmps) (hT : TRel E st.T c1) (hx : Rel E.cl x y c2) (hg : Good E (cadd c1 c2)) (hd : d < N) :
    ∃ E' c', E'.w = E.w ∧ E'.I = E.I ∧ Keeps (some d) E E' ∧ FRel N E' (bring d x st) (a.put (some d) y).tmps c' ∧ cle c' (cadd c1 c2) := by
  unfold bring
  split
  · obtain ⟨c3, hσ1, hT1, hle1⟩ := wipe_rel d hσ hT
    have hx1 : Rel (E.drop d) x y c2 := rel_mono hx (mono_cl (E.drop d) c2)
    obtain ⟨E', c', j', hn, h1, h2, h3⟩ := open_V (d := d) (fun i => drop_free E d i) hx1
    have hcc : cle (cadd c' c3) (cadd c1 c2) := fun b => by have := hle1 b; have := h3 b; simp only [cadd] at *; omega
    refine ⟨E', cadd c' c3, hn.hw, hn.hI, keeps_drop hn.hout, ⟨by simpa [Act.put] using hsz, ?_, ?_, good_names hn.hw hn.hI hcc (hg.drop d)⟩, hcc⟩
    · exact sRel_put (sRel_mono hσ1 (hn.mono _)) h1 (by rw [hsz]; exact hd)
    · exact tRel_append h2 (tRel_mono hT1 (hn.mono _))
  · rename_i hz
    have h0 := rel_zero hx (by simpa using hz)
    subst h0
    refine ⟨E, c1, rfl, rfl, Keeps.refl, ?_, cle_left _ _⟩
    have hF : FRel N E st a.tmps c1 := ⟨hsz, hσ, hT, hg.le (cle_left _ _)⟩
    exact hF.put (rel_mono hx (mono_cl E c0)) hd
theorem bringO_rel {d : Option Nat} {x : V} {y : Value} {c1 c2 : Cnt} (hsz : a.tmps.size = N) (hσ : SRel E st.σ a.tmps) (hT : TRel E st.T c1) (hx : Rel E.cl x y c2) (hg : Good E (cadd c1 c2)) (hd : ∀ t, d = some t → t < N) :
    ∃ E' c', E'.w = E.w ∧ E'.I = E.I ∧ Keeps d E E' ∧ FRel N E' (bringO d x st) (a.put d y).tmps c' ∧ cle c' (cadd c1 c2) := by
  cases d with
  | some d => exact bring_rel hsz hσ hT hx hg (hd d rfl)
  | none => exact ⟨E, c1, rfl, rfl, Keeps.refl, ⟨by simpa [Act.put] using hsz, by simpa [Act.put, bringO] using hσ, hT, hg.le (cle_left _ _)⟩, cle_left _ _⟩

/-! what comes back of the arguments -/
section
variable {E1 E' : Env} {T : Mem}
theorem back1_rel {cT : Cnt} (hT : TRel E T cT) (hw1 : E1.w = E'.w) (hcl : E1.cl = E'.cl) (hμ1 : E1.μ = E.μ) (hsizes : ∀ b n, bsize E.w b = some n → bsize E'.w b = some n)
    {x y : V} {v : Value} {c' : Cnt} (hx : Rel E x v c0) (hy : Rel E'.cl y v c') : ∃ cb, TRel E1 (back1 T x y) cb ∧ cle cb c' := by
  have hnil : ∃ cb, TRel E1 [] cb ∧ cle cb c' := ⟨c0, rfl, fun _ => Nat.zero_le _⟩
  unfold back1
  split
  · rename_i k lo len e xs
    split
    case h_2 => exact hnil
    rename_i ob hg
    split
    case isFalse => exact hnil
    rename_i hc
    obtain ⟨rfl, rfl⟩ := hc
    obtain ⟨co, cr, ho, -, -⟩ := tRel_get hT hg
    simp only [Rel] at hx hy
    obtain ⟨-, hx⟩ := hx
    rcases ho with ⟨⟨A0, h1⟩, h2, h3⟩ | ⟨b, base, lim, cells, ty, fz, c3, hμ, hw, hl, hf, hs, hr, -⟩
    · rcases hx with ⟨A, hA, -, -, rfl⟩ | ⟨b, base, e, lim, cap, A, hμ', -⟩
      · rcases hy with ⟨rfl, -, rfl⟩ | ⟨b', base', cap', cells', T', fz', c1, hv, hpos, -⟩
        · exact ⟨c0, ⟨c0, c0, .inl ⟨⟨A0, by rw [hμ1]; exact h1⟩, rfl, rfl⟩, rfl, rfl⟩, cle_refl _⟩
        · simp only [Value.slice.injEq] at hv; omega
      · rw [h1] at hμ'; cases hμ'
    · rcases hx with ⟨A, h1, -⟩ | ⟨b2, base2, e2, lim2, cap, A, hμ', hle, hroom, hpos, hA, rfl⟩
      · rw [hμ] at h1; cases h1
      · rw [hμ] at hμ'; cases hμ'
        have hp := hpos trivial
        have hA' := hA.resolve_left (by omega)
        rcases hy with ⟨rfl, ⟨A2, hv⟩, rfl⟩ | ⟨b', base', cap', cells', T', fz', c1, hv, hpos', hle', hs', hw', hf', hr', rfl⟩
        · simp only [Value.slice.injEq] at hv; omega
        · simp only [Value.slice.injEq, Option.some.injEq] at hv
          obtain ⟨hA2, hln, rfl⟩ := hv
          rw [hA'] at hA2
          simp only [Addr.mk.injEq, Nat.zero_mul, Nat.add_zero, and_true] at hA2
          obtain ⟨rfl, rfl⟩ := hA2
          have hsz := hsizes b lim (by simp only [bsize, hw, hl])
          have hw'' : E'.w.heap[b]? = some (.cells cells' T' fz') := hw'
          simp only [bsize, hw'', Option.some.injEq] at hsz
          have hm : xs.length * ob.1 ≤ cap * ob.1 := Nat.mul_le_mul_right _ hle'
          refine ⟨cadd (delta b) c1, ⟨_, c0, .inr ⟨b, base, lim, cells', T', fz', c1, by rw [hμ1]; exact hμ, by rw [hw1]; exact hw'', hsz, hf', by simp only; omega, ?_, rfl⟩, rfl, rfl⟩, cle_refl _⟩
          exact relR_mono hr' (by have := mono_cl E1 c1; rw [hcl] at this; exact this)
  · rename_i k idx off x'
    split
    case h_2 => exact hnil
    rename_i ob hg
    split
    case isFalse => exact hnil
    rename_i hc
    obtain ⟨rfl, rfl, hc⟩ := hc
    obtain ⟨co, cr, ho, -, -⟩ := tRel_get hT hg
    simp only [Rel] at hx hy
    obtain ⟨-, b2, base2, e2, lim2, hμ', rfl⟩ := hx
    rcases ho with ⟨⟨A0, h1⟩, h2, h3⟩ | ⟨b, base, lim, cells, ty, fz, c3, hμ, hw, hl, hf, hs, hr, -⟩
    · rw [h1] at hμ'; cases hμ'
    · rw [hμ] at hμ'; cases hμ'
      obtain ⟨b', base', cells', T', fz', c1, z, hv, hle', hw', hf', hz, hzl, hzo, hr', rfl⟩ := hy
      simp only [Value.pointer.injEq, Option.some.injEq, Addr.mk.injEq, Nat.zero_mul, Nat.add_zero, and_true] at hv
      obtain ⟨rfl, rfl⟩ := hv
      have hsz := hsizes b2 lim2 (by simp only [bsize, hw, hl])
      have hw'' : E'.w.heap[b2]? = some (.cells cells' T' fz') := hw'
      simp only [bsize, hw'', Option.some.injEq] at hsz
      refine ⟨cadd (delta b2) c1, ⟨_, c0, .inr ⟨b2, base2, lim2, cells', T', fz', c1, by rw [hμ1, ← hc]; exact hμ, by rw [hw1]; exact hw'', hsz, hf', ?_, ?_, rfl⟩, rfl, rfl⟩, cle_refl _⟩
      · simp only [List.length_singleton, Nat.one_mul, hzl]; omega
      · simp only [List.length_singleton, Nat.one_mul, hzl]
        rw [← hz]
        exact relR_one rfl hzl hzo (rel_mono hr' (by have := mono_cl E1 c1; rw [hcl] at this; exact this))
  · exact hnil
theorem backL_rel {cT : Cnt} (hT : TRel E T cT) (hw1 : E1.w = E'.w) (hcl : E1.cl = E'.cl) (hμ1 : E1.μ = E.μ) (hsizes : ∀ b n, bsize E.w b = some n → bsize E'.w b = some n) :
    ∀ {xs ys : List V} {vs : List Value} {c' : Cnt}, RelL E xs vs c0 → RelL E'.cl ys vs c' → ∃ cb, TRel E1 (backL T xs ys) cb ∧ cle cb c'
  | [], ys, vs, c', hx, hy => ⟨c0, by simp [backL, TRel], fun _ => Nat.zero_le _⟩
  | x :: xs, [], vs, c', hx, hy => ⟨c0, by simp [backL, TRel], fun _ => Nat.zero_le _⟩
  | x :: xs, y :: ys, vs, c', hx, hy => by
    simp only [RelL] at hx hy
    obtain ⟨v, t, d1, d2, rfl, h1, h2, hc⟩ := hx
    obtain ⟨v', t', e1, e2, he, h3, h4, rfl⟩ := hy
    simp only [List.cons.injEq] at he
    obtain ⟨rfl, rfl⟩ := he
    obtain ⟨rfl, rfl⟩ := cz hc.symm.symm rfl
    obtain ⟨b1, h5, h6⟩ := back1_rel hT hw1 hcl hμ1 hsizes h1 h3
    obtain ⟨b2, h7, h8⟩ := backL_rel hT hw1 hcl hμ1 hsizes h2 h4
    exact ⟨cadd b1 b2, by simp only [backL]; exact tRel_append h5 h7, cle_add h6 h8⟩
theorem back_rel {cT : Cnt} (hT : TRel E T cT) (hw1 : E1.w = E'.w) (hcl : E1.cl = E'.cl) (hμ1 : E1.μ = E.μ) (hsizes : ∀ b n, bsize E.w b = some n → bsize E'.w b = some n)
    {x y : V} {v : Value} {c' : Cnt} (hx : Rel E x v c0) (hy : Rel E'.cl y v c') : ∃ cb, TRel E1 (back T x y) cb ∧ cle cb c' := by
  unfold back
  split
  · simp only [Rel] at hx hy
    obtain ⟨vs, rfl, h1⟩ := hx
    obtain ⟨vs', he, h2⟩ := hy
    simp only [Value.agg.injEq] at he; subst he
    exact backL_rel hT hw1 hcl hμ1 hsizes h1 h2
  · simp only [Rel] at hx hy
    obtain ⟨fs, cs, d1, d2, rfl, h1, h2, hc⟩ := hx
    obtain ⟨fs', cs', e1, e2, he, h3, h4, rfl⟩ := hy
    simp only [Value.func.injEq] at he
    obtain ⟨-, rfl, rfl⟩ := he
    obtain ⟨rfl, rfl⟩ := cz hc.symm.symm rfl
    obtain ⟨b1, h5, h6⟩ := backL_rel hT hw1 hcl hμ1 hsizes h1 h3
    obtain ⟨b2, h7, h8⟩ := backL_rel hT hw1 hcl hμ1 hsizes h2 h4
    exact ⟨cadd b1 b2, tRel_append h5 h7, cle_add h6 h8⟩
  · exact back1_rel hT hw1 hcl hμ1 hsizes hx hy
theorem backs_rel {cT : Cnt} (hT : TRel E T cT) (hw1 : E1.w = E'.w) (hcl : E1.cl = E'.cl) (hμ1 : E1.μ = E.μ) (hsizes : ∀ b n, bsize E.w b = some n → bsize E'.w b = some n) :
    ∀ {xs ys : List V} {vs : List Value} {c' : Cnt}, RelL E xs vs c0 → RelL E'.cl ys vs c' → ∃ cb, TRel E1 (backs T xs ys) cb ∧ cle cb c'
  | [], ys, vs, c', hx, hy => ⟨c0, by simp [backs, TRel], fun _ => Nat.zero_le _⟩
  | x :: xs, [], vs, c', hx, hy => ⟨c0, by simp [backs, TRel], fun _ => Nat.zero_le _⟩
  | x :: xs, y :: ys, vs, c', hx, hy => by
    simp only [RelL] at hx hy
    obtain ⟨v, t, d1, d2, rfl, h1, h2, hc⟩ := hx
    obtain ⟨v', t', e1, e2, he, h3, h4, rfl⟩ := hy
    simp only [List.cons.injEq] at he
    obtain ⟨rfl, rfl⟩ := he
    obtain ⟨rfl, rfl⟩ := cz hc.symm.symm rfl
    obtain ⟨b1, h5, h6⟩ := back_rel hT hw1 hcl hμ1 hsizes h1 h3
    obtain ⟨b2, h7, h8⟩ := backs_rel hT hw1 hcl hμ1 hsizes h2 h4
    exact ⟨cadd b1 b2, by simp only [backs]; exact tRel_append h5 h7, cle_add h6 h8⟩
end

theorem snap_rel {E2 : Env} {cT : Cnt} (hT : TRel E st.T cT) (hw : E2.w = E.w) (hI : ∀ τ b, E.I τ b → E2.I τ b) (hc : ∀ b, cT b ≠ 0 → E2.I true b) :
    ∀ {xs : List V} {vs : List Value}, RelL E xs vs c0 → RelL E2.cl (snapArgs st.T xs) vs c0
  | [], vs, h => by simpa only [snapArgs, RelL] using h
  | x :: xs, vs, h => by
    simp only [RelL, snapArgs] at h ⊢
    obtain ⟨v, t, d1, d2, rfl, h1, h2, hc'⟩ := h
    obtain ⟨rfl, rfl⟩ := cz hc'.symm.symm rfl
    obtain ⟨e1, e2, h3, h4, h5, -⟩ := closes_closeV 30 E st.T x v cT c0 hT h1
    refine ⟨v, t, c0, c0, rfl, rel_conv (E := E) h4 ⟨hw, hI, fun b hb => hc b ?_⟩, snap_rel hT hw hI hc h2, rfl⟩
    have := h5 b; simp only [cadd, c0] at this; omega

/-! what is left aside -/
theorem adv_frame {E E' : Env} {ci ci' : Cnt} (cr : Cnt) (h : Adv E ci E' ci') : Adv E (cadd ci cr) E' (cadd ci' cr) := by
  refine ⟨h.sizes, h.os, h.tape, h.output, h.size, fun b hb hc => h.frame b hb (by simp only [cadd] at hc; omega), h.sub, fun b hb => ?_, fun τ b hb => ?_⟩
  · simp only [cadd] at hb ⊢
    by_cases h0 : ci' b = 0
    · exact .inl (by omega)
    · rcases h.own b h0 with h1 | h1
      · exact .inl (by omega)
      · exact .inr h1
  · rcases h.imm τ b hb with h1 | h1 | h1
    · exact .inl h1
    · exact .inr (.inl (by simp only [cadd]; omega))
    · exact .inr (.inr h1)
theorem good_frame {E E' : Env} {ci ci' cr : Cnt} (hg : Good E (cadd ci cr)) (h : Adv E ci E' ci') (hg' : Good E' ci') : Good E' (cadd ci' cr) := by
  have hcr : ∀ b, cr b ≠ 0 → b < E.w.heap.size ∧ ci b = 0 ∧ cr b ≤ 1 := fun b hb => by
    have h1 := hg.one b; have h2 := hg.bnd b (by simp only [cadd]; omega)
    simp only [cadd] at h1
    exact ⟨h2, by omega, by omega⟩
  refine ⟨fun b => ?_, fun τ b hb => ?_, hg'.sub, fun b hb => ?_⟩
  · have h1 := hg'.one b
    simp only [cadd]
    by_cases h0 : cr b = 0
    · omega
    · obtain ⟨h2, h3, h4⟩ := hcr b h0
      have : ci' b = 0 := by
        cases h5 : ci' b with
        | zero => rfl
        | succ n => rcases h.own b (by omega) with h6 | h6 <;> omega
      omega
  · have h1 := hg'.imm τ b hb
    simp only [cadd]
    refine ⟨?_, h1.2⟩
    by_cases h0 : cr b = 0
    · omega
    · obtain ⟨h2, h3, h4⟩ := hcr b h0
      exfalso
      rcases h.imm τ b hb with h5 | h5 | h5
      · have := (hg.imm τ b h5).1; simp only [cadd] at this; omega
      · omega
      · omega
  · simp only [cadd] at hb
    by_cases h0 : cr b = 0
    · exact hg'.bnd b (by omega)
    · have := (hcr b h0).1; have := h.size; omega
theorem mono_frame {E E' : Env} {ci ci' cr : Cnt} (hg : Good E (cadd ci cr)) (h : Adv E ci E' ci') (hμ : ∀ k l, E.μ k = some l → E'.μ k = some l) : Mono E E' cr := by
  refine ⟨fun τ b hb => ⟨h.sub τ b hb, h.frame b (hg.imm τ b hb).2 (by have := (hg.imm τ b hb).1; simp only [cadd] at this; omega)⟩, fun b hb => ?_, hμ⟩
  have h1 := hg.one b; have h2 := hg.bnd b (by simp only [cadd]; omega)
  simp only [cadd] at h1
  exact h.frame b h2 (by omega)

/-- a call that only reads -/
theorem ro_rel (hC : CallsOk P call) {g : Nat} {T : Mem} {xs : List V} {vs : List Value} {fz : Bool} {r : V} {outs : List V} (hcall : call g (snapArgs T xs) = some (r, outs)) (hnt : noTag r = true)
    (hx : RelL E xs vs c0) (hT : TRel E T c) (hgE : Good E c) :
    After P E.w (fun y w' => ∃ E3 c5, E3.w = w' ∧ E3.μ = E.μ ∧ Rel E3.cl (fzV fz r) y c5 ∧ Good E3 c5 ∧ (∀ b, b < E.w.heap.size → w'.heap[b]? = E.w.heap[b]?) ∧ Adv E c0 E3 c5) ((callFunc g vs.toArray).run P E.w) := by
  have h : FRel 0 E { σ := [], T := T } #[] c := ⟨rfl, fun t x hx => (by cases hx), hT, hgE⟩
  have hcb : ∀ b, E.w.heap.size ≤ b → c b = 0 := fun b hb => by
    cases hc : c b with
    | zero => rfl
    | succ n => have := h.g.bnd b (by omega); omega
  let E2 : Env := { E with I := fun τ b => E.I τ b ∨ (τ = true ∧ c b ≠ 0) }
  have hx2 : RelL E2.cl (snapArgs T xs) vs c0 := snap_rel (E := E) (st := { σ := [], T := T }) (E2 := E2) h.T rfl (fun τ b hb => .inl hb) (fun b hb => .inr ⟨rfl, hb⟩) hx
  have hg2 : Good E2 c0 := by
    refine ⟨fun b => Nat.zero_le _, fun τ b hb => ⟨rfl, ?_⟩, fun b hb => ?_, fun b hb => absurd rfl hb⟩
    · rcases hb with hb | ⟨-, hb⟩
      · exact (h.g.imm τ b hb).2
      · exact h.g.bnd b hb
    · rcases hb with hb | ⟨h0, -⟩
      · exact .inl (h.g.sub b hb)
      · cases h0
  refine (hC g _ r outs hcall E2 vs c0 hx2 hg2).mono ?_
  rintro y w' ⟨E', cr, co, hw, hr, -, hg, hA⟩
  let E3 : Env := { w := E'.w, I := fun τ b => E'.I false b ∨ (τ = true ∧ E.I true b) ∨ (fz = true ∧ cr b ≠ 0), μ := E.μ }
  let E30 : Env := { w := E'.w, I := fun τ b => E'.I false b ∨ (τ = true ∧ E.I true b), μ := E.μ }
  have hr30 : Rel E30.cl r y cr := rel_forget (E := E'.cl) hr hnt ⟨rfl, fun b hb => .inl hb⟩
  have hres : ∃ c5, Rel E3.cl (fzV fz r) y c5 ∧ cle c5 cr ∧ (fz = true → c5 = c0) := by
    unfold fzV
    cases fz with
    | true =>
      rw [if_pos rfl]
      refine ⟨c0, rel_conv (E := E30) hr30 ⟨rfl, fun σ b hb => hb.imp id .inl, fun b hb => .inr (.inr ⟨rfl, hb⟩)⟩, fun _ => Nat.zero_le _, fun _ => rfl⟩
    | false =>
      rw [if_neg (by simp)]
      refine ⟨cr, rel_mono hr30 ⟨fun τ b hb => ⟨hb.imp id .inl, rfl⟩, fun b hb => rfl, fun k l hk => by simp [Env.cl] at hk⟩, cle_refl _, fun h => by cases h⟩
  obtain ⟨c5, hr3, hle5, hz5⟩ := hres
  have hfr : ∀ b, b < E.w.heap.size → E'.w.heap[b]? = E.w.heap[b]? := fun b hb => hA.frame b hb rfl
  have hIs : ∀ τ b, E.I τ b → E3.I τ b := fun τ b hb => by
    cases τ with
    | false => exact .inl (hA.sub false b (.inl hb))
    | true => exact .inr (.inl ⟨rfl, hb⟩)
  have hcr : ∀ b, cr b ≠ 0 → E.w.heap.size ≤ b := fun b hb => (hA.own b (by simp only [cadd]; omega)).resolve_left (fun h => h rfl)
  have hI' : ∀ b, E'.I false b → E.I false b ∨ E.w.heap.size ≤ b := fun b hb => by
    rcases hA.imm false b hb with hb | hb | hb
    · rcases hb with hb | ⟨h0, -⟩
      · exact .inl hb
      · cases h0
    · exact absurd rfl hb
    · exact .inr hb
  have hg3 : Good E3 (cadd c c5) := by
    refine ⟨fun b => ?_, fun τ b hb => ?_, fun b hb => ?_, fun b hb => ?_⟩
    · have h1 := h.g.one b
      have h2 := hg.one b
      have h5 := hle5 b
      simp only [cadd] at h2 ⊢
      by_cases h0 : cr b = 0
      · omega
      · have := hcb b (hcr b h0); omega
    · have h5 := hle5 b
      rcases hb with hb | ⟨-, hb⟩ | ⟨hf, hb⟩
      · have h1 := hg.imm false b hb
        simp only [cadd] at h1 ⊢
        refine ⟨?_, h1.2⟩
        rcases hI' b hb with h2 | h2
        · have := (h.g.imm false b h2).1; omega
        · have := hcb b h2; omega
      · have h1 := h.g.imm true b hb
        simp only [cadd]
        refine ⟨?_, Nat.lt_of_lt_of_le h1.2 hA.size⟩
        by_cases h0 : cr b = 0
        · omega
        · have := hcr b h0; omega
      · simp only [cadd]
        refine ⟨?_, hg.bnd b (by simp only [cadd]; omega)⟩
        rw [hz5 hf, hcb b (hcr b hb)]; rfl
    · rcases hb with hb | ⟨h0, -⟩ | hb
      · exact .inl hb
      · cases h0
      · exact .inr (.inr hb)
    · have h5 := hle5 b
      simp only [cadd] at hb
      by_cases h0 : cr b = 0
      · exact Nat.lt_of_lt_of_le (h.g.bnd b (by omega)) hA.size
      · exact hg.bnd b (by simp only [cadd]; omega)
  refine ⟨E3, c5, hw, rfl, hr3, hg3.le (cle_right _ _), fun b hb => by rw [← hw]; exact hfr b hb, ?_⟩
  refine ⟨fun b n hb => hA.sizes b n hb, hA.os, hA.tape, hA.output, hA.size, fun b hb _ => hfr b hb, hIs, fun b hb => ?_, fun τ b hb => ?_⟩
  · exact .inr (hcr b (by have := hle5 b; omega))
  · rcases hb with hb | ⟨rfl, hb⟩ | ⟨-, hb⟩
    · rcases hI' b hb with h2 | h2
      · cases τ with
        | false => exact .inl h2
        | true => exact .inl (h.g.sub b h2)
      · exact .inr (.inr h2)
    · exact .inl hb
    · exact .inr (.inr (hcr b hb))
/-- a call, as the state has it -/
theorem doCall_rel (hC : CallsOk P call) {d : Option Nat} {g : Nat} {xs : List V} {vs : List Value} {m : Md} (hs : doCall call d g xs m st = some st') (hx : RelL E xs vs c0)
    (h : FRel N E st a.tmps c) (hd : ∀ t, d = some t → t < N) :
    After P E.w (fun y w' => ∃ E' c', E'.w = w' ∧ Keeps d E E' ∧ FRel N E' st' (a.put d y).tmps c' ∧ Adv E c E' c') ((callFunc g vs.toArray).run P E.w) := by
  have hcb : ∀ b, E.w.heap.size ≤ b → c b = 0 := fun b hb => by
    cases hc : c b with
    | zero => rfl
    | succ n => have := h.g.bnd b (by omega); omega
  cases m with
  | ro fz =>
    simp only [doCall] at hs
    split at hs
    case h_2 => cases hs
    rename_i r outs hcall
    split at hs
    case isFalse => cases hs
    rename_i hnt
    simp only [Option.some.injEq] at hs; subst hs
    refine (ro_rel hC (fz := fz) hcall hnt hx h.T h.g).mono ?_
    rintro y w' ⟨E3, c5, hw, hμ, hr3, hg5, hfr, hA⟩
    have hg' : Good E (cadd c0 c) := by rw [c0_cadd]; exact h.g
    have hM : Mono E E3 c := mono_frame hg' hA (fun k l hk => by rw [hμ]; exact hk)
    have hg3 : Good E3 (cadd c c5) := by rw [cadd_comm]; exact good_frame hg' hA hg5
    have hA3 : Adv E c E3 (cadd c c5) := by
      have := adv_frame c hA
      rw [c0_cadd, cadd_comm c5 c] at this; exact this
    obtain ⟨E4, c4, hw4, hI4, hk4, hF4, hle4⟩ := bringO_rel (a := a) (N := N) (d := d) (st := st) h.sz (sRel_mono h.σ (hM.le fun _ => Nat.zero_le _)) (tRel_mono h.T hM) hr3 hg3 hd
    exact ⟨E4, c4, hw4.trans hw, fun k hk => (hk4 k hk).trans (by rw [hμ]), hF4, hA3.trans (adv_names hw4 hI4 hle4)⟩
  | io fz =>
    simp only [doCall] at hs
    split at hs
    case h_2 => cases hs
    rename_i r outs hcall
    simp only [Option.some.injEq] at hs; subst hs
    obtain ⟨d1, d2, hT1, hy, hle⟩ := relL_mapT (closes_closeV 30) h.T hx
    have hle' : ∀ b, d1 b + d2 b ≤ c b := fun b => by have := hle b; simp only [cadd, c0] at this; omega
    have hg2 : Good E d2 := h.g.le fun b => by have := hle' b; omega
    refine (hC g _ r outs hcall E vs d2 hy hg2).mono ?_
    rintro y w' ⟨E', cr, co, hw, hr, hout, hg, hA⟩
    let E1 : Env := { w := E'.w, I := fun τ b => E'.I τ b ∨ (fz = true ∧ cr b ≠ 0), μ := E.μ }
    let E0 : Env := { w := E'.w, I := E'.I, μ := E.μ }
    have hnew : ∀ b, cr b + co b ≠ 0 → d2 b ≠ 0 ∨ E.w.heap.size ≤ b := fun b hb => hA.own b hb
    have hdis : ∀ b, d1 b ≠ 0 → cr b + co b = 0 := fun b hb => by
      cases hc : cr b + co b with
      | zero => rfl
      | succ n =>
        rcases hnew b (by omega) with h1 | h1
        · have := hle' b; have := h.g.one b; omega
        · have := hcb b h1; have := hle' b; omega
    have hM : Mono E E1 d1 := ⟨fun τ b hb => ⟨.inl (hA.sub τ b hb), hA.frame b (h.g.imm τ b hb).2 (by have := (h.g.imm τ b hb).1; have := hle' b; omega)⟩,
      fun b hb => hA.frame b (h.g.bnd b (by have := hle' b; omega)) (by have := hle' b; have := h.g.one b; omega), fun k l hk => hk⟩
    obtain ⟨cb, hB0, hcb'⟩ := backs_rel (E1 := E0) (E' := E') (T := st.T) h.T rfl rfl rfl hA.sizes hx hout
    have hM01 : Mono E0 E1 cb := ⟨fun τ b hb => ⟨.inl hb, rfl⟩, fun b hb => rfl, fun k l hk => hk⟩
    have hB := tRel_mono hB0 hM01
    have hres : ∃ c5, Rel E1.cl (fzV fz r) y c5 ∧ cle c5 cr ∧ (fz = true → c5 = c0) := by
      unfold fzV
      cases fz with
      | true =>
        rw [if_pos rfl]
        refine ⟨c0, rel_conv (E := E') hr ⟨rfl, fun σ b hb => .inl hb, fun b hb => .inr ⟨rfl, hb⟩⟩, fun _ => Nat.zero_le _, fun _ => rfl⟩
      | false =>
        rw [if_neg (by simp)]
        refine ⟨cr, rel_mono hr ⟨fun τ b hb => ⟨.inl hb, rfl⟩, fun b hb => rfl, fun k l hk => by simp [Env.cl] at hk⟩, cle_refl _, fun h => by cases h⟩
    obtain ⟨c5, hr5, hle5, hz5⟩ := hres
    have hg1 : Good E1 (cadd (cadd cb d1) c5) := by
      refine ⟨fun b => ?_, fun τ b hb => ?_, fun b hb => ?_, fun b hb => ?_⟩
      · have h1 := h.g.one b; have h2 := hg.one b; have h3 := hle' b; have h4 := hle5 b; have h5 := hcb' b
        simp only [cadd] at h2 ⊢
        by_cases h0 : d1 b = 0
        · omega
        · have := hdis b h0; omega
      · simp only [cadd]
        rcases hb with hb | ⟨hf, hb⟩
        · have h1 := hg.imm τ b hb
          simp only [cadd] at h1
          have h4 := hle5 b; have h5 := hcb' b
          refine ⟨?_, h1.2⟩
          rcases hA.imm τ b hb with h2 | h2 | h2
          · have := (h.g.imm τ b h2).1; have := hle' b; omega
          · have := hle' b; have := h.g.one b; omega
          · have := hcb b h2; have := hle' b; omega
        · have h1 := hg.one b
          simp only [cadd] at h1
          have h5 := hcb' b
          refine ⟨?_, hg.bnd b (by simp only [cadd]; omega)⟩
          rw [hz5 hf]
          have : d1 b = 0 := by
            by_cases h0 : d1 b = 0
            · exact h0
            · have := hdis b h0; omega
          simp only [c0]; omega
      · rcases hb with hb | hb
        · exact .inl (hg.sub b hb)
        · exact .inr hb
      · simp only [cadd] at hb
        by_cases h0 : d1 b = 0
        · have h4 := hle5 b; have h5 := hcb' b
          exact hg.bnd b (by simp only [cadd]; omega)
        · exact Nat.lt_of_lt_of_le (h.g.bnd b (by have := hle' b; omega)) hA.size
    obtain ⟨E4, c4, hw4, hI4, hk4, hF4, hle4⟩ := bringO_rel (a := a) (N := N) (d := d) (st := { σ := st.σ, T := backs st.T xs outs ++ (mapT (closeV 30) st.T xs).2 }) h.sz
      (sRel_mono h.σ (hM.le fun _ => Nat.zero_le _)) (tRel_append hB (tRel_mono hT1 hM)) hr5 hg1 hd
    refine ⟨E4, c4, hw4.trans hw, fun k hk => hk4 k hk, hF4, ?_⟩
    refine ⟨fun b n hb => by rw [hw4]; exact hA.sizes b n hb, by rw [hw4]; exact hA.os, by rw [hw4]; exact hA.tape, by rw [hw4]; exact hA.output, by rw [hw4]; exact hA.size,
      fun b hb hc => by rw [hw4]; exact hA.frame b hb (by have := hle' b; omega), fun τ b hb => by rw [hI4]; exact .inl (hA.sub τ b hb), fun b hb => ?_, fun τ b hb => ?_⟩
    · have h1 := hle4 b; have h4 := hle5 b; have h5 := hcb' b; have h6 := hle' b
      simp only [cadd] at h1
      by_cases h0 : d1 b = 0
      · rcases hnew b (by omega) with h2 | h2
        · exact .inl (by omega)
        · exact .inr h2
      · exact .inl (by omega)
    · rw [hI4] at hb
      have h6 := hle' b
      rcases hb with hb | ⟨-, hb⟩
      · rcases hA.imm τ b hb with h2 | h2 | h2
        · exact .inl h2
        · exact .inr (.inl (by omega))
        · exact .inr (.inr h2)
      · rcases hnew b (by omega) with h2 | h2
        · exact .inr (.inl (by omega))
        · exact .inr (.inr h2)
end
end Go.Vm
