import Derived.Test.YtehgffojgiefaaaVmZG
set_option autoImplicit false
set_option linter.unusedVariables false
set_option linter.unusedSimpArgs false
namespace Go.Vm

/-! ### code read -/
section
variable (P : Program) (N n : Nat)
def trC : Code → AC → Option AC
  | .skip, .skip => some .skip
  | .ret, .ret => some .ret
  | .exit id, .exit _ => some (.exit id)
  | .region _ ops false, .reg hs => (trOps P N n ops ops.toList hs).map .reg
  | .region _ ops true, .dreg plan hs => match trOps P N n ops ops.toList hs with
    | some is => if dOk P n ops plan hs is then some (.dreg plan is) else none
    | none => none
  | .seq x y, .seq hx hy => match trC x hx, trC y hy with
    | some x', some y' => some (.seq x' y')
    | _, _ => none
  | .cond c x y, .cond hc hx hy => match trO c hc, trC x hx, trC y hy with
    | some c', some x', some y' => some (.cond c' x' y')
    | _, _, _ => none
  | .block id x, .block _ hx => match trC x hx with
    | some x' => some (.block id x')
    | none => none
  | .loop x, .loop ls ks hx => match trC x hx with
    | some x' => some (.loop ls ks x')
    | none => none
  | _, _ => none
end

section
variable {P : Program} {N n : Nat} {E : Env} {c : Cnt} {st st' : St} {a : Act} {call : Call}
theorem Adv.seq {E E' E'' : Env} {c c' c'' : Cnt} (h : Adv E c E' c') (h' : Adv E' c' E'' c'') : Adv E c E'' c'' := h.trans h'
theorem arun_wp (hC : CallsOk P call) (ops : Array Oper) {Q : Exit → Act → World → Prop} : ∀ (os : List Oper) (k : Nat) (hs is : List AI) (st : St) (a : Act) (E : Env) (c : Cnt),
    ops.toList.drop k = os → trOps P N n ops os hs = some is → arun call is st = some st' → FRel N E st a.tmps c → (∀ a' E' c', FRel N E' st' a'.tmps c' → a'.defers = a.defers → KN n E E' → Adv E c E' c' → Q .normal a' E'.w) →
    wpOps P ops Q (List.range' k os.length) a E.w
  | [], k, hs, is, st, a, E, c, hd, ht, hr, hf, hQ => by
    cases hs with
    | cons => simp [trOps] at ht
    | nil =>
      simp only [trOps, Option.some.injEq] at ht; subst ht
      simp only [arun, Option.some.injEq] at hr; subst hr
      simp only [List.length_nil, List.range'_zero, wpOps]
      exact hQ a E c hf rfl KN.refl (Adv.refl _ _)
  | o :: os, k, hs, is, st, a, E, c, hd, ht, hr, hf, hQ => by
    cases hs with
    | nil => simp [trOps] at ht
    | cons h hs =>
      simp only [trOps] at ht
      split at ht
      case h_2 => cases ht
      rename_i i is' h1 h2
      simp only [Option.some.injEq] at ht; subst ht
      simp only [arun] at hr
      split at hr
      case h_2 => cases hr
      rename_i st1 hst1
      have hk : ops[k]? = some o := by
        have : (ops.toList.drop k)[0]? = some o := by rw [hd]; rfl
        simpa using this
      have hd' : ops.toList.drop (k + 1) = os := by
        rw [← List.drop_drop, hd]; rfl
      simp only [List.length_cons, List.range'_succ, wpOps, hk]
      refine trI_wp hC h1 hst1 hf ?_
      intro y E' c' hF hkn hkp hA
      refine arun_wp hC ops os (k + 1) hs is' st1 (a.put o.dst y) E' c' hd' h2 hr hF ?_
      intro a'' E'' c'' hF' hdf' hkn' hA'
      exact hQ a'' E'' c'' hF' (hdf'.trans (put_defers _ _ _)) (hkn.trans hkn') (hA.seq hA')

def xOf : AX → Exit
  | .normal => .normal
  | .exit id => .exit id
  | .ret => .ret
/-- where code leads -/
def Ends (n N : Nat) (E : Env) (c : Cnt) (st' : St) (a : Act) (x : AX) : Exit → Act → World → Prop :=
  fun e a' w' => e = xOf x ∧ a'.defers = a.defers ∧ ∃ E' c', E'.w = w' ∧ FRel N E' st' a'.tmps c' ∧ KN n E E' ∧ Adv E c E' c'
theorem Ends.then {E E' : Env} {c c' : Cnt} {a a' : Act} {x : AX} {e : Exit} {a'' : Act} {w : World} (h : Ends n N E' c' st' a' x e a'' w) (hd : a'.defers = a.defers) (hk : KN n E E') (hA : Adv E c E' c') :
    Ends n N E c st' a x e a'' w := by
  obtain ⟨h1, h2, E'', c'', h3, h4, h5, h6⟩ := h
  exact ⟨h1, h2.trans hd, E'', c'', h3, h4, hk.trans h5, hA.seq h6⟩
theorem prune_rel (ls : List Nat) (ks : List Key) (hf : FRel N E st a.tmps c) : ∃ c', FRel N E (prune ls ks st) a.tmps c' ∧ cle c' c := by
  obtain ⟨c0', h0, h0'⟩ := tRel_retireSL (outK (dirS (pickS st.σ ls)) st.T) hf.T
  obtain ⟨c1, h1, h2⟩ := tRel_retireSL (outK (dirS (pickS st.σ ls)) st.T).reverse h0
  obtain ⟨c3, h3, h4⟩ := tRel_pickT (dirS (pickS st.σ ls)) h1
  have hle := cle_trans h4 (cle_trans h2 h0')
  exact ⟨c3, ⟨hf.sz, sRel_pick hf.σ ls, h3, hf.g.le hle⟩, hle⟩
theorem aexec_wp (hC : CallsOk P call) : ∀ (f : Nat),
    (∀ (code : Code) (h ac : AC) (st st' : St) (x : AX), trC P N n code h = some ac → aexec call f ac st = some (x, st') →
      ∀ (a : Act) (E : Env) (c : Cnt), FRel N E st a.tmps c → code.wp P (Ends n N E c st' a x) a E.w) ∧
    (∀ (body : Code) (ls : List Nat) (ks : List Key) (h ac : AC) (st st' : St) (x : AX), trC P N n body h = some ac → aexec call f (.loop ls ks ac) st = some (x, st') →
      ∀ (a : Act) (E : Env) (c : Cnt), FRel N E st a.tmps c → Code.rounds P body (Ends n N E c st' a x) f a E.w)
  | 0 => ⟨fun code h ac st st' x ht hr => by simp [aexec] at hr, fun body ls ks h ac st st' x ht hr => by simp [aexec] at hr⟩
  | f + 1 => by
    have IH := aexec_wp hC f
    have hloop : ∀ (body : Code) (ls : List Nat) (ks : List Key) (h ac : AC) (st st' : St) (x : AX), trC P N n body h = some ac → aexec call (f + 1) (.loop ls ks ac) st = some (x, st') →
      ∀ (a : Act) (E : Env) (c : Cnt), FRel N E st a.tmps c → Code.rounds P body (Ends n N E c st' a x) (f + 1) a E.w := by
      intro body ls ks h ac st st' x ht hr a E c hf
      rw [rounds_succ]
      simp only [aexec] at hr
      obtain ⟨c1, hp, hle⟩ := prune_rel (a := a) ls ks hf
      split at hr
      · rename_i st1 h1
        refine wp_mono (IH.1 _ _ _ _ _ _ ht h1 a E c1 hp) ?_
        rintro e a' w' ⟨rfl, hdf, E', c', rfl, hF, hk, hA⟩
        simp only [xOf, Exit.then]
        have := IH.2 body ls ks h ac st1 st' x ht hr a' E' c' hF
        have hmono : ∀ (m : Nat) (a1 : Act) (w1 : World), Code.rounds P body (Ends n N E' c' st' a' x) m a1 w1 → Code.rounds P body (Ends n N E c st' a x) m a1 w1 := by
          intro m
          induction m with
          | zero => intro a1 w1 h; exact h.elim
          | succ m ih =>
            intro a1 w1 h
            rw [rounds_succ] at h ⊢
            refine wp_mono h ?_
            intro e a2 w2 hq
            cases e <;> simp only [Exit.then] at hq ⊢ <;> (first | exact ih _ _ hq | exact hq.then hdf hk (adv_le hA hle))
        exact hmono _ _ _ this
      · rename_i r hnn
        have hb := IH.1 _ _ _ _ _ _ ht hr a E c1 hp
        refine wp_mono hb ?_
        rintro e a' w' ⟨rfl, hdf, E', c', rfl, hF, hk, hA⟩
        have hx : x ≠ .normal := by rintro rfl; exact hnn _ hr
        cases x with
        | normal => exact absurd rfl hx
        | exit id => exact ⟨rfl, hdf, E', c', rfl, hF, hk, adv_le hA hle⟩
        | ret => exact ⟨rfl, hdf, E', c', rfl, hF, hk, adv_le hA hle⟩
    refine ⟨?_, hloop⟩
    intro code h ac st st' x ht hr a E c hf
    have hself : Ends n N E c st a .normal .normal a E.w := ⟨rfl, rfl, E, c, rfl, hf, KN.refl, Adv.refl _ _⟩
    unfold trC at ht
    split at ht
    · simp only [Option.some.injEq] at ht; subst ht
      simp only [aexec, Option.some.injEq, Prod.mk.injEq] at hr
      obtain ⟨rfl, rfl⟩ := hr
      exact wp_skip hself
    · simp only [Option.some.injEq] at ht; subst ht
      simp only [aexec, Option.some.injEq, Prod.mk.injEq] at hr
      obtain ⟨rfl, rfl⟩ := hr
      exact wp_ret ⟨rfl, rfl, E, c, rfl, hf, KN.refl, Adv.refl _ _⟩
    · simp only [Option.some.injEq] at ht; subst ht
      simp only [aexec, Option.some.injEq, Prod.mk.injEq] at hr
      obtain ⟨rfl, rfl⟩ := hr
      exact wp_exit ⟨rfl, rfl, E, c, rfl, hf, KN.refl, Adv.refl _ _⟩
    · rename_i id ops hs
      rw [Option.map_eq_some_iff] at ht
      obtain ⟨is, h1, rfl⟩ := ht
      simp only [aexec, Option.map_eq_some_iff, Prod.mk.injEq] at hr
      obtain ⟨st1, h2, rfl, rfl⟩ := hr
      refine wp_region ?_
      have := arun_wp (Q := Ends n N E c st1 a .normal) hC ops ops.toList 0 hs is st a E c rfl h1 h2 hf ?_
      · rw [Array.length_toList, ← List.range_eq_range'] at this
        exact this
      · intro a' E' c' hF hdf hk hA
        exact ⟨rfl, hdf, E', c', rfl, hF, hk, hA⟩
    · rename_i id ops plan hs
      split at ht
      case h_2 => cases ht
      rename_i is h1
      split at ht
      case isFalse => cases ht
      rename_i hk
      simp only [Option.some.injEq] at ht; subst ht
      simp only [aexec] at hr
      split at hr
      case h_2 => cases hr
      rename_i st1 h2
      split at hr
      case isFalse => cases hr
      rename_i hnd
      simp only [Option.some.injEq, Prod.mk.injEq] at hr
      obtain ⟨rfl, rfl⟩ := hr
      exact dreg_wp hC hk h1 h2 hnd hf fun a' E' c' hF hdf hk hA => ⟨rfl, hdf, E', c', rfl, hF, hk, hA⟩
    · rename_i cx cy hx hy
      split at ht
      case h_2 => cases ht
      rename_i x' y' h1 h2
      simp only [Option.some.injEq] at ht; subst ht
      simp only [aexec] at hr
      refine wp_seq ?_
      split at hr
      · rename_i st1 h3
        refine wp_mono (IH.1 _ _ _ _ _ _ h1 h3 a E c hf) ?_
        rintro e a' w' ⟨rfl, hdf, E', c', rfl, hF, hk, hA⟩
        simp only [xOf, Exit.then]
        exact wp_mono (IH.1 _ _ _ _ _ _ h2 hr a' E' c' hF) fun e a2 w2 hq => hq.then hdf hk hA
      · rename_i r hnn
        refine wp_mono (IH.1 _ _ _ _ _ _ h1 hr a E c hf) ?_
        intro e a' w' hq
        have hx : x ≠ .normal := by rintro rfl; exact hnn _ hr
        have he := hq.1
        cases x with
        | normal => exact absurd rfl hx
        | exit id => subst he; exact hq
        | ret => subst he; exact hq
    · rename_i cc cx cy hc hx hy
      split at ht
      case h_2 => cases ht
      rename_i c' x' y' h0 h1 h2
      simp only [Option.some.injEq] at ht; subst ht
      simp only [aexec] at hr
      split at hr
      · rename_i hb
        have := ev_rel hf.σ h0 hb
        simp only [Rel] at this
        exact wp_cond_true this.1 (IH.1 _ _ _ _ _ _ h1 hr a E c hf)
      · rename_i hb
        have := ev_rel hf.σ h0 hb
        simp only [Rel] at this
        exact wp_cond_false this.1 (IH.1 _ _ _ _ _ _ h2 hr a E c hf)
      · cases hr
    · rename_i id cx id' hx
      split at ht
      case h_2 => cases ht
      rename_i x' h1
      simp only [Option.some.injEq] at ht; subst ht
      simp only [aexec] at hr
      refine wp_block ?_
      split at hr
      · rename_i id2 st1 h3
        refine wp_mono (IH.1 _ _ _ _ _ _ h1 h3 a E c hf) ?_
        rintro e a' w' ⟨rfl, hdf, E', c', rfl, hF, hk, hA⟩
        simp only [xOf, Exit.inBlock]
        split at hr
        · rename_i he
          simp only [Option.some.injEq, Prod.mk.injEq] at hr
          obtain ⟨rfl, rfl⟩ := hr
          rw [if_pos he]
          exact ⟨rfl, hdf, E', c', rfl, hF, hk, hA⟩
        · rename_i he
          simp only [Option.some.injEq, Prod.mk.injEq] at hr
          obtain ⟨rfl, rfl⟩ := hr
          rw [if_neg he]
          exact ⟨rfl, hdf, E', c', rfl, hF, hk, hA⟩
      · rename_i r hnn
        refine wp_mono (IH.1 _ _ _ _ _ _ h1 hr a E c hf) ?_
        intro e a' w' hq
        have he := hq.1
        cases x with
        | normal => subst he; exact hq
        | exit id => exact absurd hr (hnn _ _)
        | ret => subst he; exact hq
    · rename_i cx ls ks hx
      split at ht
      case h_2 => cases ht
      rename_i x' h1
      simp only [Option.some.injEq] at ht; subst ht
      exact wp_loop_rounds (f + 1) (hloop cx ls ks hx x' st st' x h1 hr a E c hf)
    · cases ht
end
end Go.Vm
