import Derived.Test.YtehgffojgiefaaaVmU
set_option autoImplicit false
set_option linter.unusedVariables false
set_option linter.unusedSimpArgs false
namespace Go.Vm

/-! ### functions read -/
def trRes (P : Program) : List ResultVar → Option (List AR)
  | [] => some []
  | .tmp t :: r => (trRes P r).map (.tmp t :: ·)
  | .cell a t :: r => opt2 (tagT P t) (trRes P r) fun q rs => .cell a q.1 q.2 :: rs
def trFn (P : Program) (fn : Func) (h : AF) : Option AF :=
  match fn.body with
  | some code => match trC P fn.ntmps h.nargs code h.body, trRes P fn.results.toList with
    | some b, some rs => if decide (h.nargs ≤ fn.ntmps) && fn.name != "runtime.NumGoroutine" then some { nargs := h.nargs, ntmps := fn.ntmps, res := rs, body := b } else none
    | _, _ => none
  | none => none
def Known (P : Program) (prog : Nat → Option AE) : Prop :=
  ∀ f e, prog f = some e → match e with
    | .fn af => ∃ fn h, P.funcs[f]? = some fn ∧ trFn P fn h = some af
    | .prim g => ∀ args r outs, g args = some (r, outs) → CallOk P f args r outs

section
variable {P : Program} {N n : Nat} {E : Env} {c : Cnt} {st st' : St} {a : Act} {call : Call}
theorem openArgs_rel : ∀ (xs : List V) (i : Nat) (E : Env) (vs : List Value) (c : Cnt), (∀ k : Key, i ≤ k.1 → E.μ k = none) → RelL E xs vs c →
    ∃ E' c', E'.w = E.w ∧ E'.I = E.I ∧ (∀ k l, E.μ k = some l → E'.μ k = some l) ∧ (∀ k : Key, i + xs.length ≤ k.1 → E'.μ k = none) ∧
      RelL E' (openArgs i xs).1 vs c0 ∧ TRel E' (openArgs i xs).2 c' ∧ cle c' c
  | [], i, E, vs, c, hf, h => by
    simp only [RelL] at h
    exact ⟨E, c0, rfl, rfl, fun _ _ h => h, fun k hk => hf k (by simpa using hk), by simp only [openArgs, RelL]; exact ⟨h.1, trivial⟩, rfl, fun _ => Nat.zero_le _⟩
  | x :: xs, i, E, vs, c, hf, h => by
    simp only [RelL] at h
    obtain ⟨y, t, c1, c2, rfl, h1, h2, rfl⟩ := h
    obtain ⟨E1, d1, j', hn, hr1, ht1, hl1⟩ := open_V (d := i) (fun j => hf (i, j) (Nat.le_refl _)) h1
    obtain ⟨E2, d2, hw2, hI2, hμ2, hfree2, hr2, ht2, hl2⟩ := openArgs_rel xs (i + 1) E1 t c2 (fun k hk => by rw [hn.hout k (by omega)]; exact hf k (by omega)) (relL_mono h2 (hn.mono _))
    have hm : ∀ c, Mono E1 E2 c := fun c => ⟨fun τ b hb => ⟨by rw [hI2]; exact hb, by rw [hw2]⟩, fun b _ => by rw [hw2], hμ2⟩
    refine ⟨E2, cadd d1 d2, hw2.trans hn.hw, hI2.trans hn.hI, fun k l hk => hμ2 k l (hn.hμ k l hk), fun k hk => hfree2 k (by simp only [List.length_cons] at hk; omega), ?_, ?_, cle_add hl1 hl2⟩
    · simp only [openArgs, RelL]
      exact ⟨y, t, c0, c0, rfl, rel_mono hr1 (hm _), hr2, rfl⟩
    · simp only [openArgs]
      exact tRel_append (tRel_mono ht1 (hm _)) ht2
theorem openArgs_length : ∀ (xs : List V) (i : Nat), (openArgs i xs).1.length = xs.length
  | [], i => rfl
  | x :: xs, i => by simp [openArgs, openArgs_length xs]
theorem getS_slots : ∀ (xs : List V) (i t : Nat) (x : V), getS (slotsFrom i xs) t = some x → ∃ j, t = i + j ∧ xs[j]? = some x
  | [], i, t, x, h => by simp [slotsFrom, getS] at h
  | y :: ys, i, t, x, h => by
    simp only [slotsFrom, getS] at h
    split at h
    · rename_i he; subst he
      exact ⟨0, rfl, by simpa using h⟩
    · obtain ⟨j, h1, h2⟩ := getS_slots ys (i + 1) t x h
      exact ⟨j + 1, by omega, by simpa using h2⟩
theorem sRel_slots {xs : List V} {vs : List Value} {rest : Array Value} (h : RelL E xs vs c0) : SRel E (slotsFrom 0 xs) (vs.toArray ++ rest) := by
  intro t x hx
  obtain ⟨j, rfl, hj⟩ := getS_slots xs 0 t x hx
  obtain ⟨y, c1, c2, hy, hr, hc, -⟩ := relL_at h hj
  have h0 : c1 = c0 := funext fun b => by have := congrFun hc b; simp only [c0, cadd] at this ⊢; omega
  subst h0
  have hlt : j < vs.length := (List.getElem?_eq_some_iff.1 hy).1
  refine ⟨y, ?_, hr⟩
  rw [Nat.zero_add, Array.getElem?_append_left (by simpa using hlt)]
  simpa using hy

/-! the results -/
theorem resV_rel {r : ResultVar} {x : V} {T T' : Mem} {tmps : Array Value} {ar : AR} {cT : Cnt} (hr : trRes P [r] = some [ar]) (hσ : SRel E st.σ tmps) (hT : TRel E T cT) (h : resV { σ := st.σ, T := T } ar = some (x, T')) :
    ∃ v d1 d2, ((match r with
      | .tmp t => pure (tmps.getD t undef)
      | .cell a t => do loadVar t (← asAddr (tmps.getD a undef))) : Sem Value).run P E.w = .ok v E.w ∧ Rel E x v d1 ∧ TRel E T' d2 ∧ cle (cadd d1 d2) cT := by
  cases r with
  | tmp t =>
    simp only [trRes, Option.map_some, Option.some.injEq, List.cons.injEq, and_true] at hr
    subst hr
    simp only [resV, Option.map_eq_some_iff, Prod.mk.injEq] at h
    obtain ⟨y, hy, rfl, rfl⟩ := h
    obtain ⟨v, hv, hrv⟩ := hσ _ _ hy
    refine ⟨v, c0, cT, ?_, hrv, hT, by rw [c0_cadd]; exact cle_refl _⟩
    simp only [Sem.run_pure, Array.getD_eq_getD_getElem?, hv, Option.getD_some]
  | cell a t =>
    simp only [trRes] at hr
    obtain ⟨q, rs, hq, hrs, he⟩ := opt2_some hr
    simp only [Option.some.injEq] at hrs
    subst hrs
    simp only [List.cons.injEq, and_true] at he
    subst he
    simp only [resV] at h
    split at h
    case h_2 => cases h
    rename_i k hk
    split at h
    case h_2 => cases h
    rename_i e0 xe hg
    rw [Option.bind_eq_some_iff] at h
    obtain ⟨y, hy, h⟩ := h
    split at h
    case isFalse => cases h
    rename_i hlen
    simp only [Option.some.injEq, Prod.mk.injEq] at h
    obtain ⟨rfl, rfl⟩ := h
    obtain ⟨v, hv, hrv⟩ := hσ _ _ hk
    simp only [Rel] at hrv
    obtain ⟨-, b', base', e', lim', hμ', rfl⟩ := hrv
    obtain ⟨co, cr, hob, hrest, rfl⟩ := tRel_get hT hg
    rcases hob with ⟨-, hn1, -⟩ | ⟨b, base, lim, cells, ty, fz, ce, hμ, hw, hl, hf, hs, hr', rfl⟩
    · cases hn1
    rw [hμ] at hμ'; cases hμ'
    simp only [List.length_singleton, Nat.one_mul] at hs hr'
    obtain ⟨u, hu, hus, hul, huo, hR⟩ := relR_one' hr'
    obtain ⟨vz, f0, f1, f2, hz, hzl, hzle, hzc, hz0, hz2, rfl, hzT, hzF⟩ := loadE_pieces hR (by rw [hul, hus]) huo hy
    have haddr : tmps.getD a undef = .pointer (some ⟨b', base', none⟩) := by
      simp only [Array.getD_eq_getD_getElem?, hv, Option.getD_some]
      simp
    unfold tagT at hq
    split at hq
    case h_2 => cases hq
    rename_i dd i hud hi
    simp only [Option.some.injEq] at hq; subst hq
    refine ⟨vz, f1, cr, ?_, hz, hrest, fun z => by simp only [cadd]; omega⟩
    simp only [haddr, asAddr, Sem.run_bind, Sem.run_pure, Result.andThen_ok]
    have hrun := run_loadVar (P := P) (w := E.w) (t := t) (o := base') hud hi hw
    cases hag : aggD dd with
    | true =>
      obtain ⟨q1, q2⟩ := hzT hag
      have hsz : u.cells.size = i.size := by omega
      rw [q2]
      have e2 : u.cells.toList.take i.size = seg cells base' i.size := by
        rw [← hu, seg_full]; congr 1; omega
      simp only [List.drop_zero, e2]
      exact hrun.1 hag (by omega)
    | false =>
      have q1 := hzF hag
      have h8 : (seg cells base' e0)[0]? = some vz := by rw [hu]; simpa using q1
      exact hrun.2 hag vz (by simpa using seg_get h8)
theorem resL_rel {tmps : Array Value} (hσ : SRel E st.σ tmps) : ∀ {rs : List ResultVar} {ars : List AR} {T T' : Mem} {xs : List V} {cT : Cnt}, trRes P rs = some ars → TRel E T cT → resL st.σ T ars = some (xs, T') →
    ∃ vs d1 d2, (rs.mapM fun
      | .tmp t => pure (tmps.getD t undef)
      | .cell a t => do loadVar t (← asAddr (tmps.getD a undef)) : Sem (List Value)).run P E.w = .ok vs E.w ∧ RelL E xs vs d1 ∧ TRel E T' d2 ∧ cle (cadd d1 d2) cT
  | [], ars, T, T', xs, cT, hr, hT, h => by
    simp only [trRes, Option.some.injEq] at hr; subst hr
    simp only [resL, Option.some.injEq, Prod.mk.injEq] at h
    obtain ⟨rfl, rfl⟩ := h
    exact ⟨[], c0, cT, by simp, by simp [RelL], hT, by rw [c0_cadd]; exact cle_refl _⟩
  | r :: rs, ars, T, T', xs, cT, hr, hT, h => by
    have hsplit : ∃ ar ars', ars = ar :: ars' ∧ trRes P [r] = some [ar] ∧ trRes P rs = some ars' := by
      cases r with
      | tmp t =>
        simp only [trRes, Option.map_eq_some_iff] at hr
        obtain ⟨q, h1, rfl⟩ := hr
        exact ⟨_, _, rfl, rfl, h1⟩
      | cell a t =>
        simp only [trRes] at hr
        obtain ⟨q, qs, h1, h2, rfl⟩ := opt2_some hr
        exact ⟨_, _, rfl, by simp [trRes, opt2, h1], h2⟩
    obtain ⟨ar, ars', rfl, h1, h2⟩ := hsplit
    simp only [resL] at h
    split at h
    case h_2 => cases h
    rename_i x T1 hx
    split at h
    case h_2 => cases h
    rename_i xs' T2 hxs
    simp only [Option.some.injEq, Prod.mk.injEq] at h
    obtain ⟨rfl, rfl⟩ := h
    obtain ⟨v, d1, d2, g1, g2, g3, g4⟩ := resV_rel h1 hσ hT hx
    obtain ⟨vs, e1, e2, k1, k2, k3, k4⟩ := resL_rel hσ h2 g3 hxs
    refine ⟨v :: vs, cadd d1 e1, e2, ?_, ?_, k3, fun b => by have := g4 b; have := k4 b; simp only [cadd] at *; omega⟩
    · rw [List.mapM_cons, Sem.run_bind, g1, Result.andThen_ok, Sem.run_bind, k1, Result.andThen_ok]
      rfl
    · simp only [RelL]; exact ⟨v, vs, d1, e1, rfl, g2, k2, rfl⟩
theorem one_rel {xs : List V} {vs : List Value} (h : RelL E xs vs c) : Rel E (one? xs) (if h : vs.toArray.size = 1 then vs.toArray[0] else .tuple vs.toArray) c := by
  have hl := relL_length h
  match xs, vs, hl, h with
  | [x], [v], _, h =>
    obtain ⟨y, h1, h2⟩ := relL_one' h
    simp only [List.cons.injEq, and_true] at h1; subst h1
    simpa [one?] using h2
  | [], [], _, h =>
    simp only [RelL] at h
    simp [one?, Rel, RelL, h.2]
  | x :: y :: xs, v :: u :: vs, _, h =>
    simp only [one?]
    rw [dif_neg (by simp)]
    simp only [Rel]
    exact ⟨_, rfl, by simpa using h⟩

theorem run_mapM_arr {g : ResultVar → Sem Value} {l : Array ResultVar} {w : World} {vs : List Value} (h : (l.toList.mapM g).run P w = .ok vs w) : (l.mapM g).run P w = .ok vs.toArray w := by
  rw [Array.mapM_eq_mapM_toList]
  simp only [map_eq_pure_bind, Sem.run_bind, h, Result.andThen_ok, Sem.run_pure]
theorem acall_ok {prog : Nat → Option AE} (hK : Known P prog) : ∀ n, CallsOk P (acall prog n)
  | 0 => fun f xs r outs h => by simp [acall] at h
  | n + 1 => by
    have IH := acall_ok hK n
    intro f xs r outs h
    simp only [acall] at h
    split at h
    · rename_i g hg
      have := hK f _ hg
      exact this xs r outs h
    · rename_i af haf
      obtain ⟨fn, hh, hfn, htr⟩ := hK f _ haf
      split at h
      case isFalse => cases h
      rename_i hlen
      unfold trFn at htr
      split at htr
      case h_2 => cases htr
      rename_i code hcode
      split at htr
      case h_2 => cases htr
      rename_i b rs hb hrs
      split at htr
      case isFalse => cases htr
      rename_i hcond
      simp only [Bool.and_eq_true, decide_eq_true_eq, bne_iff_ne, ne_eq] at hcond
      obtain ⟨hnt, hname⟩ := hcond
      simp only [Option.some.injEq] at htr; subst htr
      simp only at hlen h
      intro E vs c hxs hg
      have hcf : (callFunc f vs.toArray).run P E.w = .ok (.enter f vs.toArray) E.w := by
        have hne : (fn.name == "runtime.NumGoroutine") = false := by simpa using hname
        simp [callFunc, hfn, hname, hcode]
      rw [hcf]
      refine ⟨rfl, ?_⟩
      obtain ⟨E0, c1, hw0, hI0, -, hfree, hxs0, hT0, hle0⟩ := openArgs_rel xs 0 E.cl vs c (fun k _ => rfl) hxs
      rw [Nat.zero_add] at hfree
      have hvl := relL_length hxs
      have hg0 : Good E0 c1 := good_names (E := E) hw0 hI0 hle0 hg
      have hsz : (vs.toArray ++ Array.replicate (fn.ntmps - vs.toArray.size) undef).size = fn.ntmps := by
        simp only [Array.size_append, List.size_toArray, Array.size_replicate]; omega
      have hF : FRel fn.ntmps E0 { σ := slotsFrom 0 (openArgs 0 xs).1, T := (openArgs 0 xs).2 } (vs.toArray ++ Array.replicate (fn.ntmps - vs.toArray.size) undef) c1 :=
        ⟨hsz, sRel_slots hxs0, hT0, hg0⟩
      have hA0 : Adv E c E0 c1 := adv_names hw0 hI0 hle0
      have hfin : ∀ (x : AX) (st : St), (x = .normal ∨ x = .ret) → aexec (acall prog n) n b { σ := slotsFrom 0 (openArgs 0 xs).1, T := (openArgs 0 xs).2 } = some (x, st) →
          finish { nargs := hh.nargs, ntmps := fn.ntmps, res := rs, body := b } (openArgs 0 xs).1 st = some (r, outs) →
          Calls P f vs.toArray E.w (fun e w'' => ∃ y, e = .returned y ∧ ∃ E' cr co, E'.w = w'' ∧ Rel E'.cl r y cr ∧ RelL E'.cl outs vs co ∧ Good E' (cadd cr co) ∧ Adv E c E' (cadd cr co)) := by
        intro x st hx he hfi
        refine calls_of_wp hfn hcode ?_
        rw [show E.w = E0.w from hw0.symm]
        refine wp_mono ((aexec_wp IH n).1 code hh.body b _ st x hb he _ E0 c1 hF) ?_
        rintro e a' w' ⟨rfl, hdf, E', c', rfl, hF', hkn, hA⟩
        simp only [finish] at hfi
        split at hfi
        case h_2 => cases hfi
        rename_i vals T' hres
        simp only [Option.some.injEq, Prod.mk.injEq] at hfi
        obtain ⟨rfl, rfl⟩ := hfi
        obtain ⟨ws, d1, d2, k1, k2, k3, k4⟩ := resL_rel (P := P) hF'.σ hrs hF'.T hres
        have hres' : (results fn a'.tmps).run P E'.w = .ok (if h : ws.toArray.size = 1 then ws.toArray[0] else .tuple ws.toArray) E'.w := by
          unfold results
          rw [Sem.run_bind]
          refine Eq.trans (congrArg (fun r => Result.andThen r _) (run_mapM_arr (l := fn.results) k1)) ?_
          rfl
        obtain ⟨e1, e2, g1, g2, g3, -⟩ := closes_closeV 30 E' T' _ _ d2 d1 k3 (one_rel k2)
        have hargs : RelL E' (openArgs 0 xs).1 vs c0 := by
          refine relL_mono hxs0 ⟨fun τ bb hb => ⟨hA.sub τ bb hb, hA.frame bb (hg0.imm τ bb hb).2 (hg0.imm τ bb hb).1⟩, fun bb hb => absurd rfl hb, fun k l hk => ?_⟩
          by_cases hkk : k.1 < hh.nargs
          · rw [hkn k hkk]; exact hk
          · rw [hfree k (by omega)] at hk; cases hk
        obtain ⟨e3, e4, g4, g5, g6⟩ := relL_mapT (closes_closeV 30) g1 hargs
        have hle : cle (cadd e2 e4) c' := fun bb => by
          have := k4 bb; have := g3 bb; have := g6 bb; simp only [cadd, c0] at *; omega
        have hpost : a'.defers = [] ∧ ∃ v, (results fn a'.tmps).run P E'.w = .ok v E'.w ∧ (∃ y, Ending.returned v = .returned y ∧ ∃ E'' cr co, E''.w = E'.w ∧ Rel E''.cl (closeV 30 T' (one? vals)).1 y cr ∧
            RelL E''.cl (mapT (closeV 30) (closeV 30 T' (one? vals)).2 (openArgs 0 xs).1).1 vs co ∧ Good E'' (cadd cr co) ∧ Adv E c E'' (cadd cr co)) :=
          ⟨hdf, _, hres', _, rfl, E', e2, e4, rfl, g2, g5, hF'.g.le hle, (hA0.trans hA).le hle⟩
        rcases hx with rfl | rfl <;> exact hpost
      split at h
      · rename_i st he
        exact hfin .normal st (.inl rfl) he h
      · rename_i st he
        exact hfin .ret st (.inr rfl) he h
      · cases h
    · cases h
end
end Go.Vm
