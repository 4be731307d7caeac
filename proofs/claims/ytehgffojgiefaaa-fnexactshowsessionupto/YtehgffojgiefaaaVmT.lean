import Derived.Test.YtehgffojgiefaaaVmS
import Derived.LoopN
set_option autoImplicit false
set_option linter.unusedVariables false
set_option linter.unusedSimpArgs false
namespace Go.Vm

/-- the names of the parameters stay -/
def KN (n : Nat) (E E' : Env) : Prop := ∀ k : Key, k.1 < n → E'.μ k = E.μ k
theorem KN.refl {n : Nat} {E : Env} : KN n E E := fun _ _ => rfl
theorem KN.trans {n : Nat} {E E' E'' : Env} (h : KN n E E') (h' : KN n E' E'') : KN n E E'' := fun k hk => (h' k hk).trans (h k hk)
theorem Keeps.kn {n : Nat} {d : Option Nat} {E E' : Env} (h : Keeps d E E') (hd : ∀ t, d = some t → n ≤ t) : KN n E E' := fun k hk => h k fun e => by
  have := hd k.1 e; omega

/-! ### one operation behind its guard -/
def dstN (n : Nat) (o : Oper) : Bool := match o.dst with | some d => decide (n ≤ d) | none => true
def trI (P : Program) (N n : Nat) (ops : Array Oper) (o : Oper) : AI → Option AI
  | .gd j want d i => match o.guard with
    | some (k, w) => if decide (w = want) && dstN n o && okDst N o d && decide ((ops[k]?).bind (·.dst) = some j) then (trI1 P N o i).map (.gd j want d) else none
    | none => none
  | .mv d h => if o.guard.isNone && okD N o d then trMv o d h else none
  | i => if o.guard.isNone && dstN n o then trI1 P N o i else none

section
variable {P : Program} {N n : Nat} {ops : Array Oper} {o : Oper} {E : Env} {c : Cnt} {st st' : St} {a : Act} {call : Call} {ai : AI}
/-- where a step leads -/
def Steps1 (n N : Nat) (E : Env) (c : Cnt) (st' : St) (a : Act) (dst : Option Tmp) (K : Act → World → Prop) : Prop :=
  ∀ y E' c', FRel N E' st' (a.put dst y).tmps c' → KN n E E' → Keeps dst E E' → Adv E c E' c' → K (a.put dst y) E'.w
theorem put_defers (a : Act) (d : Option Nat) (v : Value) : (a.put d v).defers = a.defers := by cases d <;> rfl
theorem com_wp {Q : Exit → Act → World → Prop} {K : Act → World → Prop} (h : Com P N E c st' a o.dst ((execOp a.eval o).run P E.w)) (hd : dstN n o = true) (hK : Steps1 n N E c st' a o.dst K) : o.wp P a E.w K Q := by
  have hn : ∀ t, o.dst = some t → n ≤ t := fun t ht => by unfold dstN at hd; rw [ht] at hd; simpa using hd
  unfold Com at h
  unfold Oper.wp
  split at h
  · rename_i f args w' he
    rw [he]
    obtain ⟨rfl, hc⟩ := h
    refine hc.mono ?_
    rintro e w'' ⟨y, E', c', rfl, rfl, h2, h3, h4⟩
    exact hK _ E' c' h3 (h2.kn hn) h2 h4
  · rename_i hne
    unfold Comes1 at h
    split at h
    · rename_i y w' he
      rw [he]
      obtain ⟨E', c', rfl, h2, h3, h4⟩ := h
      exact hK _ E' c' h3 (h2.kn hn) h2 h4
    · rename_i w' he
      rw [he]
      obtain ⟨E', c', rfl, h2, h3, h4⟩ := h
      exact hK _ E' c' h3 (h2.kn hn) h2 h4
    · exact h.elim
theorem mv_wp {Q : Exit → Act → World → Prop} {K : Act → World → Prop} {d : Nat} {h : AO} (hd : okD N o d = true) (ht : trMv o d h = some ai) (hs : astep call st ai = some st') (hf : FRel N E st a.tmps c)
    (hK : Steps1 n N E c st' a o.dst K) : o.wp P a E.w K Q := by
  obtain ⟨hd, hn⟩ := okD_some hd
  unfold trMv at ht
  unfold Oper.wp
  split at ht
  all_goals (first | (cases ht; done) | skip)
  all_goals
    rename_i x ho
    rw [Option.map_eq_some_iff] at ht
    obtain ⟨x', h1, rfl⟩ := ht
    rw [execOp]; simp only [ho]
    simp only [astep, Option.map_eq_some_iff] at hs
    obtain ⟨z, hz, rfl⟩ := hs
    refine hK _ E c ?_ KN.refl Keeps.refl (Adv.refl _ _)
    rw [hd]
    exact hf.put (ev_rel hf.σ h1 hz) hn
theorem undef_rel : Rel E undefV undef c0 := by simp [undefV, undef, Rel, aggB]
theorem gd_not (call : Call) (i : AI) (h : ∀ j w d i', i ≠ .gd j w d i') : gstep call st i = astep call st i := by
  cases i <;> first | rfl | exact absurd rfl (h _ _ _ _)
theorem trI_wp (hC : CallsOk P call) {h : AI} (ht : trI P N n ops o h = some ai) (hs : gstep call st ai = some st') (hf : FRel N E st a.tmps c) {Q : Exit → Act → World → Prop} {K : Act → World → Prop}
    (hK : Steps1 n N E c st' a o.dst K) : if Region.wanted o (yielded ops a.tmps) then o.wp P a E.w K Q ∨ (o.asks P a E.w ∧ LetsOut Q) else K (a.put o.dst undef) E.w := by
  have hplain : ∀ i, o.guard.isNone = true → dstN n o = true → trI1 P N o i = some ai → if Region.wanted o (yielded ops a.tmps) then o.wp P a E.w K Q ∨ (o.asks P a E.w ∧ LetsOut Q) else K (a.put o.dst undef) E.w := by
    intro i hg hd hi
    have hw : Region.wanted o (yielded ops a.tmps) = true := by
      unfold Region.wanted
      split
      · rfl
      · rename_i he; rw [he] at hg; cases hg
    rw [if_pos hw]
    have hng : ∀ j w d i', ai ≠ .gd j w d i' := by
      rintro j w d i' rfl
      cases i <;> simp only [trI1] at hi <;> (first | (cases hi; done) | skip) <;> (split at hi) <;> (first | (cases hi; done) | skip) <;>
        simp only [trMv, trPick, trNew, trBuild, trMks, trMk, trLd, trLdq, trNilc, trBin, trEqs, trUn, trSl, trSsl, trSlen, trFa, trFld, trIa, trIx, trExt, trFun, trApp, trLen, trMx, trInt, trStr, trSt, trCall, opt2] at hi <;>
        (repeat' (split at hi)) <;> simp_all
    rw [gd_not call ai hng] at hs
    exact .inl (com_wp (trI1_sound hC hi hs hf) hd hK)
  unfold trI at ht
  split at ht
  · rename_i j want d i
    split at ht
    case h_2 => cases ht
    rename_i k w hg
    split at ht
    case isFalse => cases ht
    rename_i hc
    simp only [Bool.and_eq_true, decide_eq_true_eq] at hc
    obtain ⟨⟨⟨rfl, hdn⟩, hdst⟩, hj⟩ := hc
    rw [Option.map_eq_some_iff] at ht
    obtain ⟨i', hi', rfl⟩ := ht
    simp only [okDst, Bool.and_eq_true, decide_eq_true_eq] at hdst
    obtain ⟨hod, hdN⟩ := hdst
    simp only [gstep] at hs
    have hno : (d = none → st' = st) → (∀ t, d = some t → st' = st.put t undefV) → K (a.put o.dst undef) E.w := by
      intro h1 h2
      refine hK _ E c ?_ KN.refl Keeps.refl (Adv.refl _ _)
      rw [hod]
      cases d with
      | some d => rw [h2 d rfl]; exact hf.put undef_rel (by simpa using hdN)
      | none => rw [h1 rfl]; exact hf
    split at hs
    · rename_i b hb
      obtain ⟨v, hv, hr⟩ := hf.σ _ _ hb
      simp only [Rel] at hr
      have hy : yielded ops a.tmps k = some b := by simp only [yielded, hj, Option.bind_some, hv, hr.1]
      by_cases hbw : b = w
      · subst hbw
        rw [if_pos rfl] at hs
        have hw : Region.wanted o (yielded ops a.tmps) = true := by simp only [Region.wanted, hg, hy, beq_self_eq_true]
        rw [if_pos hw]
        exact .inl (com_wp (trI1_sound hC hi' hs hf) hdn hK)
      · rw [if_neg hbw] at hs
        have hw : Region.wanted o (yielded ops a.tmps) = false := by
          simp only [Region.wanted, hg, hy]
          simp [hbw]
        rw [hw, if_neg (by simp)]
        exact hno (fun e => by subst e; simpa using hs.symm) (fun t e => by subst e; simpa using hs.symm)
    · rename_i x hnb hx
      obtain ⟨v, hv, hr⟩ := hf.σ _ _ hx
      simp only [Rel] at hr
      have hy : yielded ops a.tmps k = none := by
        simp only [yielded, hj, Option.bind_some, hv, hr.1]
        cases x <;> first | rfl | exact absurd rfl (hnb _)
      have hw : Region.wanted o (yielded ops a.tmps) = false := by
        simp only [Region.wanted, hg, hy]; rfl
      rw [hw, if_neg (by simp)]
      exact hno (fun e => by subst e; simpa using hs.symm) (fun t e => by subst e; simpa using hs.symm)
    · cases hs
  · rename_i d h'
    split at ht
    case isFalse => cases ht
    rename_i hc
    simp only [Bool.and_eq_true] at hc
    have hw : Region.wanted o (yielded ops a.tmps) = true := by
      unfold Region.wanted
      split
      · rfl
      · rename_i he; have := hc.1; rw [he] at this; cases this
    rw [if_pos hw]
    have hmv : ∃ x, ai = .mv d x := by
      unfold trMv at ht
      split at ht <;> (first | (cases ht; done) | skip) <;>
        (rw [Option.map_eq_some_iff] at ht; obtain ⟨x', h1, rfl⟩ := ht; exact ⟨_, rfl⟩)
    obtain ⟨x, rfl⟩ := hmv
    exact .inl (mv_wp (call := call) hc.2 ht hs hf hK)
  · split at ht
    case isFalse => cases ht
    rename_i hc
    simp only [Bool.and_eq_true] at hc
    exact hplain _ hc.1 hc.2 ht
end
def trOps (P : Program) (N n : Nat) (ops : Array Oper) : List Oper → List AI → Option (List AI)
  | [], [] => some []
  | o :: os, h :: hs => match trI P N n ops o h, trOps P N n ops os hs with
    | some i, some is => some (i :: is)
    | _, _ => none
  | _, _ => none
end Go.Vm
