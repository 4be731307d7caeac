import Derived.Test.YtehgffojgiefaaaVmV
set_option autoImplicit false
namespace Go.Vm

/-! ### the limit of all fuels -/
section lim
variable {α : Type}
open Classical in
noncomputable def lim' (f : Nat → Option α) : Option α := if h : ∃ n, (f n).isSome then f h.choose else none
def Chain (f : Nat → Option α) : Prop := ∀ n m r, n ≤ m → f n = some r → f m = some r
theorem chain_succ {f : Nat → Option α} (h : ∀ n r, f n = some r → f (n + 1) = some r) : Chain f := by
  intro n m r hnm
  induction hnm with
  | refl => exact id
  | step _ ih => exact fun h' => h _ _ (ih h')
theorem lim_some {f : Nat → Option α} (hc : Chain f) {r : α} : lim' f = some r ↔ ∃ n, f n = some r := by
  unfold lim'
  constructor
  · intro h
    split at h
    · exact ⟨_, h⟩
    · cases h
  · rintro ⟨n, hn⟩
    have hex : ∃ n, (f n).isSome := ⟨n, by simp [hn]⟩
    rw [dif_pos hex]
    have hs := hex.choose_spec
    obtain ⟨r', hr'⟩ := Option.isSome_iff_exists.1 hs
    have h1 := hc _ _ _ (Nat.le_max_left n hex.choose) hn
    have h2 := hc _ _ _ (Nat.le_max_right n hex.choose) hr'
    rw [h1] at h2
    rw [hr']
    exact h2.symm
theorem eq_of_some_iff {x y : Option α} (h : ∀ r, x = some r ↔ y = some r) : x = y := by
  cases x with
  | none => cases y with
    | none => rfl
    | some b => exact absurd ((h b).2 rfl) (by simp)
  | some a => exact ((h a).1 rfl).symm
end lim

/-! more fuel, the same answer -/
def CLe (c c' : Call) : Prop := ∀ f xs r, c f xs = some r → c' f xs = some r
section
variable {c c' : Call} {st st' : St}
theorem doCall_mono (h : CLe c c') {d : Option Nat} {g : Nat} {xs : List V} {m : Md} (hr : doCall c d g xs m st = some st') : doCall c' d g xs m st = some st' := by
  unfold doCall at hr ⊢
  cases m with
  | ro fz =>
    simp only at hr ⊢
    cases he : c g (snapArgs st.T xs) with
    | none => rw [he] at hr; cases hr
    | some r => rw [he] at hr; rw [h _ _ _ he]; exact hr
  | io fz =>
    simp only at hr ⊢
    cases he : c g (mapT (closeV 30) st.T xs).1 with
    | none => rw [he] at hr; cases hr
    | some r => rw [he] at hr; rw [h _ _ _ he]; exact hr
theorem astep_mono (h : CLe c c') {i : AI} (hr : astep c st i = some st') : astep c' st i = some st' := by
  cases i
  case call d f args m =>
    simp only [astep] at hr ⊢
    split at hr
    · split at hr
      · exact doCall_mono h hr
      · cases hr
    · cases hr
  all_goals exact hr
theorem gstep_mono (h : CLe c c') {i : AI} (hr : gstep c st i = some st') : gstep c' st i = some st' := by
  cases i
  case gd j want d i =>
    simp only [gstep] at hr ⊢
    split at hr
    · split at hr
      · rename_i hb; rw [if_pos hb]; exact astep_mono h hr
      · rename_i hb; rw [if_neg hb]; exact hr
    · exact hr
    · cases hr
  all_goals (simp only [gstep] at hr ⊢; exact astep_mono h hr)
theorem arun_mono (h : CLe c c') : ∀ {is : List AI} {st : St}, arun c is st = some st' → arun c' is st = some st'
  | [], _, hr => hr
  | i :: is, st, hr => by
    simp only [arun] at hr ⊢
    cases he : gstep c st i with
    | none => rw [he] at hr; cases hr
    | some s => rw [he] at hr; rw [gstep_mono h he]; exact arun_mono h hr
theorem stepD_mono (h : CLe c c') {p : Dp} {i : AI} (hr : stepD c p i st = some st') : stepD c' p i st = some st' := by
  unfold stepD at hr ⊢
  cases he : gstep c { σ := pickS st.σ (usesI i), T := pickK st.T p.ks } i with
  | none => rw [he] at hr; cases hr
  | some s => rw [he] at hr; rw [gstep_mono h he]; exact hr
theorem arunD_mono (h : CLe c c') : ∀ {ps : List Dp} {is : List AI} {st : St}, arunD c ps is st = some st' → arunD c' ps is st = some st'
  | [], [], _, hr => hr
  | [], _ :: _, _, hr => by simp [arunD] at hr
  | _ :: _, [], _, hr => by simp [arunD] at hr
  | p :: ps, i :: is, st, hr => by
    simp only [arunD] at hr ⊢
    cases he : stepD c p i st with
    | none => rw [he] at hr; cases hr
    | some s => rw [he] at hr; rw [stepD_mono h he]; exact arunD_mono h hr
theorem aexec_mono (h : CLe c c') : ∀ (n m : Nat) (code : AC) (st : St) (r : AX × St), n ≤ m → aexec c n code st = some r → aexec c' m code st = some r
  | 0, _, _, _, _, _, hr => by simp [aexec] at hr
  | n + 1, 0, _, _, _, hle, _ => by omega
  | n + 1, m + 1, code, st, r, hle, hr => by
    have hle' : n ≤ m := by omega
    have IH := fun code st r => aexec_mono h n m code st r hle'
    cases code with
    | skip => simpa only [aexec] using hr
    | ret => simpa only [aexec] using hr
    | exit id => simpa only [aexec] using hr
    | reg is =>
      simp only [aexec, Option.map_eq_some_iff] at hr ⊢
      obtain ⟨s, hs, rfl⟩ := hr
      exact ⟨s, arun_mono h hs, rfl⟩
    | dreg plan is =>
      simp only [aexec] at hr ⊢
      cases he : arunD c plan is (wipeL (allocD plan is) st) with
      | none => rw [he] at hr; cases hr
      | some s => rw [he] at hr; rw [arunD_mono h he]; exact hr
    | seq x y =>
      simp only [aexec] at hr ⊢
      cases he : aexec c n x st with
      | none => rw [he] at hr; cases hr
      | some s =>
        rw [he] at hr; rw [IH _ _ _ he]
        obtain ⟨e, s⟩ := s
        cases e <;> first | exact IH _ _ _ hr | exact hr
    | cond a x y =>
      simp only [aexec] at hr ⊢
      split at hr
      · exact IH _ _ _ hr
      · exact IH _ _ _ hr
      · cases hr
    | block id x =>
      simp only [aexec] at hr ⊢
      cases he : aexec c n x st with
      | none => rw [he] at hr; cases hr
      | some s => rw [he] at hr; rw [IH _ _ _ he]; exact hr
    | loop ls ks x =>
      simp only [aexec] at hr ⊢
      cases he : aexec c n x (prune ls ks st) with
      | none => rw [he] at hr; cases hr
      | some s =>
        rw [he] at hr; rw [IH _ _ _ he]
        obtain ⟨e, s⟩ := s
        cases e <;> first | exact IH _ _ _ hr | exact hr
end
theorem acall_succ (prog : Nat → Option AE) : ∀ (n : Nat), CLe (acall prog n) (acall prog (n + 1))
  | 0 => fun f xs r h => by simp [acall] at h
  | n + 1 => by
    have IH := acall_succ prog n
    intro f xs r h
    rw [acall] at h ⊢
    split at h
    · rename_i g hg; exact h
    · rename_i af haf
      split at h
      case isFalse => cases h
      rename_i hlen
      rw [if_pos hlen]
      cases he : aexec (acall prog n) n af.body { σ := slotsFrom 0 (openArgs 0 xs).1, T := (openArgs 0 xs).2 } with
      | none => rw [he] at h; cases h
      | some s => rw [he] at h; rw [aexec_mono IH n (n + 1) _ _ _ (by omega) he]; exact h
    · cases h
theorem acall_le (prog : Nat → Option AE) {n m : Nat} (h : n ≤ m) : CLe (acall prog n) (acall prog m) := by
  intro f xs r
  exact chain_succ (f := fun n => acall prog n f xs) (fun n r => acall_succ prog n f xs r) n m r h

section
variable (prog : Nat → Option AE)
noncomputable def cw : Call := fun f xs => lim' fun n => acall prog n f xs
noncomputable def xw (c : AC) (st : St) : Option (AX × St) := lim' fun n => aexec (acall prog n) n c st
variable {prog}
theorem cw_some {f : Nat} {xs : List V} {r : V × List V} : cw prog f xs = some r ↔ ∃ n, acall prog n f xs = some r :=
  lim_some (chain_succ fun n r => acall_succ prog n f xs r)
theorem xw_some {c : AC} {st : St} {r : AX × St} : xw prog c st = some r ↔ ∃ n, aexec (acall prog n) n c st = some r :=
  lim_some (chain_succ fun n r => aexec_mono (acall_succ prog n) n (n + 1) c st r (by omega))
theorem acall_cw (n : Nat) : CLe (acall prog n) (cw prog) := fun _ _ _ h => cw_some.2 ⟨n, h⟩

/-! what the limit does, some fuel does -/
variable {st st' : St}
theorem doCall_cw {d : Option Nat} {g : Nat} {xs : List V} {m : Md} (h : doCall (cw prog) d g xs m st = some st') : ∃ n, doCall (acall prog n) d g xs m st = some st' := by
  unfold doCall at h
  cases m with
  | ro fz =>
    simp only at h
    cases he : cw prog g (snapArgs st.T xs) with
    | none => rw [he] at h; cases h
    | some r => rw [he] at h; obtain ⟨n, hn⟩ := cw_some.1 he; exact ⟨n, by unfold doCall; simp only [hn]; exact h⟩
  | io fz =>
    simp only at h
    cases he : cw prog g (mapT (closeV 30) st.T xs).1 with
    | none => rw [he] at h; cases h
    | some r => rw [he] at h; obtain ⟨n, hn⟩ := cw_some.1 he; exact ⟨n, by unfold doCall; simp only [hn]; exact h⟩
theorem astep_cw {i : AI} (h : astep (cw prog) st i = some st') : ∃ n, astep (acall prog n) st i = some st' := by
  cases i
  case call d f args m =>
    simp only [astep] at h ⊢
    split at h
    · rename_i f' hf
      split at h
      · rename_i hc ha
        obtain ⟨n, hn⟩ := doCall_cw h
        exact ⟨n, by rw [hn]⟩
      · cases h
    · cases h
  all_goals exact ⟨0, h⟩
theorem gstep_cw {i : AI} (h : gstep (cw prog) st i = some st') : ∃ n, gstep (acall prog n) st i = some st' := by
  cases i
  case gd j want d i =>
    simp only [gstep] at h ⊢
    split at h
    · split at h
      · rename_i hb; obtain ⟨n, hn⟩ := astep_cw h; exact ⟨n, by rw [if_pos hb]; exact hn⟩
      · rename_i hb; exact ⟨0, by rw [if_neg hb]; exact h⟩
    · exact ⟨0, h⟩
    · cases h
  all_goals (simp only [gstep] at h ⊢; exact astep_cw h)
theorem arun_cw : ∀ {is : List AI} {st : St}, arun (cw prog) is st = some st' → ∃ n, arun (acall prog n) is st = some st'
  | [], _, h => ⟨0, h⟩
  | i :: is, st, h => by
    simp only [arun] at h ⊢
    cases he : gstep (cw prog) st i with
    | none => rw [he] at h; cases h
    | some s =>
      rw [he] at h
      obtain ⟨n, hn⟩ := gstep_cw he
      obtain ⟨m, hm⟩ := arun_cw h
      refine ⟨max n m, ?_⟩
      rw [gstep_mono (acall_le prog (Nat.le_max_left n m)) hn]
      exact arun_mono (acall_le prog (Nat.le_max_right n m)) hm
theorem stepD_cw {p : Dp} {i : AI} (h : stepD (cw prog) p i st = some st') : ∃ n, stepD (acall prog n) p i st = some st' := by
  unfold stepD at h
  cases he : gstep (cw prog) { σ := pickS st.σ (usesI i), T := pickK st.T p.ks } i with
  | none => rw [he] at h; cases h
  | some s =>
    rw [he] at h
    obtain ⟨n, hn⟩ := gstep_cw he
    exact ⟨n, by unfold stepD; rw [hn]; exact h⟩
theorem arunD_cw : ∀ {ps : List Dp} {is : List AI} {st : St}, arunD (cw prog) ps is st = some st' → ∃ n, arunD (acall prog n) ps is st = some st'
  | [], [], _, h => ⟨0, h⟩
  | [], _ :: _, _, h => by simp [arunD] at h
  | _ :: _, [], _, h => by simp [arunD] at h
  | p :: ps, i :: is, st, h => by
    simp only [arunD] at h ⊢
    cases he : stepD (cw prog) p i st with
    | none => rw [he] at h; cases h
    | some s =>
      rw [he] at h
      obtain ⟨n, hn⟩ := stepD_cw he
      obtain ⟨m, hm⟩ := arunD_cw h
      refine ⟨max n m, ?_⟩
      rw [stepD_mono (acall_le prog (Nat.le_max_left n m)) hn]
      exact arunD_mono (acall_le prog (Nat.le_max_right n m)) hm

/-! the equations -/
theorem xw_up {n : Nat} {c : AC} {r : AX × St} (h : aexec (acall prog n) n c st = some r) (m : Nat) (hm : n ≤ m) : aexec (acall prog m) m c st = some r :=
  aexec_mono (acall_le prog hm) n m c st r hm h
theorem xw_skip : xw prog .skip st = some (.normal, st) := xw_some.2 ⟨1, rfl⟩
theorem xw_ret : xw prog .ret st = some (.ret, st) := xw_some.2 ⟨1, rfl⟩
theorem xw_exit {id : Nat} : xw prog (.exit id) st = some (.exit id, st) := xw_some.2 ⟨1, rfl⟩
theorem xw_reg {is : List AI} : xw prog (.reg is) st = (arun (cw prog) is st).map fun st => (.normal, st) := by
  apply eq_of_some_iff
  intro r
  rw [xw_some]
  constructor
  · rintro ⟨n, h⟩
    cases n with
    | zero => simp [aexec] at h
    | succ n =>
      simp only [aexec, Option.map_eq_some_iff] at h ⊢
      obtain ⟨s, hs, rfl⟩ := h
      exact ⟨s, arun_mono (acall_cw _) hs, rfl⟩
  · intro h
    simp only [Option.map_eq_some_iff] at h
    obtain ⟨s, hs, rfl⟩ := h
    obtain ⟨n, hn⟩ := arun_cw hs
    refine ⟨n + 1, ?_⟩
    simp only [aexec, Option.map_eq_some_iff]
    exact ⟨s, arun_mono (acall_succ prog n) hn, rfl⟩
theorem xw_dreg {plan : List Dp} {is : List AI} : xw prog (.dreg plan is) st = match arunD (cw prog) plan is (wipeL (allocD plan is) st) with
      | some st => if nodupK st.T then some (.normal, st) else none
      | none => none := by
  apply eq_of_some_iff
  intro r
  rw [xw_some]
  constructor
  · rintro ⟨n, h⟩
    cases n with
    | zero => simp [aexec] at h
    | succ n =>
      simp only [aexec] at h
      cases he : arunD (acall prog (n + 1)) plan is (wipeL (allocD plan is) st) with
      | none => rw [he] at h; cases h
      | some s => rw [he] at h; rw [arunD_mono (acall_cw _) he]; exact h
  · intro h
    cases he : arunD (cw prog) plan is (wipeL (allocD plan is) st) with
    | none => rw [he] at h; cases h
    | some s =>
      rw [he] at h
      obtain ⟨n, hn⟩ := arunD_cw he
      refine ⟨n + 1, ?_⟩
      simp only [aexec]
      rw [arunD_mono (acall_succ prog n) hn]; exact h
theorem xw_seq {x y : AC} : xw prog (.seq x y) st = match xw prog x st with
      | some (.normal, st') => xw prog y st'
      | r => r := by
  apply eq_of_some_iff
  intro r
  rw [xw_some]
  constructor
  · rintro ⟨n, h⟩
    cases n with
    | zero => simp [aexec] at h
    | succ n =>
      simp only [aexec] at h
      cases he : aexec (acall prog (n + 1)) n x st with
      | none => rw [he] at h; cases h
      | some s =>
        rw [he] at h
        have hx : xw prog x st = some s := xw_some.2 ⟨n + 1, aexec_mono (fun _ _ _ h => h) n (n + 1) _ _ _ (by omega) he⟩
        rw [hx]
        obtain ⟨e, s⟩ := s
        cases e
        · exact xw_some.2 ⟨n + 1, aexec_mono (fun _ _ _ h => h) n (n + 1) _ _ _ (by omega) h⟩
        · exact h
        · exact h
  · intro h
    cases he : xw prog x st with
    | none => rw [he] at h; cases h
    | some s =>
      rw [he] at h
      obtain ⟨n, hn⟩ := xw_some.1 he
      obtain ⟨e, s⟩ := s
      cases e
      · obtain ⟨m, hm⟩ := xw_some.1 h
        refine ⟨max n m + 1, ?_⟩
        simp only [aexec]
        rw [aexec_mono (acall_le prog (by omega)) n (max n m) _ _ _ (by omega) hn]
        exact aexec_mono (acall_le prog (by omega)) m (max n m) _ _ _ (by omega) hm
      all_goals
        refine ⟨n + 1, ?_⟩
        simp only [aexec]
        rw [aexec_mono (acall_le prog (by omega)) n n _ _ _ (by omega) hn]
        exact h
theorem xw_cond {a : AO} {x y : AC} : xw prog (.cond a x y) st = match ev st.σ a with
      | some (.v (.bool true)) => xw prog x st
      | some (.v (.bool false)) => xw prog y st
      | _ => none := by
  apply eq_of_some_iff
  intro r
  rw [xw_some]
  constructor
  · rintro ⟨n, h⟩
    cases n with
    | zero => simp [aexec] at h
    | succ n =>
      simp only [aexec] at h
      split at h
      · rename_i hv; rw [hv]; exact xw_some.2 ⟨n + 1, aexec_mono (fun _ _ _ h => h) n (n + 1) _ _ _ (by omega) h⟩
      · rename_i hv; rw [hv]; exact xw_some.2 ⟨n + 1, aexec_mono (fun _ _ _ h => h) n (n + 1) _ _ _ (by omega) h⟩
      · cases h
  · intro h
    split at h
    · rename_i hv
      obtain ⟨n, hn⟩ := xw_some.1 h
      exact ⟨n + 1, by simp only [aexec, hv]; exact aexec_mono (acall_succ prog n) n n _ _ _ (by omega) hn⟩
    · rename_i hv
      obtain ⟨n, hn⟩ := xw_some.1 h
      exact ⟨n + 1, by simp only [aexec, hv]; exact aexec_mono (acall_succ prog n) n n _ _ _ (by omega) hn⟩
    · cases h
theorem xw_block {id : Nat} {x : AC} : xw prog (.block id x) st = match xw prog x st with
      | some (.exit id', st') => if id' = id then some (.normal, st') else some (.exit id', st')
      | r => r := by
  apply eq_of_some_iff
  intro r
  rw [xw_some]
  constructor
  · rintro ⟨n, h⟩
    cases n with
    | zero => simp [aexec] at h
    | succ n =>
      simp only [aexec] at h
      cases he : aexec (acall prog (n + 1)) n x st with
      | none => rw [he] at h; cases h
      | some s =>
        rw [he] at h
        rw [xw_some.2 ⟨n + 1, aexec_mono (fun _ _ _ h => h) n (n + 1) _ _ _ (by omega) he⟩]
        exact h
  · intro h
    cases he : xw prog x st with
    | none => rw [he] at h; cases h
    | some s =>
      rw [he] at h
      obtain ⟨n, hn⟩ := xw_some.1 he
      refine ⟨n + 1, ?_⟩
      simp only [aexec]
      rw [aexec_mono (acall_succ prog n) n n _ _ _ (by omega) hn]
      exact h
theorem xw_loop {ls : List Nat} {ks : List Key} {x : AC} : xw prog (.loop ls ks x) st = match xw prog x (prune ls ks st) with
      | some (.normal, st') => xw prog (.loop ls ks x) st'
      | r => r := by
  apply eq_of_some_iff
  intro r
  rw [xw_some]
  constructor
  · rintro ⟨n, h⟩
    cases n with
    | zero => simp [aexec] at h
    | succ n =>
      rw [aexec] at h
      cases he : aexec (acall prog (n + 1)) n x (prune ls ks st) with
      | none => rw [he] at h; cases h
      | some s =>
        rw [he] at h
        have hx : xw prog x (prune ls ks st) = some s := xw_some.2 ⟨n + 1, aexec_mono (fun _ _ _ h => h) n (n + 1) _ _ _ (by omega) he⟩
        rw [hx]
        obtain ⟨e, s⟩ := s
        cases e
        · exact xw_some.2 ⟨n + 1, aexec_mono (fun _ _ _ h => h) n (n + 1) _ _ _ (by omega) h⟩
        · exact h
        · exact h
  · intro h
    cases he : xw prog x (prune ls ks st) with
    | none => rw [he] at h; cases h
    | some s =>
      rw [he] at h
      obtain ⟨n, hn⟩ := xw_some.1 he
      obtain ⟨e, s⟩ := s
      cases e
      · obtain ⟨m, hm⟩ := xw_some.1 h
        refine ⟨max n m + 1, ?_⟩
        rw [aexec]
        rw [aexec_mono (acall_le prog (by omega)) n (max n m) _ _ _ (by omega) hn]
        exact aexec_mono (acall_le prog (by omega)) m (max n m) _ _ _ (by omega) hm
      all_goals
        refine ⟨n + 1, ?_⟩
        rw [aexec]
        rw [aexec_mono (acall_le prog (by omega)) n n _ _ _ (by omega) hn]
        exact h
theorem cw_eq {f : Nat} {args : List V} : cw prog f args = match prog f with
    | some (.prim g) => g args
    | some (.fn af) =>
      if args.length = af.nargs then
        match xw prog af.body { σ := slotsFrom 0 (openArgs 0 args).1, T := (openArgs 0 args).2 } with
        | some (.normal, st) | some (.ret, st) => finish af (openArgs 0 args).1 st
        | _ => none
      else none
    | none => none := by
  apply eq_of_some_iff
  intro r
  rw [cw_some]
  constructor
  · rintro ⟨n, h⟩
    cases n with
    | zero => simp [acall] at h
    | succ n =>
      rw [acall] at h
      split at h
      · rename_i hp; rw [hp]; exact h
      · rename_i af hp
        rw [hp]
        split at h
        case isFalse => cases h
        rename_i hlen
        show (if args.length = af.nargs then _ else _) = _
        rw [if_pos hlen]
        cases he : aexec (acall prog n) n af.body { σ := slotsFrom 0 (openArgs 0 args).1, T := (openArgs 0 args).2 } with
        | none => rw [he] at h; cases h
        | some s =>
          rw [he] at h
          rw [xw_some.2 ⟨n, he⟩]; exact h
      · cases h
  · intro h
    split at h
    · rename_i hp; exact ⟨1, by rw [acall, hp]; exact h⟩
    · rename_i af hp
      split at h
      case isFalse => cases h
      rename_i hlen
      cases he : xw prog af.body { σ := slotsFrom 0 (openArgs 0 args).1, T := (openArgs 0 args).2 } with
      | none => rw [he] at h; cases h
      | some s =>
        obtain ⟨n, hn⟩ := xw_some.1 he
        refine ⟨n + 1, ?_⟩
        rw [acall, hp]
        simp only [if_pos hlen]
        rw [he] at h
        rw [hn]; exact h
    · cases h
end
end Go.Vm
