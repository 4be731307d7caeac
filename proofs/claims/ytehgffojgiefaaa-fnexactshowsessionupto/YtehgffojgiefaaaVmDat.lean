import Derived.Test.YtehgffojgiefaaaVmWq
set_option autoImplicit false
set_option linter.unusedVariables false
set_option linter.unusedSimpArgs false
namespace Go.Vm

abbrev Str := List UInt8
theorem drop_cons' {α : Type} {l : List α} {i : Nat} {x : α} (h : l[i]? = some x) : l.drop i = x :: l.drop (i + 1) := by
  obtain ⟨hl, rfl⟩ := List.getElem?_eq_some_iff.1 h
  exact List.drop_eq_getElem_cons hl
theorem get_some' {α : Type} {l : List α} {i : Nat} (h : i < l.length) : ∃ x, l[i]? = some x := ⟨_, List.getElem?_eq_getElem h⟩

/-! ### rows of values that stand for rows of data -/
def RL {α : Type} (R : α → V → Prop) : List α → List V → Prop
  | [], vs => vs = []
  | t :: ts, vs => ∃ v vs', vs = v :: vs' ∧ R t v ∧ RL R ts vs'
section
variable {α : Type} {R R' : α → V → Prop}
theorem RL_length : ∀ {ts : List α} {vs : List V}, RL R ts vs → vs.length = ts.length
  | [], vs, h => by simp only [RL] at h; simp [h]
  | t :: ts, vs, h => by
    simp only [RL] at h
    obtain ⟨v, vs', rfl, -, h⟩ := h
    simp [RL_length h]
theorem RL_get : ∀ {ts : List α} {vs : List V} {i : Nat} {t : α}, RL R ts vs → ts[i]? = some t → ∃ v, vs[i]? = some v ∧ R t v
  | [], vs, i, t, h, ht => by simp at ht
  | t' :: ts, vs, i, t, h, ht => by
    simp only [RL] at h
    obtain ⟨v, vs', rfl, h1, h2⟩ := h
    cases i with
    | zero => simp at ht; subst ht; exact ⟨v, rfl, h1⟩
    | succ i => simpa using RL_get h2 (by simpa using ht)
theorem RL_mono (h : ∀ t v, R t v → R' t v) : ∀ {ts : List α} {vs : List V}, RL R ts vs → RL R' ts vs
  | [], vs, hv => hv
  | t :: ts, vs, hv => by
    simp only [RL] at hv ⊢
    obtain ⟨v, vs', rfl, h1, h2⟩ := hv
    exact ⟨v, vs', rfl, h t v h1, RL_mono h h2⟩
theorem RL_map {f : α → V} (h : ∀ t, R t (f t)) : ∀ (ts : List α), RL R ts (ts.map f)
  | [] => rfl
  | t :: ts => by simp only [RL, List.map_cons]; exact ⟨_, _, rfl, h t, RL_map h ts⟩
theorem RL_append : ∀ {ts us : List α} {vs ws : List V}, RL R ts vs → RL R us ws → RL R (ts ++ us) (vs ++ ws)
  | [], us, vs, ws, h, h' => by simp only [RL] at h; subst h; exact h'
  | t :: ts, us, vs, ws, h, h' => by
    simp only [RL] at h
    obtain ⟨v, vs', rfl, h1, h2⟩ := h
    simp only [List.cons_append, RL]
    exact ⟨v, vs' ++ ws, rfl, h1, RL_append h2 h'⟩
theorem RL_drop : ∀ {ts : List α} {vs : List V} (n : Nat), RL R ts vs → RL R (ts.drop n) (vs.drop n)
  | ts, vs, 0, h => by simpa using h
  | [], vs, n + 1, h => by simp only [RL] at h; subst h; simp [RL]
  | t :: ts, vs, n + 1, h => by
    simp only [RL] at h
    obtain ⟨v, vs', rfl, h1, h2⟩ := h
    simpa using RL_drop n h2
theorem RL_take : ∀ {ts : List α} {vs : List V} (n : Nat), RL R ts vs → RL R (ts.take n) (vs.take n)
  | ts, vs, 0, h => by simp [RL]
  | [], vs, n + 1, h => by simp only [RL] at h; subst h; simp [RL]
  | t :: ts, vs, n + 1, h => by
    simp only [RL] at h
    obtain ⟨v, vs', rfl, h1, h2⟩ := h
    simp only [List.take_succ_cons, RL]
    exact ⟨_, _, rfl, h1, RL_take n h2⟩
theorem RL_mem : ∀ {ts : List α} {vs : List V} {v : V}, RL R ts vs → v ∈ vs → ∃ t ∈ ts, R t v
  | [], vs, v, h, hv => by simp only [RL] at h; subst h; cases hv
  | t :: ts, vs, v, h, hv => by
    simp only [RL] at h
    obtain ⟨w, vs', rfl, h1, h2⟩ := h
    rcases List.mem_cons.1 hv with rfl | hv
    · exact ⟨t, by simp, h1⟩
    · obtain ⟨u, hu, hr⟩ := RL_mem h2 hv; exact ⟨u, by simp [hu], hr⟩
theorem RL_fun {f : α → V} (h : ∀ t v, R t v → v = f t) : ∀ {ts : List α} {vs : List V}, RL R ts vs → vs = ts.map f
  | [], vs, hv => hv
  | t :: ts, vs, hv => by
    simp only [RL] at hv
    obtain ⟨v, vs', rfl, h1, h2⟩ := hv
    rw [h t v h1, RL_fun h h2, List.map_cons]
end
def RI (n : Int) (v : V) : Prop := v = I n
def RS (s : Str) (v : V) : Prop := v = S s

/-! closed values stay -/
mutual
theorem killVc (d : Nat) : ∀ (x : V), clB x = true → killV d x = x
  | .v _, _ | .q .., _ | .i .., _ | .o .., _ | .b _, _ | .n _, _ => rfl
  | .f fn first caps, h => by
    simp only [clB, Bool.and_eq_true] at h
    simp only [killV, killLcB d first h.1, killLcB d caps h.2]
  | .p .., h | .s .., h | .a _, h | .t _, h | .d, h => by simp [clB] at h
theorem killLcB (d : Nat) : ∀ (xs : List V), clBL xs = true → killL d xs = xs
  | [], _ => rfl
  | x :: xs, h => by
    simp only [clBL, Bool.and_eq_true] at h
    simp only [killL, killVc d x h.1, killLcB d xs h.2]
end
theorem killVcE (d : Nat) (x : V) (h : clE x = true) : killV d x = x := by
  cases x
  case a cs => simp only [clE] at h; simp only [killV, killLcB d cs h]
  all_goals exact killVc d _ h
theorem killLc (d : Nat) : ∀ (xs : List V), clEs xs = true → killL d xs = xs
  | [], _ => rfl
  | x :: xs, h => by
    simp only [clEs, Bool.and_eq_true] at h
    simp only [killL, killVcE d x h.1, killLc d xs h.2]
theorem clEs_app : ∀ (xs ys : List V), clEs (xs ++ ys) = (clEs xs && clEs ys)
  | [], ys => by simp [clEs]
  | x :: xs, ys => by simp only [List.cons_append, clEs, clEs_app xs ys, Bool.and_assoc]
theorem killL_app (d : Nat) : ∀ (xs ys : List V), killL d (xs ++ ys) = killL d xs ++ killL d ys
  | [], ys => rfl
  | x :: xs, ys => by simp only [List.cons_append, killL, killL_app d xs ys]
theorem convL_app (τ : Bool) : ∀ (xs ys : List V), convL τ (xs ++ ys) = convL τ xs ++ convL τ ys
  | [], ys => rfl
  | x :: xs, ys => by simp only [List.cons_append, convL, convL_app τ xs ys]
theorem clEs_rep (n : Nat) (z : V) (h : clE z = true) : clEs (List.replicate n z) = true := by
  induction n with
  | zero => rfl
  | succ n ih => simp only [List.replicate_succ, clEs, h, ih, Bool.and_self]
theorem killL_rep (d n : Nat) (z : V) (h : clE z = true) : killL d (List.replicate n z) = List.replicate n z := killLc d _ (clEs_rep n z h)
section
variable {α : Type} {f : α → V}
theorem clEs_map (h : ∀ x, clE (f x) = true) : ∀ (l : List α), clEs (l.map f) = true
  | [] => rfl
  | x :: l => by simp only [List.map_cons, clEs, h x, clEs_map h l, Bool.and_self]
theorem killL_map (h : ∀ x, clE (f x) = true) (d : Nat) (l : List α) : killL d (l.map f) = l.map f := killLc d _ (clEs_map h l)
theorem convL_map {g : α → V} {τ : Bool} (h : ∀ x, conv τ (f x) = g x) : ∀ (l : List α), convL τ (l.map f) = l.map g
  | [] => rfl
  | x :: l => by simp only [List.map_cons, convL, h x, convL_map h l]
theorem noTagL_map (h : ∀ x, noTag (f x) = true) : ∀ (l : List α), noTagL (l.map f) = true
  | [] => rfl
  | x :: l => by simp only [List.map_cons, noTagL, h x, noTagL_map h l, Bool.and_self]
theorem allOne_map {e : Nat} (h : ∀ x, oneL (f x).cells = true ∧ (f x).cells.length = e) : ∀ (l : List α), allOne e (l.map f) = true
  | [] => rfl
  | x :: l => by simp only [List.map_cons, allOne, (h x).1, (h x).2, allOne_map h l, beq_self_eq_true, Bool.and_self]
theorem zeroBL_map (h : ∀ x, zeroB (f x) = true) : ∀ (l : List α), zeroBL (l.map f) = true
  | [] => rfl
  | x :: l => by simp only [List.map_cons, zeroBL, h x, zeroBL_map h l, Bool.and_self]
/-- a name is closed into the row that holds it -/
theorem repEs_app (k : Key) (ob : Ob) : ∀ (xs ys : List V), clEs xs = true → repEs k ob (xs ++ ys) = (repEs k ob ys).map (xs ++ ·)
  | [], ys, _ => by simp
  | x :: xs, ys, h => by
    simp only [clEs, Bool.and_eq_true] at h
    have hC : ∀ (c : V), clB c = true → repC k ob c = none := by intro c hc; cases c <;> first | rfl | (simp [clB] at hc)
    have hCs : ∀ (cs : List V), clBL cs = true → repCs k ob cs = none := by
      intro cs
      induction cs with
      | nil => intro _; rfl
      | cons c cs ih =>
        intro h
        simp only [clBL, Bool.and_eq_true] at h
        simp only [repCs, hC c h.1, ih h.2, Option.map_none]
    have hE : repE k ob x = none := by
      cases x
      case a cs => simp only [clE] at h; simp only [repE, hCs cs h.1, Option.map_none]
      all_goals exact hC _ h.1
    simp only [List.cons_append, repEs, hE, repEs_app k ob xs ys h.2]
    cases repEs k ob ys <;> rfl
end
@[go_sem] theorem clEs_I (l : List Int) : clEs (l.map I) = true := clEs_map (fun _ => rfl) l
@[go_sem] theorem clEs_S (l : List Str) : clEs (l.map S) = true := clEs_map (fun _ => rfl) l
@[go_sem] theorem killL_I (d : Nat) (l : List Int) : killL d (l.map I) = l.map I := killL_map (fun _ => rfl) d l
@[go_sem] theorem killL_S (d : Nat) (l : List Str) : killL d (l.map S) = l.map S := killL_map (fun _ => rfl) d l
@[go_sem] theorem convL_I (τ : Bool) (l : List Int) : convL τ (l.map I) = l.map I := convL_map (fun _ => rfl) l
@[go_sem] theorem convL_S (τ : Bool) (l : List Str) : convL τ (l.map S) = l.map S := convL_map (fun _ => rfl) l
@[go_sem] theorem noTagL_I (l : List Int) : noTagL (l.map I) = true := noTagL_map (fun _ => rfl) l
@[go_sem] theorem noTagL_S (l : List Str) : noTagL (l.map S) = true := noTagL_map (fun _ => rfl) l
attribute [go_sem] List.length_map List.length_replicate Nat.zero_add Nat.add_zero Nat.le_refl List.take_length
@[go_sem] theorem take_map_len {α : Type} {f : α → V} {l : List α} : (l.map f).take l.length = l.map f := by
  rw [← List.length_map (f := f), List.take_length]
section rep
variable {k : Key} {ob : Ob} {k' : Key} {e : Nat} {xs : List V} {T : Mem}
def repK (k : Key) (ob : Ob) (r : Option (List V)) (k' : Key) (e : Nat) (xs : List V) (T : Mem) : Mem :=
  match r with
  | some xs' => (k', e, xs') :: T
  | none => (k', e, xs) :: repT k ob T
@[congr] theorem repK_congr {r r' : Option (List V)} (h : r = r') : repK k ob r k' e xs T = repK k ob r' k' e xs T := by rw [h]
@[go_sem] theorem repT_nil : repT k ob [] = [] := rfl
@[go_sem] theorem repT_cons : repT k ob ((k', e, xs) :: T) = repK k ob (repEs k ob xs) k' e xs T := by
  simp only [repT, repK]; cases repEs k ob xs <;> rfl
@[go_sem] theorem repK_some {xs' : List V} : repK k ob (some xs') k' e xs T = (k', e, xs') :: T := rfl
@[go_sem] theorem repK_none : repK k ob none k' e xs T = (k', e, xs) :: repT k ob T := rfl
def repN (k : Key) (ob : Ob) (r : Option V) (x : V) (xs : List V) : Option (List V) :=
  match r with
  | some x' => some (x' :: xs)
  | none => bindLs (repEs k ob xs) fun ys => some (x :: ys)
def repM (k : Key) (ob : Ob) (r : Option V) (x : V) (xs : List V) : Option (List V) :=
  match r with
  | some x' => some (x' :: xs)
  | none => bindLs (repCs k ob xs) fun ys => some (x :: ys)
@[congr] theorem repN_congr {r r' : Option V} {x : V} (h : r = r') : repN k ob r x xs = repN k ob r' x xs := by rw [h]
@[congr] theorem repM_congr {r r' : Option V} {x : V} (h : r = r') : repM k ob r x xs = repM k ob r' x xs := by rw [h]
@[go_sem] theorem repN_some {x x' : V} : repN k ob (some x') x xs = some (x' :: xs) := rfl
@[go_sem] theorem repN_none {x : V} : repN k ob none x xs = bindLs (repEs k ob xs) fun ys => some (x :: ys) := rfl
@[go_sem] theorem repM_some {x x' : V} : repM k ob (some x') x xs = some (x' :: xs) := rfl
@[go_sem] theorem repM_none {x : V} : repM k ob none x xs = bindLs (repCs k ob xs) fun ys => some (x :: ys) := rfl
@[go_sem] theorem repEs_nil : repEs k ob [] = none := rfl
@[go_sem] theorem repEs_cons {x : V} : repEs k ob (x :: xs) = repN k ob (repE k ob x) x xs := by
  simp only [repEs, repN]
  cases repE k ob x with
  | some y => rfl
  | none => simp only; cases repEs k ob xs <;> rfl
@[go_sem] theorem repCs_nil : repCs k ob [] = none := rfl
@[go_sem] theorem repCs_cons {x : V} : repCs k ob (x :: xs) = repM k ob (repC k ob x) x xs := by
  simp only [repCs, repM]
  cases repC k ob x with
  | some y => rfl
  | none => simp only; cases repCs k ob xs <;> rfl
@[go_sem] theorem repE_a : repE k ob (.a xs) = bindLs (repCs k ob xs) fun ys => some (.a ys) := by
  simp only [repE]; cases repCs k ob xs <;> rfl
@[go_sem] theorem repE_s {lo len : Nat} : repE k ob (.s k' lo len) = repC k ob (.s k' lo len) := rfl
@[go_sem] theorem repE_p {lo len : Nat} : repE k ob (.p k' lo len) = repC k ob (.p k' lo len) := rfl
@[go_sem] theorem repC_s {lo len : Nat} {zs : List V} : repC k (e, zs) (.s k' lo len) = if k' = k ∧ lo = 0 ∧ len = zs.length then some (.o e zs) else none := rfl
@[go_sem] theorem repC_p {i o : Nat} {z : V} : repC k (e, [z]) (.p k' i o) = if k' = k ∧ i = 0 ∧ o = 0 then some (.b z) else none := rfl
@[go_sem] theorem repC_I {n : Int} : repC k ob (I n) = none := rfl
@[go_sem] theorem repC_S {l : Str} : repC k ob (S l) = none := rfl
@[go_sem] theorem repC_B {b : Bool} : repC k ob (B b) = none := rfl
@[go_sem] theorem repC_U8 {n : Int} : repC k ob (U8 n) = none := rfl
@[go_sem] theorem repC_i {τ : Bool} : repC k ob (.i τ xs) = none := rfl
@[go_sem] theorem repC_o : repC k ob (.o e xs) = none := rfl
@[go_sem] theorem repC_n : repC k ob (.n e) = none := rfl
@[go_sem] theorem repE_I {n : Int} : repE k ob (I n) = none := rfl
@[go_sem] theorem repE_S {l : Str} : repE k ob (S l) = none := rfl
@[go_sem] theorem repE_B {b : Bool} : repE k ob (B b) = none := rfl
end rep

/-! ### terms -/
inductive Tm where
  | mk (kind : Int) (name : Str) (num : Int) (kids : List Tm)
def Tm.kind : Tm → Int | .mk k _ _ _ => k
def Tm.name : Tm → Str | .mk _ s _ _ => s
def Tm.num : Tm → Int | .mk _ _ n _ => n
def Tm.kids : Tm → List Tm | .mk _ _ _ ks => ks
noncomputable instance : DecidableEq Tm := fun a b => Classical.propDecidable (a = b)
section
variable {k n : Int} {s : Str} {ks : List Tm}
@[go_sem] theorem Tm.kind_mk : (Tm.mk k s n ks).kind = k := rfl
@[go_sem] theorem Tm.name_mk : (Tm.mk k s n ks).name = s := rfl
@[go_sem] theorem Tm.num_mk : (Tm.mk k s n ks).num = n := rfl
@[go_sem] theorem Tm.kids_mk : (Tm.mk k s n ks).kids = ks := rfl
end
theorem Tm.eta (t : Tm) : Tm.mk t.kind t.name t.num t.kids = t := by cases t; rfl
theorem Tm.ind {P : Tm → Prop} (h : ∀ k s n ks, (∀ t ∈ ks, P t) → P (.mk k s n ks)) (t : Tm) : P t :=
  Tm.rec (motive_1 := P) (motive_2 := fun ks => ∀ t ∈ ks, P t) (fun k s n ks ih => h k s n ks ih) (fun t ht => by cases ht)
    (fun x xs hx hxs t ht => by
      rcases List.mem_cons.1 ht with rfl | ht
      · exact hx
      · exact hxs t ht) t
/-! a term that may only be read -/
mutual
def BT : Tm → V → Prop
  | .mk k s n ks, v => ∃ τ vs, v = .a [I k, S s, I n, .i τ vs] ∧ BTs ks vs
def BTs : List Tm → List V → Prop
  | [], vs => vs = []
  | t :: ts, vs => ∃ v vs', vs = v :: vs' ∧ BT t v ∧ BTs ts vs'
end
theorem BTs_iff : ∀ (ts : List Tm) (vs : List V), BTs ts vs ↔ RL BT ts vs
  | [], vs => by simp only [BTs, RL]
  | t :: ts, vs => by simp only [BTs, RL, BTs_iff ts]
theorem BT_mk {k n : Int} {s : Str} {ks : List Tm} {v : V} : BT (.mk k s n ks) v ↔ ∃ τ vs, v = .a [I k, S s, I n, .i τ vs] ∧ RL BT ks vs := by
  simp only [BT, BTs_iff]
theorem BT_shape {t : Tm} {v : V} (h : BT t v) : ∃ τ vs, v = .a [I t.kind, S t.name, I t.num, .i τ vs] ∧ RL BT t.kids vs := by
  cases t; exact BT_mk.1 h
theorem BT_cells {t : Tm} {v : V} (h : BT t v) : v.cells.length = 4 := by
  obtain ⟨τ, vs, rfl, -⟩ := BT_shape h; rfl
theorem BT_of {t : Tm} {τ : Bool} {vs : List V} (h : RL BT t.kids vs) : BT t (.a [I t.kind, S t.name, I t.num, .i τ vs]) := by
  cases t; exact BT_mk.2 ⟨τ, vs, rfl, h⟩
/-! a term in memory of its own -/
mutual
def oT : Tm → V
  | .mk k s n ks => .a [I k, S s, I n, .o 4 (oTs ks)]
def oTs : List Tm → List V
  | [] => []
  | t :: ts => oT t :: oTs ts
end
mutual
def iT (τ : Bool) : Tm → V
  | .mk k s n ks => .a [I k, S s, I n, .i τ (iTs τ ks)]
def iTs (τ : Bool) : List Tm → List V
  | [] => []
  | t :: ts => iT τ t :: iTs τ ts
end
theorem oTs_eq : ∀ (ts : List Tm), oTs ts = ts.map oT
  | [] => rfl
  | t :: ts => by simp only [oTs, List.map_cons, oTs_eq ts]
theorem iTs_eq (τ : Bool) : ∀ (ts : List Tm), iTs τ ts = ts.map (iT τ)
  | [] => rfl
  | t :: ts => by simp only [iTs, List.map_cons, iTs_eq τ ts]
theorem oT_mk (t : Tm) : oT t = .a [I t.kind, S t.name, I t.num, .o 4 (t.kids.map oT)] := by cases t; simp only [oT, oTs_eq]; rfl
theorem iT_mk (τ : Bool) (t : Tm) : iT τ t = .a [I t.kind, S t.name, I t.num, .i τ (t.kids.map (iT τ))] := by cases t; simp only [iT, iTs_eq]; rfl
theorem BT_iT (τ : Bool) : ∀ (t : Tm), BT t (iT τ t) := by
  refine Tm.ind ?_
  intro k s n ks ih
  rw [iT_mk]
  refine BT_mk.2 ⟨τ, _, rfl, ?_⟩
  simp only [Tm.kids_mk]
  induction ks with
  | nil => rfl
  | cons t ts ih' => exact ⟨_, _, rfl, ih t (by simp), ih' fun u hu => ih u (by simp [hu])⟩
theorem RL_iT (τ : Bool) (ts : List Tm) : RL BT ts (ts.map (iT τ)) := RL_map (BT_iT τ) ts
mutual
theorem conv_oT (τ : Bool) : ∀ (t : Tm), conv τ (oT t) = iT τ t
  | .mk k s n ks => by simp only [oT, iT, conv, convL, conv_I, conv_S, convL_oTs τ ks]
theorem convL_oTs (τ : Bool) : ∀ (ts : List Tm), convL τ (oTs ts) = iTs τ ts
  | [] => rfl
  | t :: ts => by simp only [oTs, iTs, convL, conv_oT τ t, convL_oTs τ ts]
end
mutual
theorem noTag_oT : ∀ (t : Tm), noTag (oT t) = true
  | .mk k s n ks => by simp only [oT, noTag, noTagL, noTag_I, noTag_S, noTagL_oTs ks, Bool.and_self]
theorem noTagL_oTs : ∀ (ts : List Tm), noTagL (oTs ts) = true
  | [] => rfl
  | t :: ts => by simp only [oTs, noTagL, noTag_oT t, noTagL_oTs ts, Bool.and_self]
end
mutual
theorem noTag_iT : ∀ (t : Tm), noTag (iT false t) = true
  | .mk k s n ks => by simp only [iT, noTag, noTagL, noTag_I, noTag_S, noTagL_iTs ks, Bool.and_self, Bool.not_false]
theorem noTagL_iTs : ∀ (ts : List Tm), noTagL (iTs false ts) = true
  | [] => rfl
  | t :: ts => by simp only [iTs, noTagL, noTag_iT t, noTagL_iTs ts, Bool.and_self]
end
theorem clE_oT (t : Tm) : clE (oT t) = true := by rw [oT_mk]; rfl
theorem clE_iT (τ : Bool) (t : Tm) : clE (iT τ t) = true := by rw [iT_mk]; rfl
@[go_sem] theorem zero_iT (τ : Bool) (t : Tm) : zeroB (iT τ t) = true := by rw [iT_mk]; rfl
@[go_sem] theorem close_iT (m : Nat) (T : Mem) (τ : Bool) (t : Tm) : closeV (m + 2) T (iT τ t) = (iT τ t, T) := by rw [iT_mk]; rfl
@[go_sem] theorem conv_iT (τ τ' : Bool) (t : Tm) : conv τ (iT τ' t) = iT τ' t := by rw [iT_mk]; rfl
@[go_sem] theorem kill_iT (d : Nat) (τ : Bool) (t : Tm) : killV d (iT τ t) = iT τ t := killVcE d _ (by rw [iT_mk]; rfl)
@[go_sem] theorem dir_iT (τ : Bool) (t : Tm) : dirV (iT τ t) = [] := by rw [iT_mk]; rfl
@[go_sem] theorem isA_iT (τ : Bool) (t : Tm) : (iT τ t).isA = true := by rw [iT_mk]; rfl
@[go_sem] theorem cells_iT (τ : Bool) (t : Tm) : (iT τ t).cells = [I t.kind, S t.name, I t.num, .i τ (t.kids.map (iT τ))] := by rw [iT_mk]; rfl
@[go_sem] theorem load_iT (τ : Bool) (t : Tm) : loadE true 4 (iT τ t) 0 = some (iT τ t) := by rw [iT_mk]; rfl
attribute [go_sem] conv_oT noTag_oT noTag_iT clE_oT clE_iT
@[go_sem] theorem convL_mT (τ : Bool) (ts : List Tm) : convL τ (ts.map oT) = ts.map (iT τ) := convL_map (conv_oT τ) ts
@[go_sem] theorem noTagL_mT (ts : List Tm) : noTagL (ts.map oT) = true := noTagL_map noTag_oT ts
@[go_sem] theorem noTagL_mi (ts : List Tm) : noTagL (ts.map (iT false)) = true := noTagL_map noTag_iT ts
@[go_sem] theorem clEs_mT (ts : List Tm) : clEs (ts.map oT) = true := clEs_map clE_oT ts
@[go_sem] theorem killL_mT (d : Nat) (ts : List Tm) : killL d (ts.map oT) = ts.map oT := killL_map clE_oT d ts
@[go_sem] theorem killV_oT (d : Nat) (t : Tm) : killV d (oT t) = oT t := killVcE d _ (clE_oT t)
@[go_sem] theorem oneL_oT (t : Tm) : oneL (oT t).cells = true := by rw [oT_mk]; rfl
@[go_sem] theorem cells_oT (t : Tm) : (oT t).cells.length = 4 := by rw [oT_mk]; rfl

/-! all lists are of a size that memory holds -/
def Lm : Nat := 16777216
def inI (n : Int) : Prop := -9223372036854775808 ≤ n ∧ n < 9223372036854775808
mutual
def WT : Tm → Prop
  | .mk k s n ks => inI k ∧ s.length ≤ Lm ∧ inI n ∧ ks.length ≤ Lm ∧ WTs ks
def WTs : List Tm → Prop
  | [] => True
  | t :: ts => WT t ∧ WTs ts
end
theorem WTs_mem : ∀ {ts : List Tm} {t : Tm}, WTs ts → t ∈ ts → WT t
  | x :: xs, t, h, ht => by
    simp only [WTs] at h
    rcases List.mem_cons.1 ht with rfl | ht
    · exact h.1
    · exact WTs_mem h.2 ht
theorem WTs_of : ∀ {ts : List Tm}, (∀ t ∈ ts, WT t) → WTs ts
  | [], _ => trivial
  | t :: ts, h => ⟨h t (by simp), WTs_of fun u hu => h u (by simp [hu])⟩
theorem WT_kind {t : Tm} (h : WT t) : inI t.kind := by cases t; exact h.1
theorem WT_name {t : Tm} (h : WT t) : t.name.length ≤ Lm := by cases t; exact h.2.1
theorem WT_num {t : Tm} (h : WT t) : inI t.num := by cases t; exact h.2.2.1
theorem WT_len {t : Tm} (h : WT t) : t.kids.length ≤ Lm := by cases t; exact h.2.2.2.1
theorem WT_kids {t : Tm} (h : WT t) : ∀ u ∈ t.kids, WT u := by cases t; exact fun u hu => WTs_mem h.2.2.2.2 hu
theorem WT_mk {k n : Int} {s : Str} {ks : List Tm} (h1 : inI k) (h2 : s.length ≤ Lm) (h3 : inI n) (h4 : ks.length ≤ Lm) (h5 : ∀ u ∈ ks, WT u) : WT (.mk k s n ks) := ⟨h1, h2, h3, h4, WTs_of h5⟩
end Go.Vm
namespace Go.Vm
section
variable {α : Type} {f : α → V} {z x : V}
theorem row_get (ts : List α) (i m : Nat) (h : i ≤ ts.length) : ((ts.take i).map f ++ List.replicate (m + 1) z)[i]? = some z := by
  rw [List.getElem?_append_right (by simp; omega)]
  simp [Nat.min_eq_left h]
theorem row_set (ts : List α) (i m : Nat) (h : i ≤ ts.length) : ((ts.take i).map f ++ List.replicate (m + 1) z).set i x = (ts.take i).map f ++ x :: List.replicate m z := by
  rw [List.set_append_right _ _ (by simp; omega)]
  simp [Nat.min_eq_left h, List.replicate_succ]
theorem row_next {ts : List α} {i : Nat} {t : α} (h : ts[i]? = some t) (zs : List V) : (ts.take i).map f ++ f t :: zs = (ts.take (i + 1)).map f ++ zs := by
  rw [List.take_succ_eq_append_getElem (List.getElem?_eq_some_iff.1 h).1]
  simp [(List.getElem?_eq_some_iff.1 h).2]
theorem row_len (ts : List α) (i m n : Nat) (h : i + m = n) (hn : ts.length = n) : ((ts.take i).map f ++ List.replicate m z).length = n := by
  simp; omega
end
end Go.Vm
