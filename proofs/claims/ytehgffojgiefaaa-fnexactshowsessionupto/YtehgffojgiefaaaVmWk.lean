import Derived.Test.YtehgffojgiefaaaVmW
import Derived.Attr
set_option autoImplicit false
set_option linter.unusedVariables false
set_option linter.unusedSimpArgs false
namespace Go.Vm

/-! ### the words of the walk -/
def I (n : Int) : V := .v (.int .i64 n)
def U8 (n : Int) : V := .v (.int .u8 n)
def U32 (n : Int) : V := .v (.int .u32 n)
def B (b : Bool) : V := .v (.bool b)
def S (l : List UInt8) : V := .v (.string ⟨l.toArray⟩)
def Fc (g : Nat) : V := .f (.func g) [] []
def w64 (n : Int) : Int := IntKind.i64.wrap n
theorem w64_id {n : Int} (h1 : -9223372036854775808 ≤ n) (h2 : n < 9223372036854775808) : w64 n = n := by
  have h : ∀ m : Int, m = n % 18446744073709551616 → (if (true && decide (m ≥ 9223372036854775808)) = true then m - 18446744073709551616 else m) = n := by
    intro m hm
    simp only [Bool.true_and, decide_eq_true_eq]
    split <;> omega
  exact h _ rfl

def bindN (r : Option (AX × St)) (k : St → Option (AX × St)) : Option (AX × St) :=
  match r with
  | some (.normal, st) => k st
  | r => r
def bindS {α : Type} (r : Option St) (k : St → Option α) : Option α :=
  match r with
  | some st => k st
  | none => none
def bindV {α : Type} (r : Option V) (k : V → Option α) : Option α :=
  match r with
  | some y => k y
  | none => none
def bindM {α : Type} (r : Option Mem) (k : Mem → Option α) : Option α :=
  match r with
  | some y => k y
  | none => none
def bindLs {α : Type} (r : Option (List V)) (k : List V → Option α) : Option α :=
  match r with
  | some y => k y
  | none => none
def condK {α : Type} (r : Option V) (x y : α) (z : α) : α :=
  match r with
  | some (.v (.bool true)) => x
  | some (.v (.bool false)) => y
  | _ => z
def outB (id : Nat) (r : Option (AX × St)) : Option (AX × St) :=
  match r with
  | some (.exit id', st') => if id' = id then some (.normal, st') else some (.exit id', st')
  | r => r
def endK {α : Type} (r : Option (AX × St)) (k : St → Option α) : Option α :=
  match r with
  | some (.normal, st) | some (.ret, st) => k st
  | _ => none

@[congr] theorem bindN_congr {r r' : Option (AX × St)} {k : St → Option (AX × St)} (h : r = r') : bindN r k = bindN r' k := by rw [h]
@[congr] theorem bindS_congr {α : Type} {r r' : Option St} {k : St → Option α} (h : r = r') : bindS r k = bindS r' k := by rw [h]
@[congr] theorem bindV_congr {α : Type} {r r' : Option V} {k : V → Option α} (h : r = r') : bindV r k = bindV r' k := by rw [h]
@[congr] theorem bindM_congr {α : Type} {r r' : Option Mem} {k : Mem → Option α} (h : r = r') : bindM r k = bindM r' k := by rw [h]
@[congr] theorem bindLs_congr {α : Type} {r r' : Option (List V)} {k : List V → Option α} (h : r = r') : bindLs r k = bindLs r' k := by rw [h]
@[congr] theorem condK_congr {α : Type} {r r' : Option V} {x y z : α} (h : r = r') : condK r x y z = condK r' x y z := by rw [h]
@[congr] theorem endK_congr {α : Type} {r r' : Option (AX × St)} {k : St → Option α} (h : r = r') : endK r k = endK r' k := by rw [h]

section
variable {α : Type} {k : St → Option (AX × St)} {st : St} {id id' : Nat}
@[go_sem] theorem bindN_normal : bindN (some (.normal, st)) k = k st := rfl
@[go_sem] theorem bindN_ret : bindN (some (.ret, st)) k = some (.ret, st) := rfl
@[go_sem] theorem bindN_exit : bindN (some (.exit id, st)) k = some (.exit id, st) := rfl
@[go_sem] theorem bindN_none : bindN none k = none := rfl
@[go_sem] theorem bindN_ite {p : Prop} [Decidable p] {a b : Option (AX × St)} : bindN (if p then a else b) k = if p then bindN a k else bindN b k := by split <;> rfl
@[go_sem] theorem bindS_some {k : St → Option α} : bindS (some st) k = k st := rfl
@[go_sem] theorem bindS_none {k : St → Option α} : bindS none k = none := rfl
@[go_sem] theorem bindS_ite {k : St → Option α} {p : Prop} [Decidable p] {a b : Option St} : bindS (if p then a else b) k = if p then bindS a k else bindS b k := by split <;> rfl
@[go_sem] theorem bindV_some {x : V} {k : V → Option α} : bindV (some x) k = k x := rfl
@[go_sem] theorem bindV_none {k : V → Option α} : bindV none k = none := rfl
@[go_sem] theorem bindV_ite {k : V → Option α} {p : Prop} [Decidable p] {a b : Option V} : bindV (if p then a else b) k = if p then bindV a k else bindV b k := by split <;> rfl
@[go_sem] theorem bindM_some {x : Mem} {k : Mem → Option α} : bindM (some x) k = k x := rfl
@[go_sem] theorem bindM_none {k : Mem → Option α} : bindM none k = none := rfl
@[go_sem] theorem bindLs_some {x : List V} {k : List V → Option α} : bindLs (some x) k = k x := rfl
@[go_sem] theorem bindLs_none {k : List V → Option α} : bindLs none k = none := rfl
@[go_sem] theorem condK_B {b : Bool} {x y z : α} : condK (some (B b)) x y z = if b = true then x else y := by cases b <;> rfl
@[go_sem] theorem outB_exit : outB id (some (.exit id', st)) = if id' = id then some (.normal, st) else some (.exit id', st) := rfl
@[go_sem] theorem outB_normal : outB id (some (.normal, st)) = some (.normal, st) := rfl
@[go_sem] theorem outB_ret : outB id (some (.ret, st)) = some (.ret, st) := rfl
@[go_sem] theorem outB_none : outB id none = none := rfl
@[go_sem] theorem outB_ite {p : Prop} [Decidable p] {a b : Option (AX × St)} : outB id (if p then a else b) = if p then outB id a else outB id b := by split <;> rfl
@[go_sem] theorem endK_normal {k : St → Option α} : endK (some (.normal, st)) k = k st := rfl
@[go_sem] theorem endK_ret {k : St → Option α} : endK (some (.ret, st)) k = k st := rfl
@[go_sem] theorem endK_none {k : St → Option α} : endK none k = none := rfl
@[go_sem] theorem endK_ite {k : St → Option α} {p : Prop} [Decidable p] {a b : Option (AX × St)} : endK (if p then a else b) k = if p then endK a k else endK b k := by split <;> rfl
end

/-! the results of calls alone -/
noncomputable def cr (prog : Nat → Option AE) (f : Nat) (xs : List V) : Option V := (cw prog f xs).map Prod.fst
section
variable {prog : Nat → Option AE} {st : St}
theorem cr_fn {f : Nat} {af : AF} {args : List V} (h : prog f = some (.fn af)) (hl : args.length = af.nargs) :
    cr prog f args = endK (xw prog af.body { σ := slotsFrom 0 (openArgs 0 args).1, T := (openArgs 0 args).2 }) fun st =>
      (resL st.σ st.T af.res).map fun r => (closeV 30 r.2 (one? r.1)).1 := by
  unfold cr
  rw [cw_eq, h]
  simp only [if_pos hl]
  cases he : xw prog af.body { σ := slotsFrom 0 (openArgs 0 args).1, T := (openArgs 0 args).2 } with
  | none => rfl
  | some s =>
    obtain ⟨e, s⟩ := s
    have hf : (finish af (openArgs 0 args).1 s).map Prod.fst = (resL s.σ s.T af.res).map fun r => (closeV 30 r.2 (one? r.1)).1 := by
      unfold finish
      cases resL s.σ s.T af.res <;> rfl
    cases e
    · exact hf
    · rfl
    · exact hf
theorem cw_fn {f : Nat} {af : AF} {args : List V} (h : prog f = some (.fn af)) (hl : args.length = af.nargs) :
    cw prog f args = endK (xw prog af.body { σ := slotsFrom 0 (openArgs 0 args).1, T := (openArgs 0 args).2 }) fun st => finish af (openArgs 0 args).1 st := by
  rw [cw_eq, h]
  simp only [if_pos hl]
  cases he : xw prog af.body { σ := slotsFrom 0 (openArgs 0 args).1, T := (openArgs 0 args).2 } with
  | none => rfl
  | some s => obtain ⟨e, s⟩ := s; cases e <;> rfl

@[go_sem] theorem wx_skip : xw prog .skip st = some (.normal, st) := xw_skip
@[go_sem] theorem wx_ret : xw prog .ret st = some (.ret, st) := xw_ret
@[go_sem] theorem wx_exit {id : Nat} : xw prog (.exit id) st = some (.exit id, st) := xw_exit
@[go_sem] theorem wx_reg {is : List AI} : xw prog (.reg is) st = bindS (arun (cw prog) is st) fun st => some (.normal, st) := by
  rw [xw_reg]; cases arun (cw prog) is st <;> rfl
@[go_sem] theorem wx_dreg {plan : List Dp} {is : List AI} : xw prog (.dreg plan is) st = bindS (arunD (cw prog) plan is (wipeL (allocD plan is) st)) fun st => if nodupK st.T = true then some (.normal, st) else none := by
  rw [xw_dreg]; cases arunD (cw prog) plan is (wipeL (allocD plan is) st) <;> rfl
@[go_sem] theorem wx_seq {x y : AC} : xw prog (.seq x y) st = bindN (xw prog x st) fun st' => xw prog y st' := by
  rw [xw_seq]
  cases xw prog x st with
  | none => rfl
  | some s => obtain ⟨e, s⟩ := s; cases e <;> rfl
@[go_sem] theorem wx_cond {a : AO} {x y : AC} : xw prog (.cond a x y) st = condK (ev st.σ a) (xw prog x st) (xw prog y st) none := by
  rw [xw_cond]; rfl
@[go_sem] theorem wx_block {id : Nat} {x : AC} : xw prog (.block id x) st = outB id (xw prog x st) := by
  rw [xw_block]
  cases xw prog x st with
  | none => rfl
  | some s => obtain ⟨e, s⟩ := s; cases e <;> rfl
theorem wx_loop {ls : List Nat} {ks : List Key} {x : AC} : xw prog (.loop ls ks x) st = bindN (xw prog x (prune ls ks st)) fun st' => xw prog (.loop ls ks x) st' := by
  rw [xw_loop]
  cases xw prog x (prune ls ks st) with
  | none => rfl
  | some s => obtain ⟨e, s⟩ := s; cases e <;> rfl

/-! one operation -/
variable {σ : Sl} {T : Mem} {call : Call}
@[go_sem] theorem arun_nil : arun call [] st = some st := rfl
@[go_sem] theorem arun_cons {i : AI} {is : List AI} : arun call (i :: is) st = bindS (gstep call st i) fun st => arun call is st := by
  simp only [arun]; cases gstep call st i <;> rfl
def gdK (b : Option V) (want : Bool) (x y : Option St) : Option St :=
  match b with
  | some (.v (.bool b)) => if b = want then x else y
  | some (.v _) => y
  | _ => none
@[congr] theorem gdK_congr {b b' : Option V} {w : Bool} {x y : Option St} (h : b = b') : gdK b w x y = gdK b' w x y := by rw [h]
@[go_sem] theorem gdK_B {b w : Bool} {x y : Option St} : gdK (some (B b)) w x y = if b = w then x else y := rfl
@[go_sem] theorem gdK_undef {w : Bool} {x y : Option St} : gdK (some undefV) w x y = y := rfl
@[go_sem] theorem g_gd {j : Nat} {w : Bool} {d : Nat} {i : AI} : gstep call ⟨σ, T⟩ (.gd j w (some d) i) = gdK (getS σ j) w (astep call ⟨σ, T⟩ i) (some ⟨(d, undefV) :: σ, T⟩) := by
  simp only [gstep, gdK]
  cases getS σ j with
  | none => rfl
  | some x => cases x <;> first | rfl | (rename_i v; cases v <;> rfl)
@[go_sem] theorem g_gd0 {j : Nat} {w : Bool} {i : AI} : gstep call ⟨σ, T⟩ (.gd j w none i) = gdK (getS σ j) w (astep call ⟨σ, T⟩ i) (some ⟨σ, T⟩) := by
  simp only [gstep, gdK]
  cases getS σ j with
  | none => rfl
  | some x => cases x <;> first | rfl | (rename_i v; cases v <;> rfl)

@[go_sem] theorem ev_t {n : Nat} : ev σ (.t n) = getS σ n := rfl
@[go_sem] theorem ev_c {x : V} : ev σ (.c x) = some x := rfl
@[go_sem] theorem evL_nil : evL σ [] = some [] := rfl
@[go_sem] theorem evL_cons {x : AO} {xs : List AO} : evL σ (x :: xs) = bindV (ev σ x) fun y => bindLs (evL σ xs) fun ys => some (y :: ys) := by
  simp only [evL]; cases ev σ x <;> cases evL σ xs <;> rfl
@[go_sem] theorem evO_none : evO σ none = some none := rfl
@[go_sem] theorem evO_some {x : AO} : evO σ (some x) = bindV (ev σ x) fun y => some (some y) := by
  simp only [evO]; cases ev σ x <;> rfl

attribute [go_sem] getS getK delK setK killV killL killS killT keysAt keysOut dropAt retireL wipeL pickS pickT pickK
def wT (d : Nat) (T : Mem) : Mem := killT d (dropAt d (retireL (keysAt d T) T))
@[go_sem] theorem wipe_mk {d : Nat} : wipe d ⟨σ, T⟩ = ⟨killS d σ, wT d T⟩ := rfl
def guardB {α : Type} (c : Bool) (x : Option α) : Option α := if c = true then x else none
@[congr] theorem guardB_congr {α : Type} {b b' : Bool} {x : Option α} (h : b = b') : guardB b x = guardB b' x := by rw [h]
@[go_sem] theorem guardB_true {α : Type} {x : Option α} : guardB true x = x := rfl
@[go_sem] theorem guardB_false {α : Type} {x : Option α} : guardB false x = none := rfl
def pickB {α : Type} (c : Bool) (x y : α) : α := if c = true then x else y
@[congr] theorem pickB_congr {α : Type} {b b' : Bool} {x y : α} (h : b = b') : pickB b x y = pickB b' x y := by rw [h]
@[go_sem] theorem pickB_true {α : Type} {x y : α} : pickB true x y = x := rfl
@[go_sem] theorem pickB_false {α : Type} {x y : α} : pickB false x y = y := rfl

/-! values -/
section vals
variable {n : Int} {b : Bool} {l : List UInt8} {g : Nat}
attribute [go_sem] zeroB zeroBL clB clBL clEs oneL conv convL noTag noTagL openL openL1 backL backs getS
@[go_sem] theorem bringO_some {d : Nat} {x : V} {st : St} : bringO (some d) x st = bring d x st := rfl
@[go_sem] theorem bringO_none {x : V} {st : St} : bringO none x st = st := rfl
@[go_sem] theorem fzV_t {x : V} : fzV true x = conv false x := rfl
@[go_sem] theorem fzV_f {x : V} : fzV false x = x := rfl
section
variable {cs xs ys : List V} {τ : Bool} {i o e : Nat} {x : V} {k : Key} {fn : Fn}
@[go_sem] theorem cells_a : (V.a cs).cells = cs := rfl
@[go_sem] theorem cells_p : (V.p k i o).cells = [V.p k i o] := rfl
@[go_sem] theorem cells_s : (V.s k i o).cells = [V.s k i o] := rfl
@[go_sem] theorem cells_q : (V.q τ xs i o).cells = [V.q τ xs i o] := rfl
@[go_sem] theorem cells_i : (V.i τ xs).cells = [V.i τ xs] := rfl
@[go_sem] theorem cells_o : (V.o e xs).cells = [V.o e xs] := rfl
@[go_sem] theorem cells_n : (V.n e).cells = [V.n e] := rfl
@[go_sem] theorem cells_b : (V.b x).cells = [V.b x] := rfl
@[go_sem] theorem cells_f : (V.f fn xs ys).cells = [V.f fn xs ys] := rfl
@[go_sem] theorem cells_t : (V.t xs).cells = [V.t xs] := rfl
@[go_sem] theorem isA_a : (V.a cs).isA = true := rfl
@[go_sem] theorem isA_i : (V.i τ xs).isA = false := rfl
@[go_sem] theorem isA_o : (V.o e xs).isA = false := rfl
@[go_sem] theorem isA_n : (V.n e).isA = false := rfl
@[go_sem] theorem isA_s : (V.s k i o).isA = false := rfl
@[go_sem] theorem dead_a : (V.a cs).dead = false := rfl
@[go_sem] theorem dead_p : (V.p k i o).dead = false := rfl
@[go_sem] theorem dead_s : (V.s k i o).dead = false := rfl
@[go_sem] theorem dead_q : (V.q τ xs i o).dead = false := rfl
@[go_sem] theorem dead_i : (V.i τ xs).dead = false := rfl
@[go_sem] theorem dead_o : (V.o e xs).dead = false := rfl
@[go_sem] theorem dead_n : (V.n e).dead = false := rfl
@[go_sem] theorem dead_b : (V.b x).dead = false := rfl
@[go_sem] theorem dead_f : (V.f fn xs ys).dead = false := rfl
@[go_sem] theorem cle_a : clE (V.a cs) = clBL cs := rfl
@[go_sem] theorem cle_i : clE (V.i τ xs) = true := rfl
@[go_sem] theorem cle_o : clE (V.o e xs) = true := rfl
@[go_sem] theorem cle_n : clE (V.n e) = true := rfl
@[go_sem] theorem cle_q : clE (V.q τ xs i o) = true := rfl
@[go_sem] theorem cle_b : clE (V.b x) = true := rfl
@[go_sem] theorem cle_s : clE (V.s k i o) = false := rfl
@[go_sem] theorem cle_p : clE (V.p k i o) = false := rfl
@[go_sem] theorem cle_f : clE (V.f fn xs ys) = (clBL xs && clBL ys) := rfl
variable {d j : Nat}
@[go_sem] theorem openX_o : openX d j (.o e xs) = (.s (d, j) 0 xs.length, j + 1, [((d, j), e, xs)]) := rfl
@[go_sem] theorem openX_b : openX d j (.b x) = (.p (d, j) 0 0, j + 1, [((d, j), x.cells.length, [x])]) := rfl
@[go_sem] theorem openX_i : openX d j (.i τ xs) = (.i τ xs, j, []) := rfl
@[go_sem] theorem openX_q : openX d j (.q τ xs i o) = (.q τ xs i o, j, []) := rfl
@[go_sem] theorem openX_n : openX d j (.n e) = (.n e, j, []) := rfl
@[go_sem] theorem openX_I : openX d j (I n) = (I n, j, []) := rfl
@[go_sem] theorem openX_B : openX d j (B b) = (B b, j, []) := rfl
@[go_sem] theorem openX_S : openX d j (S l) = (S l, j, []) := rfl
@[go_sem] theorem openX_U8 : openX d j (U8 n) = (U8 n, j, []) := rfl
@[go_sem] theorem openX_U32 : openX d j (U32 n) = (U32 n, j, []) := rfl
@[go_sem] theorem openX_Fc : openX d j (Fc g) = (Fc g, j, []) := rfl
@[go_sem] theorem open1_a : open1 d j (.a cs) = (.a (openL d j cs).1, (openL d j cs).2) := rfl
@[go_sem] theorem open1_f : open1 d j (.f fn xs ys) = (.f fn (openL d j xs).1 (openL d (openL d j xs).2.1 ys).1, (openL d (openL d j xs).2.1 ys).2.1, (openL d j xs).2.2 ++ (openL d (openL d j xs).2.1 ys).2.2) := rfl
@[go_sem] theorem open1_o : open1 d j (.o e xs) = (.s (d, j) 0 xs.length, j + 1, [((d, j), e, xs)]) := rfl
@[go_sem] theorem open1_b : open1 d j (.b x) = (.p (d, j) 0 0, j + 1, [((d, j), x.cells.length, [x])]) := rfl
@[go_sem] theorem open1_i : open1 d j (.i τ xs) = (.i τ xs, j, []) := rfl
@[go_sem] theorem open1_q : open1 d j (.q τ xs i o) = (.q τ xs i o, j, []) := rfl
@[go_sem] theorem open1_n : open1 d j (.n e) = (.n e, j, []) := rfl
@[go_sem] theorem open1_I : open1 d j (I n) = (I n, j, []) := rfl
@[go_sem] theorem open1_B : open1 d j (B b) = (B b, j, []) := rfl
@[go_sem] theorem open1_S : open1 d j (S l) = (S l, j, []) := rfl
@[go_sem] theorem open1_U8 : open1 d j (U8 n) = (U8 n, j, []) := rfl
@[go_sem] theorem open1_U32 : open1 d j (U32 n) = (U32 n, j, []) := rfl
@[go_sem] theorem openV_t : openV d (.t xs) = (.t (openL1 d 0 xs).1, (openL1 d 0 xs).2.2) := rfl
@[go_sem] theorem openV_a : openV d (.a cs) = (.a (openL d 0 cs).1, (openL d 0 cs).2.2) := rfl
@[go_sem] theorem openV_f : openV d (.f fn xs ys) = ((open1 d 0 (.f fn xs ys)).1, (open1 d 0 (.f fn xs ys)).2.2) := rfl
@[go_sem] theorem openV_o : openV d (.o e xs) = (.s (d, 0) 0 xs.length, [((d, 0), e, xs)]) := rfl
@[go_sem] theorem openV_b : openV d (.b x) = (.p (d, 0) 0 0, [((d, 0), x.cells.length, [x])]) := rfl
@[go_sem] theorem openV_i : openV d (.i τ xs) = (.i τ xs, []) := rfl
@[go_sem] theorem openV_q : openV d (.q τ xs i o) = (.q τ xs i o, []) := rfl
@[go_sem] theorem openV_n : openV d (.n e) = (.n e, []) := rfl
@[go_sem] theorem openV_I : openV d (I n) = (I n, []) := rfl
@[go_sem] theorem openV_B : openV d (B b) = (B b, []) := rfl
@[go_sem] theorem openV_S : openV d (S l) = (S l, []) := rfl
@[go_sem] theorem openV_U8 : openV d (U8 n) = (U8 n, []) := rfl
@[go_sem] theorem openV_U32 : openV d (U32 n) = (U32 n, []) := rfl
@[go_sem] theorem openV_Fc : openV d (Fc g) = (Fc g, []) := rfl
end
@[go_sem] theorem killV_I {d : Nat} : killV d (I n) = I n := rfl
@[go_sem] theorem killV_B {d : Nat} : killV d (B b) = B b := rfl
@[go_sem] theorem killV_S {d : Nat} : killV d (S l) = S l := rfl
@[go_sem] theorem killV_U8 {d : Nat} : killV d (U8 n) = U8 n := rfl
@[go_sem] theorem killV_U32 {d : Nat} : killV d (U32 n) = U32 n := rfl
@[go_sem] theorem killV_Fc {d : Nat} : killV d (Fc g) = Fc g := rfl
@[go_sem] theorem killV_undef {d : Nat} : killV d undefV = undefV := rfl
@[go_sem] theorem cells_I : (I n).cells = [I n] := rfl
@[go_sem] theorem cells_B : (B b).cells = [B b] := rfl
@[go_sem] theorem cells_S : (S l).cells = [S l] := rfl
@[go_sem] theorem cells_U8 : (U8 n).cells = [U8 n] := rfl
@[go_sem] theorem cells_U32 : (U32 n).cells = [U32 n] := rfl
@[go_sem] theorem cells_Fc : (Fc g).cells = [Fc g] := rfl
@[go_sem] theorem isA_I : (I n).isA = false := rfl
@[go_sem] theorem isA_B : (B b).isA = false := rfl
@[go_sem] theorem isA_S : (S l).isA = false := rfl
@[go_sem] theorem dead_I : (I n).dead = false := rfl
@[go_sem] theorem dead_B : (B b).dead = false := rfl
@[go_sem] theorem dead_S : (S l).dead = false := rfl
@[go_sem] theorem dead_U8 : (U8 n).dead = false := rfl
@[go_sem] theorem one_I : (I n).one = true := rfl
@[go_sem] theorem one_B : (B b).one = true := rfl
@[go_sem] theorem one_S : (S l).one = true := rfl
@[go_sem] theorem one_U8 : (U8 n).one = true := rfl
@[go_sem] theorem one_U32 : (U32 n).one = true := rfl
@[go_sem] theorem one_Fc : (Fc g).one = true := rfl
@[go_sem] theorem one_p {k : Key} {i o : Nat} : (V.p k i o).one = true := rfl
@[go_sem] theorem one_s {k : Key} {i o : Nat} : (V.s k i o).one = true := rfl
@[go_sem] theorem one_q {τ : Bool} {xs : List V} {i o : Nat} : (V.q τ xs i o).one = true := rfl
@[go_sem] theorem one_i {τ : Bool} {xs : List V} : (V.i τ xs).one = true := rfl
@[go_sem] theorem one_o {e : Nat} {xs : List V} : (V.o e xs).one = true := rfl
@[go_sem] theorem one_n {e : Nat} : (V.n e).one = true := rfl
@[go_sem] theorem one_b {x : V} : (V.b x).one = true := rfl
@[go_sem] theorem one_f {fn : Fn} {xs ys : List V} : (V.f fn xs ys).one = true := rfl
@[go_sem] theorem zero_I : zeroB (I n) = true := rfl
@[go_sem] theorem zero_B : zeroB (B b) = true := rfl
@[go_sem] theorem zero_S : zeroB (S l) = true := rfl
@[go_sem] theorem zero_U8 : zeroB (U8 n) = true := rfl
@[go_sem] theorem zero_U32 : zeroB (U32 n) = true := rfl
@[go_sem] theorem zero_Fc : zeroB (Fc g) = true := rfl
@[go_sem] theorem cl_I : clB (I n) = true := rfl
@[go_sem] theorem cl_B : clB (B b) = true := rfl
@[go_sem] theorem cl_S : clB (S l) = true := rfl
@[go_sem] theorem cl_U8 : clB (U8 n) = true := rfl
@[go_sem] theorem cl_U32 : clB (U32 n) = true := rfl
@[go_sem] theorem cl_Fc : clB (Fc g) = true := rfl
@[go_sem] theorem cle_I : clE (I n) = true := rfl
@[go_sem] theorem cle_B : clE (B b) = true := rfl
@[go_sem] theorem cle_S : clE (S l) = true := rfl
@[go_sem] theorem cle_U8 : clE (U8 n) = true := rfl
@[go_sem] theorem conv_I {τ : Bool} : conv τ (I n) = I n := rfl
@[go_sem] theorem conv_B {τ : Bool} : conv τ (B b) = B b := rfl
@[go_sem] theorem conv_S {τ : Bool} : conv τ (S l) = S l := rfl
@[go_sem] theorem conv_U8 {τ : Bool} : conv τ (U8 n) = U8 n := rfl
@[go_sem] theorem conv_U32 {τ : Bool} : conv τ (U32 n) = U32 n := rfl
@[go_sem] theorem conv_Fc {τ : Bool} : conv τ (Fc g) = Fc g := rfl
@[go_sem] theorem noTag_I : noTag (I n) = true := rfl
@[go_sem] theorem noTag_B : noTag (B b) = true := rfl
@[go_sem] theorem noTag_S : noTag (S l) = true := rfl
@[go_sem] theorem noTag_U8 : noTag (U8 n) = true := rfl
@[go_sem] theorem noTag_U32 : noTag (U32 n) = true := rfl
@[go_sem] theorem noTag_Fc : noTag (Fc g) = true := rfl
@[go_sem] theorem closeV_I {m : Nat} {T : Mem} : closeV (m + 1) T (I n) = (I n, T) := rfl
@[go_sem] theorem closeV_B {m : Nat} {T : Mem} : closeV (m + 1) T (B b) = (B b, T) := rfl
@[go_sem] theorem closeV_S {m : Nat} {T : Mem} : closeV (m + 1) T (S l) = (S l, T) := rfl
@[go_sem] theorem closeV_U8 {m : Nat} {T : Mem} : closeV (m + 1) T (U8 n) = (U8 n, T) := rfl
@[go_sem] theorem closeV_U32 {m : Nat} {T : Mem} : closeV (m + 1) T (U32 n) = (U32 n, T) := rfl
@[go_sem] theorem closeV_Fc {m : Nat} {T : Mem} : closeV (m + 2) T (Fc g) = (Fc g, T) := rfl
@[go_sem] theorem closeV_i {m : Nat} {T : Mem} {τ : Bool} {xs : List V} : closeV (m + 1) T (.i τ xs) = (.i τ xs, T) := rfl
@[go_sem] theorem closeV_o {m : Nat} {T : Mem} {e : Nat} {xs : List V} : closeV (m + 1) T (.o e xs) = (.o e xs, T) := rfl
@[go_sem] theorem closeV_q {m : Nat} {T : Mem} {τ : Bool} {xs : List V} {i o : Nat} : closeV (m + 1) T (.q τ xs i o) = (.q τ xs i o, T) := rfl
@[go_sem] theorem closeV_b {m : Nat} {T : Mem} {x : V} : closeV (m + 1) T (.b x) = (.b x, T) := rfl
@[go_sem] theorem closeV_n {m : Nat} {T : Mem} {e : Nat} : closeV (m + 1) T (.n e) = (.o e [], T) := rfl
@[go_sem] theorem closeV_a {m : Nat} {T : Mem} {cs : List V} : closeV (m + 1) T (.a cs) = (.a (mapT (closeV m) T cs).1, (mapT (closeV m) T cs).2) := rfl
@[go_sem] theorem closeV_t {m : Nat} {T : Mem} {cs : List V} : closeV (m + 1) T (.t cs) = (.t (mapT (closeV m) T cs).1, (mapT (closeV m) T cs).2) := rfl
@[go_sem] theorem closeV_f {m : Nat} {T : Mem} {fn : Fn} {xs ys : List V} : closeV (m + 1) T (.f fn xs ys) = (.f fn (mapT (closeV m) T xs).1 (mapT (closeV m) (mapT (closeV m) T xs).2 ys).1, (mapT (closeV m) (mapT (closeV m) T xs).2 ys).2) := rfl
def esV (m : Nat) (T : Mem) (xs : List V) : List V × Mem := pickB (clEs xs) (xs, T) (mapT (closeV m) T xs)
def sK (m : Nat) (T' : Mem) (lo len : Nat) (ob : Option Ob) (T : Mem) : V × Mem :=
  match ob with
  | none => (.d, T)
  | some ob => if lo + len ≤ ob.2.length then (.o ob.1 (((esV m T' ob.2).1.drop lo).take len), (esV m T' ob.2).2) else (.d, T)
@[go_sem] theorem closeV_s {m : Nat} {T : Mem} {k : Key} {lo len : Nat} : closeV (m + 1) T (.s k lo len) = sK m (delK T k) lo len (getK T k) T := by
  simp only [closeV, sK, esV, pickB]; cases getK T k <;> rfl
@[go_sem] theorem sK_some {m : Nat} {T T' : Mem} {lo len e : Nat} {xs : List V} : sK m T' lo len (some (e, xs)) T = if lo + len ≤ xs.length then (.o e (((esV m T' xs).1.drop lo).take len), (esV m T' xs).2) else (.d, T) := rfl
@[go_sem] theorem esV_def {m : Nat} {T : Mem} {xs : List V} : esV m T xs = pickB (clEs xs) (xs, T) (mapT (closeV m) T xs) := rfl
def pK (m : Nat) (T' : Mem) (ob : Option Ob) (T : Mem) : V × Mem :=
  match ob with
  | some (_, [x]) => (.b ((esV m T' [x]).1.headD .d), (esV m T' [x]).2)
  | _ => (.d, T)
@[go_sem] theorem closeV_p {m : Nat} {T : Mem} {k : Key} : closeV (m + 1) T (.p k 0 0) = pK m (delK T k) (getK T k) T := by
  simp only [closeV, pK, esV, pickB]
  cases getK T k with
  | none => rfl
  | some ob => obtain ⟨e, xs⟩ := ob; rcases xs with _ | ⟨x, _ | ⟨y, r⟩⟩ <;> rfl
@[go_sem] theorem pK_some {m : Nat} {T T' : Mem} {e : Nat} {x : V} : pK m T' (some (e, [x])) T = (.b ((esV m T' [x]).1.headD .d), (esV m T' [x]).2) := rfl
attribute [go_sem] mapT List.headD snapArgs wT retire
def retK (T : Mem) (k : Key) (ob : Option Ob) : Mem :=
  match ob with
  | none => T
  | some ob => pickB (clEs ob.2) (repT k ob (delK T k)) (delK T k)
end vals

/-! the operations -/
@[go_sem] theorem g_mv {d : Nat} {x : AO} : gstep call ⟨σ, T⟩ (.mv d x) = bindV (ev σ x) fun y => some ⟨(d, y) :: σ, T⟩ := by
  simp only [gstep, astep]; cases ev σ x <;> rfl
def selK {α : Type} (c : Option V) (x y : α) (z : α) : α :=
  match c with
  | some (.v (.bool true)) => x
  | some (.v (.bool false)) => y
  | _ => z
@[congr] theorem selK_congr {α : Type} {c c' : Option V} {x y z : α} (h : c = c') : selK c x y z = selK c' x y z := by rw [h]
@[go_sem] theorem selK_B {α : Type} {b : Bool} {x y z : α} : selK (some (B b)) x y z = if b = true then x else y := by cases b <;> rfl
end
end Go.Vm
