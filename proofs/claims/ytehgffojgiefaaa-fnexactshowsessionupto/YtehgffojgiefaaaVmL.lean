import Derived.Test.YtehgffojgiefaaaVmK
set_option autoImplicit false
set_option linter.unusedVariables false
set_option linter.unusedSimpArgs false
namespace Go.Vm

section
variable {P : Program} {N : Nat} {E : Env} {c : Cnt} {st st' : St} {a : Act} {d : Nat} {call : Call}

theorem binOp_int (op : BinOp) (t : TypeId) (k k' : IntKind) (x y : Int) : binOp op t (.int k x) (.int k' y) = binOp op 0 (.int k x) (.int k' y) := by
  cases op <;> rfl
theorem binOp_str (op : BinOp) (t : TypeId) (x y : ByteArray) : binOp op t (.string x) (.string y) = binOp op 0 (.string x) (.string y) := by
  cases op <;> rfl
theorem rel_leaf {x : Value} (h : aggB x = false) : Rel E (.v x) x c0 := by simp [Rel, h]
/-- an operation of Sem that is no more than a value -/
theorem run_val {α : Type} {s : Sem α} {r : α} (h : s.val? = some r) (w : World) : s.run P w = .ok r w := by rw [val_some h]; rfl
def noAggB : Sem Value → Bool
  | .pure v => !aggB v
  | _ => true
theorem binOp_leaf {op : BinOp} {x y r : Value} (h : (binOp op 0 x y).val? = some r) (hi : (∃ k n k' m, x = .int k n ∧ y = .int k' m) ∨ (∃ s u, x = .string s ∧ y = .string u)) : aggB r = false := by
  have hv := val_some h
  rcases hi with ⟨k, n, k', m, rfl, rfl⟩ | ⟨s, u, rfl, rfl⟩
  · cases op <;> simp only [binOp] at hv <;>
      (first
        | (split at hv <;> first | (cases hv; done) | skip) | skip) <;>
      (simp only [Op.intArith, Op.intDiv, Op.intBits, Op.intCmp, Op.shift] at hv) <;>
      (repeat' (split at hv)) <;>
      (first | (cases hv; rfl) | (simp only [Sem.pure.injEq] at hv; subst hv; rfl) | (exfalso; revert hv; simp [stuck, runtimePanic, program, goPanic, unsupported, bind, Sem.bind]; done) | skip)
  · cases op <;> simp only [binOp, Op.stringOp] at hv <;> (repeat' (split at hv)) <;>
      (first | (cases hv; rfl) | (exfalso; revert hv; simp [stuck, unsupported]; done) | skip)
theorem eqGuard_leaf {op : BinOp} {t : TypeId} {x y : Operand} {u v : Value} (hu : aggB u = false) (hn : u ≠ .nilIface) (w : World) : (eqGuard op t x y u v).run P w = .ok () w := by
  cases u <;> (first | exact absurd rfl hn | (simp [aggB] at hu; done) | skip) <;> cases op <;> (first | rfl | (cases v <;> rfl))
theorem s_bin {x y : Operand} {hx hy x' y' : AO} {op : BinOp} {t : TypeId} (h1 : trO x hx = some x') (h2 : trO y hy = some y')
    (hs : astep call st (.bin d op x' y') = some st') (h : FRel N E st a.tmps c) (hd : d < N) :
    ComesQ N E st st' (some d) (Sem.run P (do pure (.value (← (do eqGuard op t x y (a.eval x) (a.eval y); binOp op t (a.eval x) (a.eval y))))) E.w) := by
  simp only [astep] at hs
  split at hs
  case h_2 => cases hs
  rename_i xv yv hxv hyv
  have hrx := ev_rel h.σ h1 hxv
  have hry := ev_rel h.σ h2 hyv
  rw [Option.map_eq_some_iff] at hs
  obtain ⟨z, hz, rfl⟩ := hs
  unfold binV at hz
  split at hz
  · rename_i k n k' m
    rw [Option.map_eq_some_iff] at hz
    obtain ⟨r, hr, rfl⟩ := hz
    simp only [Rel] at hrx hry
    rw [hrx.1, hry.1]
    simp only [Sem.run_bind, eqGuard_leaf (P := P) (u := Value.int k n) rfl (by simp), Result.andThen_ok, binOp_int op t, run_val hr, Sem.run_pure]
    exact comes_put h hd (rel_leaf (binOp_leaf hr (.inl ⟨_, _, _, _, rfl, rfl⟩)))
  · rename_i s u
    rw [Option.map_eq_some_iff] at hz
    obtain ⟨r, hr, rfl⟩ := hz
    simp only [Rel] at hrx hry
    rw [hrx.1, hry.1]
    simp only [Sem.run_bind, eqGuard_leaf (P := P) (u := Value.string s) rfl (by simp), Result.andThen_ok, binOp_str op t, run_val hr, Sem.run_pure]
    exact comes_put h hd (rel_leaf (binOp_leaf hr (.inr ⟨_, _, rfl, rfl⟩)))
  · cases hz
theorem unary_leaf {op : UnOp} {x r : Value} (h : (Op.unary op x).val? = some r) : aggB r = false := by
  have hv := val_some h
  unfold Op.unary at hv
  split at hv <;> (try simp only [Op.intArith, Op.intBits] at hv) <;> first
    | (cases hv; rfl)
    | (simp only [pure, Sem.pure.injEq] at hv; subst hv; rfl)
    | (exfalso; revert hv; simp [stuck, unsupported]; done)
theorem s_un {x : Operand} {hx x' : AO} {op : UnOp} (h1 : trO x hx = some x')
    (hs : astep call st (.un d op x') = some st') (h : FRel N E st a.tmps c) (hd : d < N) :
    ComesQ N E st st' (some d) (Sem.run P (do pure (.value (← Op.unary op (a.eval x)))) E.w) := by
  simp only [astep] at hs
  split at hs
  case h_2 => cases hs
  rename_i xv hxv
  have hrx := ev_rel h.σ h1 hxv
  rw [Option.map_eq_some_iff] at hs
  obtain ⟨z, hz, rfl⟩ := hs
  simp only [Rel] at hrx
  rw [hrx.1]
  simp only [Sem.run_bind, run_val hz, Result.andThen_ok, Sem.run_pure]
  exact comes_put h hd (rel_leaf (unary_leaf hz))
theorem s_ext {x : Operand} {hx x' : AO} {i : Nat} (h1 : trO x hx = some x')
    (hs : astep call st (.ext d x' i) = some st') (h : FRel N E st a.tmps c) (hd : d < N) :
    ComesQ N E st st' (some d) (Sem.run P (do pure (.value (← Instr.extract (a.eval x) i))) E.w) := by
  simp only [astep] at hs
  split at hs
  case h_2 => cases hs
  rename_i vs hxv
  have hrx := ev_rel h.σ h1 hxv
  rw [Option.map_eq_some_iff] at hs
  obtain ⟨z, hz, rfl⟩ := hs
  simp only [Rel] at hrx
  obtain ⟨ws, he, hL⟩ := hrx
  obtain ⟨y, c1, c2, hy, hr, hc, -⟩ := relL_at hL hz
  have h0 : c1 = c0 := funext fun b => by have := congrFun hc b; simp only [c0, cadd] at this ⊢; omega
  subst h0
  rw [he]
  have hy' : ws[i]? = some y := by simpa using hy
  simp only [Instr.extract, hy', Sem.run_bind, Sem.run_pure, Result.andThen_ok]
  exact comes_put h hd hr
theorem s_fun {fn : Fn} {first caps : List Operand} {hf hc f' c' : List AO} (h1 : trOs first hf = some f') (h2 : trOs caps hc = some c')
    (hs : astep call st (.fun d fn f' c') = some st') (h : FRel N E st a.tmps c) (hd : d < N) :
    ComesQ N E st st' (some d) (Sem.run P (do pure (.value (← Instr.makeFunc fn (first.toArray.map a.eval) (caps.toArray.map a.eval)))) E.w) := by
  simp only [astep] at hs
  split at hs
  case h_2 => cases hs
  rename_i x y hx hy
  simp only [Option.some.injEq] at hs; subst hs
  have r1 := evL_rel h.σ h1 hx
  have r2 := evL_rel h.σ h2 hy
  simp only [Instr.makeFunc, Sem.run_bind, Sem.run_pure, Result.andThen_ok]
  refine comes_put h hd ?_
  simp only [Rel]
  exact ⟨_, _, c0, c0, rfl, by simpa using r1, by simpa using r2, rfl⟩
theorem s_fld {x : Operand} {hx x' : AO} {s : TypeId} {f : Nat} {fl : Field} {agg : Bool} {n : Nat} (h1 : trO x hx = some x') (hf : fieldT P s f = some fl) (ht : tagT P fl.type = some (agg, n))
    (hs : astep call st (.fld d agg n x' fl.offset) = some st') (h : FRel N E st a.tmps c) (hd : d < N) :
    ComesQ N E st st' (some d) (Sem.run P (do pure (.value (← Instr.field s (a.eval x) f))) E.w) := by
  simp only [astep] at hs
  split at hs
  case h_2 => cases hs
  rename_i cs hxv
  have hrx := ev_rel h.σ h1 hxv
  rw [Option.map_eq_some_iff] at hs
  obtain ⟨z, hz, rfl⟩ := hs
  have hl := rel_size hrx (by simp)
  simp only [Rel] at hrx
  obtain ⟨vs, he, hL⟩ := hrx
  have hlen := relL_length hL
  simp only [Array.length_toList] at hlen
  unfold fieldT at hf
  split at hf
  case h_2 => cases hf
  rename_i fs hu
  unfold tagT at ht
  split at ht
  case h_2 => cases ht
  rename_i dd i hud hi
  simp only [Option.some.injEq, Prod.mk.injEq] at ht
  obtain ⟨rfl, rfl⟩ := ht
  simp only [he, Instr.field, Sem.run_bind, run_underlying hu, Result.andThen_ok, hf, asAgg, Sem.run_pure, part, run_isAgg hud]
  unfold loadE at hz
  cases hag : aggD dd with
  | true =>
    rw [hag, if_pos rfl] at hz
    simp only [if_true, Sem.run_bind, run_sizeOf hi, Result.andThen_ok, Sem.run_pure]
    have key : ∃ z', z = .a z' ∧ fl.offset + i.size ≤ cs.length ∧ z' = (cs.drop fl.offset).take i.size := by
      by_cases hh : fl.offset = 0 ∧ (V.a cs).cells.length = i.size ∧ (V.a cs).isA = true
      · rw [if_pos hh] at hz
        simp only [Option.some.injEq] at hz; subst hz
        have h2 : cs.length = i.size := hh.2.1
        exact ⟨cs, rfl, by omega, by rw [hh.1, List.drop_zero, List.take_of_length_le (by omega)]⟩
      · rw [if_neg hh] at hz
        by_cases hle : fl.offset + i.size ≤ (V.a cs).cells.length
        · rw [if_pos hle] at hz
          simp only [Option.some.injEq] at hz; subst hz
          exact ⟨_, rfl, hle, rfl⟩
        · rw [if_neg hle] at hz; cases hz
    obtain ⟨z', rfl, hle, rfl⟩ := key
    obtain ⟨d0, d1, d2, g0, g1, g2, hc⟩ := relL_pieces hL fl.offset i.size hle
    have h0 : d1 = c0 := funext fun b => by have := congrFun hc b; simp only [c0, cadd] at this ⊢; omega
    subst h0
    have hr := rel_a g1
    have e : vs.extract fl.offset (fl.offset + i.size) = ((vs.toList.drop fl.offset).take i.size).toArray := by
      apply Array.ext'
      simp [List.take_drop]
    rw [e]
    exact comes_put h hd hr
  | false =>
    rw [hag, if_neg (by simp)] at hz
    obtain ⟨y, c1, c2, hy, hr, hc, -⟩ := relL_at hL hz
    have h0 : c1 = c0 := funext fun b => by have := congrFun hc b; simp only [c0, cadd] at this ⊢; omega
    subst h0
    have hy' : vs[fl.offset]? = some y := by simpa using hy
    simp only [Bool.false_eq_true, if_false, hy', Sem.run_pure, Result.andThen_ok]
    exact comes_put h hd hr
theorem s_len {x : Operand} {hx x' : AO} {t ty e : TypeId} (h1 : trO x hx = some x') (hu : P.underlying t = some (.slice e))
    (hs : astep call st (.len d x') = some st') (h : FRel N E st a.tmps c) (hd : d < N) :
    ComesQ N E st st' (some d) (Sem.run P (do pure (.value (← Builtin.len_ #[t] ty #[a.eval x]))) E.w) := by
  simp only [astep] at hs
  split at hs
  case h_2 => cases hs
  rename_i xv hxv
  have hrx := ev_rel h.σ h1 hxv
  rw [Option.map_eq_some_iff] at hs
  obtain ⟨n, hn, rfl⟩ := hs
  have key : Sem.run P (do pure (.value (← Builtin.len_ #[t] ty #[a.eval x])) : Sem Next) E.w = .ok (.value (.int .i64 n)) E.w := by
    unfold lenV at hn
    split at hn <;> first | (simp only [Option.some.injEq] at hn; subst hn) | cases hn
    · simp only [Rel] at hrx
      obtain ⟨-, ⟨A0, -, -, rfl, he⟩ | ⟨b, base, e', lim, cap, A, -, -, -, -, -, he⟩⟩ := hrx <;> simp [Builtin.len_, he, run_underlying hu, goInt]
    · simp only [Rel] at hrx
      obtain ⟨-, A, cap, he, -⟩ := hrx
      simp [Builtin.len_, he, run_underlying hu, goInt]
    · simp only [Rel] at hrx
      simp [Builtin.len_, hrx.1, run_underlying hu, goInt]
  rw [key]
  exact comes_put h hd (rel_leaf rfl)
theorem s_slen {x : Operand} {hx x' : AO} {t ty : TypeId} (h1 : trO x hx = some x') (hu : P.underlying t = some .string)
    (hs : astep call st (.slen d x') = some st') (h : FRel N E st a.tmps c) (hd : d < N) :
    ComesQ N E st st' (some d) (Sem.run P (do pure (.value (← Builtin.len_ #[t] ty #[a.eval x]))) E.w) := by
  simp only [astep] at hs
  split at hs
  case h_2 => cases hs
  rename_i s hxv
  have hrx := ev_rel h.σ h1 hxv
  simp only [Option.some.injEq] at hs; subst hs
  simp only [Rel] at hrx
  have key : Sem.run P (do pure (.value (← Builtin.len_ #[t] ty #[a.eval x])) : Sem Next) E.w = .ok (.value (.int .i64 s.size)) E.w := by
    simp [Builtin.len_, hrx.1, run_underlying hu, goInt]
  rw [key]
  exact comes_put h hd (rel_leaf rfl)
theorem s_int {x : Operand} {hx x' : AO} {src dst : TypeId} {k k0 : IntKind} (h1 : trO x hx = some x') (hu : P.underlying dst = some (.int k)) (hv : P.underlying src = some (.int k0))
    (hs : astep call st (.int d k x') = some st') (h : FRel N E st a.tmps c) (hd : d < N) :
    ComesQ N E st st' (some d) (Sem.run P (do pure (.value (← convert src dst (a.eval x)))) E.w) := by
  simp only [astep] at hs
  split at hs
  case h_2 => cases hs
  rename_i k1 n hxv
  have hrx := ev_rel h.σ h1 hxv
  simp only [Option.some.injEq] at hs; subst hs
  simp only [Rel] at hrx
  have key : Sem.run P (do pure (.value (← convert src dst (a.eval x))) : Sem Next) E.w = .ok (.value (.int k (k.wrap n))) E.w := by
    simp [convert, hrx.1, run_underlying hu, run_underlying hv, Conv.intToInt]
  rw [key]
  exact comes_put h hd (rel_leaf rfl)
theorem s_ix {x i : Operand} {hx hi x' i' : AO} {t : TypeId} (h1 : trO x hx = some x') (h2 : trO i hi = some i') (hu : P.underlying t = some .string)
    (hs : astep call st (.ix d x' i') = some st') (h : FRel N E st a.tmps c) (hd : d < N) :
    ComesQ N E st st' (some d) (Sem.run P (do pure (.value (← Instr.index t (a.eval x) (a.eval i)))) E.w) := by
  simp only [astep] at hs
  split at hs
  case h_2 => cases hs
  rename_i s k n hxv hiv
  have hrx := ev_rel h.σ h1 hxv
  have hri := ev_rel h.σ h2 hiv
  rw [Option.map_eq_some_iff] at hs
  obtain ⟨j, hj, rfl⟩ := hs
  simp only [Rel] at hrx hri
  unfold idx? at hj
  split at hj
  case isFalse => cases hj
  rename_i hb
  simp only [Option.some.injEq] at hj; subst hj
  have hlt : n.toNat < s.size := by omega
  have hb2 : s[n.toNat]? = some s[n.toNat] := by simp [hlt]
  have hb3 : s.data[n.toNat]?.getD 0 = s[n.toNat] := by
    rw [Array.getElem?_eq_getElem (by exact hlt)]; rfl
  have key : Sem.run P (do pure (.value (← Instr.index t (a.eval x) (a.eval i))) : Sem Next) E.w = .ok (.value (.int .u8 s[n.toNat].toNat)) E.w := by
    simp [Instr.index, hrx.1, hri.1, asIntOf, run_underlying hu, hb.1, hb2]
  rw [key]
  refine comes_put h hd ?_
  rw [hb3]
  exact rel_leaf rfl
theorem bound_rel {σ : Sl} {o : Option Operand} {ho o' : Option AO} {z : Option V} {n d0 : Nat} (hσ : SRel E σ a.tmps)
    (ht : (o = none ∧ o' = none) ∨ ∃ x h y, o = some x ∧ trO x h = some y ∧ o' = some y) (hz : evO σ o' = some z) (hb : bound? d0 z = some n) :
    (o = none ∧ n = d0) ∨ ∃ x k, o = some x ∧ a.eval x = .int k (n : Int) := by
  rcases ht with ⟨rfl, rfl⟩ | ⟨x, h, y, rfl, ht, rfl⟩
  · simp only [evO, Option.some.injEq] at hz; subst hz
    simp only [bound?, Option.some.injEq] at hb; exact .inl ⟨rfl, hb.symm⟩
  · simp only [evO, Option.map_eq_some_iff] at hz
    obtain ⟨v, hv, rfl⟩ := hz
    have hr := ev_rel hσ ht hv
    unfold bound? at hb
    split at hb
    · rename_i hc; cases hc
    · rename_i k i hc
      simp only [Option.some.injEq] at hc; subst hc
      split at hb
      · rename_i hi
        simp only [Option.some.injEq] at hb; subst hb
        simp only [Rel] at hr
        exact .inr ⟨x, k, rfl, by rw [hr.1, Int.toNat_of_nonneg hi]⟩
      · cases hb
    · cases hb
theorem run_bound {x : Value} {k : IntKind} {n y : Nat} (code : BoundsCode) (hx : x = .int k (n : Int)) (hn : n ≤ y) (w : World) : (Instr.sliceBound x y code).run P w = .ok n w := by
  subst hx
  simp only [Instr.sliceBound, asIntOf, Sem.run_bind, Sem.run_pure, Result.andThen_ok]
  rw [if_pos ⟨by omega, by omega⟩]; simp
theorem run_bounds {lo hi : Option Operand} {l h len cap d0 : Nat} {isS : Bool} (hl : (lo = none ∧ l = 0) ∨ ∃ x k, lo = some x ∧ a.eval x = .int k (l : Int))
    (hh : (hi = none ∧ h = len) ∨ ∃ x k, hi = some x ∧ a.eval x = .int k (h : Int)) (h1 : l ≤ h) (h2 : h ≤ cap) (w : World) :
    (Instr.sliceBounds isS len cap (lo.map a.eval) (hi.map a.eval) none).run P w = .ok (l, h, cap) w := by
  simp only [Instr.sliceBounds]
  rcases hl with ⟨rfl, rfl⟩ | ⟨x, k, rfl, hx⟩ <;> rcases hh with ⟨rfl, rfl⟩ | ⟨y, k', rfl, hy⟩ <;> simp only [Option.map_none, Option.map_some, Sem.run_bind, Sem.run_pure, Result.andThen_ok]
  · rw [run_bound _ hy h2]; simp
  · rw [run_bound _ hx h1]; simp
  · rw [run_bound _ hy h2]; simp only [Result.andThen_ok]; rw [run_bound _ hx h1]; simp
theorem s_sl {x : Operand} {hx x' : AO} {t et : TypeId} {ei : TypeInfo} {lo hi : Option Operand} {lo' hi' : Option AO} (h1 : trO x hx = some x')
    (hlo : (lo = none ∧ lo' = none) ∨ ∃ x h y, lo = some x ∧ trO x h = some y ∧ lo' = some y) (hhi : (hi = none ∧ hi' = none) ∨ ∃ x h y, hi = some x ∧ trO x h = some y ∧ hi' = some y)
    (ht : slT P t = some (et, ei))
    (hs : astep call st (.sl d ei.size x' lo' hi') = some st') (h : FRel N E st a.tmps c) (hd : d < N) :
    ComesQ N E st st' (some d) (Sem.run P (do pure (.value (← Instr.sliceAt t (a.eval x) (lo.map a.eval) (hi.map a.eval) none))) E.w) := by
  simp only [astep] at hs
  split at hs
  case h_2 => cases hs
  rename_i xv lv hv hxv hlv hhv
  have hrx := ev_rel h.σ h1 hxv
  rw [Option.map_eq_some_iff] at hs
  obtain ⟨z, hz, rfl⟩ := hs
  unfold sliceV at hz
  split at hz
  case h_1 => cases hz
  rename_i n hn
  split at hz
  case h_2 => cases hz
  rename_i l hh hbl hbh
  split at hz
  case isFalse => cases hz
  rename_i hle
  have hl2 := bound_rel (a := a) (ho := none) h.σ hlo hlv hbl
  have hh2 := bound_rel (a := a) (ho := none) h.σ hhi hhv hbh
  unfold slT at ht
  split at ht
  case h_2 => cases ht
  rename_i e hu
  rw [Option.map_eq_some_iff] at ht
  obtain ⟨ei', hei, heq⟩ := ht
  simp only [Prod.mk.injEq] at heq
  obtain ⟨rfl, rfl⟩ := heq
  have hrun : ∀ A cap, a.eval x = .slice A n cap → n ≤ cap → Sem.run P (do pure (.value (← Instr.sliceAt t (a.eval x) (lo.map a.eval) (hi.map a.eval) none)) : Sem Next) E.w =
      .ok (.value (.slice (if cap = l then A else A.map (·.add (l * ei'.size))) (hh - l) (cap - l))) E.w := by
    intro A cap he hcap
    have hb := run_bounds (P := P) (a := a) (d0 := 0) (isS := true) (len := n) (cap := cap) hl2 hh2 hle.1 (by omega) E.w
    simp only [Instr.sliceAt, Sem.run_bind, run_underlying hu, Result.andThen_ok, Instr.slice, he, hb, run_sizeOf hei, Sem.run_pure]
  split at hz
  · rename_i k l0 len
    simp only [lenV, Option.some.injEq] at hn; subst hn
    simp only [Rel] at hrx
    split at hz
    case h_2 => cases hz
    rename_i ob hg
    split at hz
    case isFalse => cases hz
    rename_i hoe
    simp only [Option.some.injEq] at hz; subst hz
    obtain ⟨-, ⟨A0, hμ, rfl, rfl, he⟩ | ⟨b, base, e', lim, cap, A, hμ, hcap, hroom, hpos, hA, he⟩⟩ := hrx
    · rw [hrun A0 0 he (Nat.le_refl _)]
      refine comes_put h hd ?_
      simp only [Rel]
      have hl0 : l = 0 := by omega
      have hh0 : hh = 0 := by omega
      subst hl0; subst hh0
      exact ⟨by trivial, .inl ⟨A0, hμ, by omega, by omega, by simp⟩⟩
    · obtain ⟨c1, c2, ho, -, -⟩ := tRel_get h.T hg
      have hee : e' = ei'.size := by
        rcases ho with ⟨⟨A1, q1⟩, -⟩ | ⟨b2, base2, lim2, cells, T, fz, c3, q1, -⟩
        · rw [q1] at hμ; cases hμ
        · rw [q1] at hμ; cases hμ; exact hoe
      rw [hrun _ _ he hcap]
      refine comes_put h hd ?_
      simp only [Rel]
      refine ⟨by trivial, .inr ⟨b, base, e', lim, cap - l, if cap = l then A else A.add (l * ei'.size), hμ, by omega, ?_, fun h => by have := hpos (by omega); omega, ?_, by split <;> rfl⟩⟩
      · rw [show l0 + l + (cap - l) = l0 + cap by omega]; exact hroom
      · by_cases hc : cap = l
        · exact .inl (by omega)
        · right
          rw [if_neg hc]
          rcases hA with hA | hA
          · omega
          · rw [hA, add_none, hee, Nat.add_mul]; simp only [Nat.add_assoc]
  · rename_i τ xs
    split at hz
    case isFalse => cases hz
    rename_i hok
    simp only [Option.some.injEq] at hz; subst hz
    simp only [lenV, Option.some.injEq] at hn; subst hn
    simp only [Rel] at hrx
    obtain ⟨-, A, cap, he, hcap, hR⟩ := hrx
    rw [hrun _ _ he hcap]
    refine comes_put h hd ?_
    simp only [Rel]
    have hlen : ((xs.drop l).take (hh - l)).length = hh - l := by simp; omega
    refine ⟨by trivial, _, _, by rw [hlen], by rw [hlen]; omega, ?_⟩
    by_cases hc : hh = l
    · left; apply List.length_eq_zero_iff.1; omega
    · rcases hR with rfl | ⟨b, base, e', cells, T, fz, rfl, hI, hw, hR⟩
      · simp only [List.length_nil] at hle; omega
      · right
        have hee : e' = ei'.size := by
          cases xs with
          | nil => simp only [List.length_nil] at hle; omega
          | cons x0 xs0 =>
            simp only [RelR] at hR
            obtain ⟨y, t, c1, c2, -, -, hl0, -⟩ := hR
            simp only [headOk, beq_iff_eq] at hok
            omega
        refine ⟨b, base + l * e', e', cells, T, fz, ?_, hI, hw, ?_⟩
        · rw [if_neg (by omega)]; simp [add_none, hee]
        · obtain ⟨q1, q2, -, h3, hq⟩ := relR_take l hR
          obtain ⟨q3, q4, h5, -, hq'⟩ := relR_take (hh - l) h3
          have h0 : q3 = c0 := funext fun z => by
            have := congrFun hq z; have := congrFun hq' z; simp only [c0, cadd] at *; omega
          subst h0
          rw [hlen]
          have hm : l * e' + (hh - l) * e' ≤ xs.length * e' := by rw [← Nat.add_mul]; exact Nat.mul_le_mul_right _ (by omega)
          rwa [seg_sub hm] at h5
  · simp only [Option.some.injEq] at hz; subst hz
    have hn0 : n = 0 := (Option.some.inj hn).symm
    simp only [Rel] at hrx
    rw [hrun none 0 (by rw [hrx.1, hn0]) (by omega)]
    refine comes_put h hd ?_
    have hl0 : l = 0 := by omega
    have hh0 : hh = 0 := by omega
    subst hl0; subst hh0
    simp only [Rel]
    exact ⟨by simp, by trivial⟩
  · cases hz
theorem s_ssl {x : Operand} {hx x' : AO} {t : TypeId} {lo hi : Option Operand} {lo' hi' : Option AO} (h1 : trO x hx = some x')
    (hlo : (lo = none ∧ lo' = none) ∨ ∃ x h y, lo = some x ∧ trO x h = some y ∧ lo' = some y) (hhi : (hi = none ∧ hi' = none) ∨ ∃ x h y, hi = some x ∧ trO x h = some y ∧ hi' = some y)
    (hu : P.underlying t = some .string)
    (hs : astep call st (.ssl d x' lo' hi') = some st') (h : FRel N E st a.tmps c) (hd : d < N) :
    ComesQ N E st st' (some d) (Sem.run P (do pure (.value (← Instr.sliceAt t (a.eval x) (lo.map a.eval) (hi.map a.eval) none))) E.w) := by
  simp only [astep] at hs
  split at hs
  case h_2 => cases hs
  rename_i s lv hv hxv hlv hhv
  have hrx := ev_rel h.σ h1 hxv
  split at hs
  case h_2 => cases hs
  rename_i l hh hbl hbh
  split at hs
  case isFalse => cases hs
  rename_i hle
  simp only [Option.some.injEq] at hs; subst hs
  have hl2 := bound_rel (a := a) (ho := none) h.σ hlo hlv hbl
  have hh2 := bound_rel (a := a) (ho := none) h.σ hhi hhv hbh
  simp only [Rel] at hrx
  have hb := run_bounds (P := P) (a := a) (d0 := 0) (isS := false) (len := s.size) (cap := s.size) hl2 hh2 hle.1 (by omega) E.w
  have hrun : Sem.run P (do pure (.value (← Instr.sliceAt t (a.eval x) (lo.map a.eval) (hi.map a.eval) none)) : Sem Next) E.w = .ok (.value (.string (s.extract l hh))) E.w := by
    simp only [Instr.sliceAt, Sem.run_bind, run_underlying hu, Result.andThen_ok, Instr.slice, hrx.1, Option.isSome_none, Bool.false_eq_true, if_false, hb, Sem.run_pure]
  rw [hrun]
  exact comes_put h hd (rel_leaf rfl)
end
end Go.Vm
