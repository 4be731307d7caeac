import Derived.Test.YtehgffojgiefaaaVmO
import Derived.Laws.BytesString
set_option autoImplicit false
set_option linter.unusedVariables false
set_option linter.unusedSimpArgs false
namespace Go.Vm

section
variable {P : Program} {N : Nat} {E : Env} {c : Cnt} {st st' : St} {a : Act} {d : Nat} {call : Call}

/-! ### '==' -/
def eqK (P : Program) (t : TypeId) : Option Nat :=
  match P.underlying t with
  | some .bool => some 0
  | some (.pointer _) => some 1
  | some (.slice _) => some 2
  | some (.func ..) => some 3
  | _ => none
def eqOp (neg : Bool) : BinOp := if neg then .neq else .eql
theorem equal_succ (t : TypeId) (x y : Value) : Op.equal t x y = Op.equalIn (9999 + 1) t x y := rfl
theorem run_eqs {t : TypeId} {x y : Value} {r neg : Bool} {w : World} (h : (Op.equal t x y).run P w = .ok r w)
    (h1 : binOp .eql t x y = (do pure (.bool (← Op.equal t x y)))) (h2 : binOp .neq t x y = (do pure (.bool (!(← Op.equal t x y))))) :
    (binOp (eqOp neg) t x y).run P w = .ok (.bool (r != neg)) w := by
  cases neg
  · simp only [eqOp, Bool.false_eq_true, if_false, h1, Sem.run_bind, h, Result.andThen_ok, Sem.run_pure]; cases r <;> rfl
  · simp only [eqOp, if_true, h2, Sem.run_bind, h, Result.andThen_ok, Sem.run_pure]; cases r <;> rfl
theorem run_equal {t : TypeId} {k : Nat} (hk : eqK P t = some k) {xv yv : V} {x y : Value} {r : Bool} (hx : Rel E xv x c0) (hy : Rel E yv y c0) (he : eqV k xv yv = some r) (neg : Bool) (w : World) :
    (binOp (eqOp neg) t x y).run P w = .ok (.bool (r != neg)) w ∧ aggB x = false ∧ x ≠ .nilIface := by
  unfold eqK at hk
  split at hk <;> (first | (cases hk; done) | skip) <;> rename_i hu <;> simp only [Option.some.injEq] at hk <;> subst hk <;> unfold eqV at he <;>
    split at he <;> (first | (cases he; done) | skip) <;> simp only [Option.some.injEq] at he <;> subst he <;> simp only [Rel] at hx hy
  all_goals (try (exfalso; omega))
  all_goals
    (first
      | obtain ⟨rfl, -⟩ := hx
      | (obtain ⟨-, A, cap, rfl, -, hA⟩ := hx
         have hA := hA.resolve_left (by simp)
         obtain ⟨b, base, e, cells, T, fz, rfl, -⟩ := hA)
      | (obtain ⟨-, hA⟩ := hx
         have hA := hA.resolve_left (by rintro ⟨A, -, -, h, -⟩; cases h)
         obtain ⟨b, base, e, lim, cap, A, -, -, -, -, -, rfl⟩ := hA)
      | obtain ⟨-, b, base, e, lim, -, rfl⟩ := hx
      | obtain ⟨-, b, base, e, cells, T, fz, -, -, rfl, -⟩ := hx
      | obtain ⟨fs, cs, c1, c2, rfl, -⟩ := hx) <;>
    (first
      | obtain ⟨rfl, -⟩ := hy
      | (obtain ⟨-, A, cap, rfl, -, hA⟩ := hy
         have hA := hA.resolve_left (by simp)
         obtain ⟨b, base, e, cells, T, fz, rfl, -⟩ := hA)
      | (obtain ⟨-, hA⟩ := hy
         have hA := hA.resolve_left (by rintro ⟨A, -, -, h, -⟩; cases h)
         obtain ⟨b, base, e, lim, cap, A, -, -, -, -, -, rfl⟩ := hA)
      | obtain ⟨-, b, base, e, lim, -, rfl⟩ := hy
      | obtain ⟨-, b, base, e, cells, T, fz, -, -, rfl, -⟩ := hy
      | obtain ⟨fs, cs, c1, c2, rfl, -⟩ := hy)
  all_goals
    exact ⟨run_eqs (by rw [equal_succ, Op.equalIn]; simp [run_underlying hu]) rfl rfl, rfl, by simp⟩
theorem s_eqs {x y : Operand} {hx hy x' y' : AO} {t : TypeId} {k : Nat} {neg : Bool} (h1 : trO x hx = some x') (h2 : trO y hy = some y') (hk : eqK P t = some k)
    (hs : astep call st (.eqs d k neg x' y') = some st') (h : FRel N E st a.tmps c) (hd : d < N) :
    ComesQ N E st st' (some d) (Sem.run P (do pure (.value (← (do eqGuard (eqOp neg) t x y (a.eval x) (a.eval y); binOp (eqOp neg) t (a.eval x) (a.eval y))))) E.w) := by
  simp only [astep] at hs
  split at hs
  case h_2 => cases hs
  rename_i xv yv hxv hyv
  have hrx := ev_rel h.σ h1 hxv
  have hry := ev_rel h.σ h2 hyv
  rw [Option.map_eq_some_iff] at hs
  obtain ⟨r, hr, rfl⟩ := hs
  obtain ⟨hrun, hag, hn⟩ := run_equal hk hrx hry hr neg E.w
  simp only [Sem.run_bind, eqGuard_leaf hag hn, Result.andThen_ok, hrun, Sem.run_pure]
  exact comes_put h hd (rel_leaf rfl)

/-! ### max, min -/
theorem s_mx {x y : Operand} {hx hy x' y' : AO} {t : Array TypeId} {ty : TypeId} {mx : Bool} (h1 : trO x hx = some x') (h2 : trO y hy = some y')
    (hs : astep call st (.mx d mx [x', y']) = some st') (h : FRel N E st a.tmps c) (hd : d < N) :
    ComesQ N E st st' (some d) (Sem.run P (do pure (.value (← (if mx then Builtin.max_ t ty #[a.eval x, a.eval y] else Builtin.min_ t ty #[a.eval x, a.eval y])))) E.w) := by
  simp only [astep] at hs
  split at hs
  case h_2 => cases hs
  rename_i k n k' m hL
  simp only [evL] at hL
  cases hxv : ev st.σ x' with
  | none => rw [hxv] at hL; cases hL
  | some xv =>
  cases hyv : ev st.σ y' with
  | none => rw [hxv, hyv] at hL; cases hL
  | some yv =>
  rw [hxv, hyv] at hL
  simp only [Option.some.injEq, List.cons.injEq, and_true] at hL
  obtain ⟨rfl, rfl⟩ := hL
  have hrx := ev_rel h.σ h1 hxv
  have hry := ev_rel h.σ h2 hyv
  simp only [Option.some.injEq] at hs; subst hs
  simp only [Rel] at hrx hry
  have key : Sem.run P (do pure (.value (← (if mx then Builtin.max_ t ty #[a.eval x, a.eval y] else Builtin.min_ t ty #[a.eval x, a.eval y]))) : Sem Next) E.w =
      .ok (.value (.int k (if mx then (if m > n then m else n) else (if m < n then m else n)))) E.w := by
    rw [hrx.1, hry.1]
    cases mx <;> simp [Builtin.max_, Builtin.min_, Builtin.max2, Builtin.min2, List.foldlM]
  rw [key]
  exact comes_put h hd (rel_leaf rfl)

/-! ### a string of bytes -/
theorem bytes_rel : ∀ {xs : List V} {l : List UInt8} {ys : List Value}, RelR E 1 xs ys c0 → bytesOf xs = some l → ∃ ns : List Int, ys = ns.map (Value.int .u8) ∧ l = ns.map fun n => UInt8.ofNat n.toNat
  | [], l, ys, h, hb => by
    simp only [RelR] at h; simp only [bytesOf, Option.some.injEq] at hb; subst hb
    exact ⟨[], by simpa using h.1, rfl⟩
  | x :: xs, l, ys, h, hb => by
    unfold bytesOf at hb
    split at hb
    · rename_i e; cases e
    · rename_i n r e
      simp only [List.cons.injEq] at e
      obtain ⟨rfl, rfl⟩ := e
      split at hb
      · rename_i l' hl
        simp only [Option.some.injEq] at hb; subst hb
        simp only [RelR] at h
        obtain ⟨y, ys', c1, c2, rfl, -, -, -, hy, hr, hc⟩ := h
        have z2 : c2 = c0 := funext fun b => by have := congrFun hc b; simp only [c0, cadd] at this ⊢; omega
        subst z2
        simp only [Rel] at hy
        obtain ⟨ns, rfl, rfl⟩ := bytes_rel hr hl
        exact ⟨n :: ns, by rw [hy.1]; rfl, rfl⟩
      · cases hb
    · cases hb
theorem pushes (ns : List Int) : ∀ s : ByteArray, ns.foldl (fun r n => r.push (UInt8.ofNat n.toNat)) s = ⟨s.data ++ (ns.map fun n => UInt8.ofNat n.toNat).toArray⟩ := by
  induction ns with
  | nil => intro s; simp
  | cons n ns ih =>
    intro s
    rw [List.foldl_cons, ih]
    congr 1
    simp [ByteArray.push]
theorem s_str {x : Operand} {hx x' : AO} {src dst e : TypeId} (h1 : trO x hx = some x') (hu : P.underlying dst = some .string) (hv : P.underlying src = some (.slice e)) (he : P.underlying e = some (.int .u8))
    (hs : astep call st (.str d x') = some st') (h : FRel N E st a.tmps c) (hd : d < N) :
    ComesQ N E st st' (some d) (Sem.run P (do pure (.value (← convert src dst (a.eval x)))) E.w) := by
  simp only [astep] at hs
  split at hs
  case h_2 => cases hs
  rename_i xv hxv
  have hrx := ev_rel h.σ h1 hxv
  split at hs
  case h_2 => cases hs
  rename_i xs hxs
  rw [Option.map_eq_some_iff] at hs
  obtain ⟨l, hl, rfl⟩ := hs
  have hz : zeroBL xs = true := by
    clear hxs
    induction xs generalizing l with
    | nil => rfl
    | cons y ys ih =>
      unfold bytesOf at hl
      split at hl
      · rename_i e; cases e
      · rename_i n r e
        simp only [List.cons.injEq] at e
        obtain ⟨rfl, rfl⟩ := e
        split at hl
        · rename_i l' hl'
          simp only [zeroBL, zeroB, ih _ hl', Bool.and_self]
        · cases hl
      · cases hl
  have hall : xs.all (fun y => y.cells.length == 1) = true := by
    clear hxs hz
    induction xs generalizing l with
    | nil => rfl
    | cons y ys ih =>
      unfold bytesOf at hl
      split at hl
      · rename_i e; cases e
      · rename_i n r e
        simp only [List.cons.injEq] at e
        obtain ⟨rfl, rfl⟩ := e
        split at hl
        · rename_i l' hl'
          rw [List.all_cons, ih _ hl']; rfl
        · cases hl
      · cases hl
  obtain ⟨news, hr⟩ := elems_rel (sh := true) h.T hrx hxs hz hall
  have hfin : ∀ (ns : List Int), l = ns.map (fun n => UInt8.ofNat n.toNat) → (Conv.bytesToString (a.eval x)).run P E.w = .ok (.string (ns.foldl (fun r n => r.push (UInt8.ofNat n.toNat)) ByteArray.empty)) E.w →
      (∃ A n c, a.eval x = .slice A n c) →
      ComesQ N E st (st.put d (.v (.string ⟨l.toArray⟩))) (some d) (Sem.run P (do pure (.value (← convert src dst (a.eval x)))) E.w) := by
    rintro ns hl hrun ⟨A, n, cp, he1⟩
    have hconv : (convert src dst (a.eval x)).run P E.w = .ok (.string (ns.foldl (fun r n => r.push (UInt8.ofNat n.toNat)) ByteArray.empty)) E.w := by
      rw [he1] at hrun ⊢
      simp [convert, run_underlying hu, run_underlying hv, run_underlying he, hrun]
    simp only [Sem.run_bind, hconv, Result.andThen_ok, Sem.run_pure]
    refine comes_put h hd ?_
    rw [pushes, hl]
    have : (⟨ByteArray.empty.data ++ (ns.map fun n => UInt8.ofNat n.toNat).toArray⟩ : ByteArray) = ⟨(ns.map fun n => UInt8.ofNat n.toNat).toArray⟩ := by
      congr 1
      show (#[] : Array UInt8) ++ _ = _
      simp
    rw [this]
    exact rel_leaf rfl
  have hsome : ∀ A cap, RelR E 1 xs news c0 → a.eval x = .slice (some A) xs.length cap → (∀ j u, news[j]? = some u → E.w.cell? (A.add j) = some u) →
      ComesQ N E st (st.put d (.v (.string ⟨l.toArray⟩))) (some d) (Sem.run P (do pure (.value (← convert src dst (a.eval x)))) E.w) := by
    intro A cap hR hv1 hcell
    obtain ⟨ns, hns, hl2⟩ := bytes_rel hR hl
    have hlen := relR_length hR
    have hload := run_loadCells_list (P := P) E.w A news hcell
    rw [hlen, Nat.mul_one] at hload
    rw [hns] at hload
    exact hfin ns hl2 (by rw [hv1]; exact run_bytesToString E.w A xs.length cap ns hload) ⟨_, _, _, hv1⟩
  have hnil : xs = [] → ∀ A cap, a.eval x = .slice A 0 cap → ComesQ N E st (st.put d (.v (.string ⟨l.toArray⟩))) (some d) (Sem.run P (do pure (.value (← convert src dst (a.eval x)))) E.w) := by
    intro h0 A cap hv1
    subst h0
    simp only [bytesOf, Option.some.injEq] at hl
    cases A with
    | none => exact hfin [] (by simp [← hl]) (by rw [hv1]; rfl) ⟨_, _, _, hv1⟩
    | some A => exact hfin [] (by simp [← hl]) (by rw [hv1]; exact run_bytesToString E.w A 0 cap [] rfl) ⟨_, _, _, hv1⟩
  rcases hr with ⟨hR, ⟨h1, h2⟩ | ⟨A, cap, h1, h2⟩⟩ | ⟨h0, A, cap, h1, -, -⟩
  · exact hnil h2 none 0 h1
  · exact hsome A cap hR h1 h2
  · exact hnil h0 A cap h1
end
end Go.Vm
