import Derived.Test.YtehgffojgiefaaaVmH
set_option autoImplicit false
set_option linter.unusedVariables false
set_option linter.unusedSimpArgs false
namespace Go.Vm

def tagT (P : Program) (t : TypeId) : Option (Bool × Nat) :=
  match P.underlying t, P.info? t with
  | some d, some i => some (aggD d, i.size)
  | _, _ => none
def slT (P : Program) (t : TypeId) : Option (TypeId × TypeInfo) :=
  match P.underlying t with
  | some (.slice e) => (P.info? e).map (e, ·)
  | _ => none
def zeroT (P : Program) (t : TypeId) : Option Value := (P.info? t).bind (·.zero)
def fieldT (P : Program) (s : TypeId) (f : Nat) : Option Field :=
  match P.underlying s with
  | some (.struct fs) => fs[f]?
  | _ => none
def kindT (P : Program) (t : TypeId) : Option (Option IntKind) :=
  match P.underlying t with
  | some (.int k) => some (some k)
  | some .string => some none
  | _ => none
def opt2 {α β γ : Type} (x : Option α) (y : Option β) (f : α → β → γ) : Option γ :=
  match x, y with
  | some a, some b => some (f a b)
  | _, _ => none
theorem opt2_some {α β γ : Type} {x : Option α} {y : Option β} {f : α → β → γ} {r : γ} (h : opt2 x y f = some r) : ∃ a b, x = some a ∧ y = some b ∧ r = f a b := by
  unfold opt2 at h; split at h
  · rename_i a b; exact ⟨a, b, rfl, rfl, (Option.some.inj h).symm⟩
  · cases h
theorem val_some {α : Type} {s : Sem α} {a : α} (h : s.val? = some a) : s = .pure a := by
  unfold Sem.val? at h; split at h
  · simp only [Option.some.injEq] at h; rw [h]
  · cases h

section
variable {P : Program} {N : Nat} {E : Env} {c : Cnt} {st st' : St} {a : Act} {d : Nat} {call : Call}

theorem s_mv {x : Operand} {hx y : AO} (ht : trO x hx = some y) (hs : astep call st (.mv d y) = some st') (h : FRel N E st a.tmps c) (hd : d < N) :
    ComesQ N E st st' (some d) (.ok (.value (a.eval x)) E.w) := by
  simp only [astep, Option.map_eq_some_iff] at hs
  obtain ⟨z, hz, rfl⟩ := hs
  exact comes_put h hd (ev_rel h.σ ht hz)
theorem s_pick {o x y : Operand} {ho hx hy o' x' y' : AO} (h1 : trO o ho = some o') (h2 : trO x hx = some x') (h3 : trO y hy = some y')
    (hs : astep call st (.pick d o' x' y') = some st') (h : FRel N E st a.tmps c) (hd : d < N) :
    ComesQ N E st st' (some d) (Sem.run P (do pure (.value (if ← asBool (a.eval o) then a.eval x else a.eval y))) E.w) := by
  simp only [astep] at hs
  split at hs
  · rename_i hc
    have := ev_rel h.σ h1 hc
    simp only [Rel] at this
    rw [Option.map_eq_some_iff] at hs
    obtain ⟨z, hz, rfl⟩ := hs
    simp only [this.1, asBool, Sem.run_bind, Sem.run_pure, Result.andThen_ok, if_true]
    exact comes_put h hd (ev_rel h.σ h2 hz)
  · rename_i hc
    have := ev_rel h.σ h1 hc
    simp only [Rel] at this
    rw [Option.map_eq_some_iff] at hs
    obtain ⟨z, hz, rfl⟩ := hs
    simp only [this.1, asBool, Sem.run_bind, Sem.run_pure, Result.andThen_ok]
    exact comes_put h hd (ev_rel h.σ h3 hz)
  · cases hs
theorem seg_all (l : List Value) : seg l.toArray 0 l.length = l := by simp [seg]
theorem seg_arr (l : Array Value) : seg l 0 l.size = l.toList := by simp [seg, ← Array.length_toList]
theorem c0_le (x : Cnt) : cle c0 x := fun _ => Nat.zero_le _
/-- a new variable -/
theorem s_new {x : AO} {v : Value} {t : TypeId} (hx : ∀ z, ev st.σ x = some z → Rel E z v c0)
    (hs : astep call st (.new d x) = some st') (h : FRel N E st a.tmps c) (hd : d < N) :
    Comes1 N E c st' a (some d) (Sem.run P (do pure (.value (.pointer (some (← newVar t v))))) E.w) := by
  simp only [astep] at hs
  split at hs
  · rename_i z hz
    split at hs
    · rename_i ho
      simp only [Option.some.injEq] at hs; subst hs
      have hr := hx z hz
      obtain ⟨hl, hon⟩ := rel_ones hr ho
      obtain ⟨c1, hσ, hT, hle⟩ := wipe_rel d h.σ h.T
      have hk := rel_drop (d := d) hr
      have hR : RelR (E.drop d) z.cells.length [killV d z] (seg v.cells 0 ([killV d z].length * z.cells.length)) c0 := by
        simp only [List.length_singleton, Nat.one_mul, hl, seg_arr]
        exact relR_one rfl (by rw [killV_cells, hl]) hon hk
      have hg : Good (E.drop d) (cadd c0 c1) := by rw [c0_cadd]; exact (h.g.drop d).le hle
      simp only [newVar, newRow, Sem.run_bind, run_newObj, Result.andThen_ok, Sem.run_pure]
      obtain ⟨E', c', hw, hks, hμ, hF, hA, hc⟩ := frel_alloc (d := d) (tmps := a.tmps) (ty := t) (fz := (0, 0)) h.sz hσ hT (drop_free E d) (by simp [hl]) hR hg (.inr (Nat.le_refl _))
        (⟨rfl, rfl, rfl, rfl⟩ : Grew (E.drop d).w (.cells v.cells t (0, 0)) { (E.drop d).w with heap := (E.drop d).w.heap.push (.cells v.cells t (0, 0)) })
      refine ⟨E', c', hw, keeps_drop hks, ?_, ?_⟩
      · refine hF.put (x := .p (d, 0) 0 0) ?_ hd
        simp only [Rel]
        exact ⟨by trivial, _, _, _, _, hμ, by simp [Env.drop]⟩
      · have hA' : Adv E c E' c' := ⟨hA.sizes, hA.os, hA.tape, hA.output, hA.size, fun b hb hc => hA.frame b hb (by have := hle b; simp only [cadd, c0]; omega), hA.sub,
          fun b hb => (hA.own b hb).imp (fun h => by have := hle b; simp only [cadd, c0] at h; omega) id,
          fun τ b hb => (hA.imm τ b hb).imp id (fun h => h.imp (fun h => by have := hle b; simp only [cadd, c0] at h; omega) id)⟩
        exact hA'
    · cases hs
  · cases hs

/-! loads -/
theorem rel_loadE {x : V} {y : Value} {cx : Cnt} {agg : Bool} {n off : Nat} {z : V} (hx : Rel E x y cx) (hl : x.cells.length = y.cells.size) (hz : loadE agg n x off = some z) (hzero : zeroB z = true) :
    (agg = true → off + n ≤ y.cells.size ∧ Rel E z (.agg ((y.cells.toList.drop off).take n).toArray) c0) ∧
    (agg = false → ∃ v, y.cells[off]? = some v ∧ Rel E z v c0) := by
  have hc := rel_cells hx hl
  unfold loadE at hz
  refine ⟨fun ha => ?_, fun ha => ?_⟩
  · rw [ha] at hz
    simp only [if_true] at hz
    split at hz
    · rename_i hh
      obtain ⟨rfl, hn, hA⟩ := hh
      simp only [Option.some.injEq] at hz; subst hz
      cases x with
      | a cs =>
        simp only [V.cells] at hn
        have hx' := hx
        simp only [Rel] at hx'
        obtain ⟨vs, rfl, hL⟩ := hx'
        have h0 := rel_zero hx hzero
        subst h0
        have := relL_length hL
        simp only [Array.length_toList] at this
        refine ⟨by simp only [Value.cells]; omega, ?_⟩
        simp only [List.drop_zero]
        rw [List.take_of_length_le (by simp [Value.cells]; omega)]
        simpa [Value.cells] using hx
      | _ => simp [V.isA] at hA
    · split at hz
      · rename_i hle
        simp only [Option.some.injEq] at hz; subst hz
        refine ⟨by omega, ?_⟩
        have e1 : x.cells = x.cells.take off ++ ((x.cells.drop off).take n ++ (x.cells.drop off).drop n) := by rw [List.take_append_drop, List.take_append_drop]
        rw [e1] at hc
        obtain ⟨p1, p2, d1, d2, e2, h1, h2, rfl⟩ := relL_split hc
        obtain ⟨p3, p4, d3, d4, rfl, h3, h4, rfl⟩ := relL_split h2
        have l1 := relL_length h1
        have l3 := relL_length h3
        simp only [List.length_take, List.length_drop] at l1 l3
        have e3 : (y.cells.toList.drop off).take n = p3 := by
          rw [e2, show off = p1.length by omega, List.drop_left, show n = p3.length by omega, List.take_left]
        rw [e3]
        simp only [zeroB] at hzero
        have h0 := relL_zero h3 hzero
        subst h0
        exact rel_a h3
      · cases hz
  · rw [ha] at hz
    simp only [Bool.false_eq_true, if_false] at hz
    obtain ⟨v, c1, c2, h1, h2, rfl, -⟩ := relL_at hc hz
    have h0 := rel_zero h2 hzero
    subst h0
    exact ⟨v, by simpa using h1, h2⟩
/-- where a pointer leads -/
theorem loadP_at {T : Mem} {p : V} {v : Value} {agg : Bool} {n : Nat} {z : V} (hT : TRel E T c) (hp : Rel E p v c0) (hz : loadP T agg n p = some z) :
    ∃ b base e idx off xs x cells ty fz cr, v = .pointer (some ⟨b, base + idx * e + off, none⟩) ∧ E.w.heap[b]? = some (.cells cells ty fz) ∧ xs[idx]? = some x ∧ loadE agg n x off = some z ∧
      (RelR E e xs (seg cells base (xs.length * e)) cr) := by
  unfold loadP at hz
  split at hz
  · rename_i k idx off
    split at hz
    · rename_i ob hg
      split at hz
      · rename_i x hx
        simp only [Rel] at hp
        obtain ⟨-, b', base', e', lim', hμ', rfl⟩ := hp
        obtain ⟨c1, c2, ho, -, -⟩ := tRel_get hT hg
        rcases ho with ⟨⟨A0, h1⟩, -⟩ | ⟨b, base, lim, cells, ty, fz, c3, hμ, hw, hl, hf, hs, hr, -⟩
        · rw [h1] at hμ'; cases hμ'
        · rw [hμ] at hμ'; cases hμ'
          exact ⟨_, _, _, idx, off, ob.2, x, cells, ty, fz, c3, rfl, hw, hx, hz, hr⟩
      · cases hz
    · cases hz
  · rename_i τ xs idx off
    split at hz
    · rename_i x hx
      simp only [Rel] at hp
      obtain ⟨-, b, base, e, cells, ty, fz, hI, hw, rfl, hr⟩ := hp
      exact ⟨_, _, _, idx, off, xs, x, cells, ty, fz, c0, rfl, hw, hx, hz, relR_mono hr (mono_cl E c0)⟩
    · cases hz
  · cases hz
theorem run_loadAt {b base e idx off : Nat} {xs : List V} {x z : V} {cells : Array Value} {ty : TypeId} {fz : Nat × Nat} {cr : Cnt} {t : TypeId} {agg : Bool} {n : Nat}
    (hw : E.w.heap[b]? = some (.cells cells ty fz)) (hx : xs[idx]? = some x) (hz : loadE agg n x off = some z) (hr : RelR E e xs (seg cells base (xs.length * e)) cr)
    (ht : tagT P t = some (agg, n)) (hzero : zeroB z = true) :
    ∃ y, (Instr.loadAt t (.pointer (some ⟨b, base + idx * e + off, none⟩))).run P E.w = .ok y E.w ∧ Rel E z y c0 := by
  unfold tagT at ht
  split at ht
  · rename_i dd i hu hi
    simp only [Option.some.injEq, Prod.mk.injEq] at ht
    obtain ⟨rfl, rfl⟩ := ht
    obtain ⟨y, c1, c2, h1, h2, h3, -, h5, -, -⟩ := relR_at hr hx
    have hidx : idx < xs.length := (List.getElem?_eq_some_iff.1 hx).1
    have hm : idx * e + e ≤ xs.length * e := by rw [← Nat.succ_mul]; exact Nat.mul_le_mul_right _ hidx
    rw [seg_sub hm] at h1
    have hlen : (seg cells (base + idx * e) e).length = e := by rw [h1]; simpa using h2
    have hsz : base + idx * e + e ≤ cells.size ∨ e = 0 := by
      simp only [seg, List.length_take, List.length_drop, Array.length_toList] at hlen; omega
    have := rel_loadE h5 (by rw [h3, h2]) hz hzero
    rw [← h1] at this
    obtain ⟨hT, hF⟩ := this
    have hrun := run_loadVar (P := P) (w := E.w) (t := t) (o := base + idx * e + off) hu hi hw
    cases hag : aggD dd with
    | true =>
      obtain ⟨h6, h7⟩ := hT hag
      rw [h2] at h6
      have hin : base + idx * e + off + i.size ≤ cells.size ∨ i.size = 0 := by omega
      rcases hin with hin | hin
      · refine ⟨_, by simp only [Instr.loadAt, Instr.sureAddr, Sem.run_bind, Sem.run_pure, Result.andThen_ok]; exact hrun.1 hag hin, ?_⟩
        rwa [seg_sub (by omega)] at h7
      · refine ⟨.agg #[], ?_, ?_⟩
        · simp only [Instr.loadAt, Instr.sureAddr, Sem.run_bind, Sem.run_pure, Result.andThen_ok, loadVar, run_isAgg hu, hag, if_true, run_sizeOf hi, hin, loadCells, loadCellsFrom]
        · rw [hin] at h7; simpa using h7
    | false =>
      obtain ⟨v, h6, h7⟩ := hF hag
      have h8 : (seg cells (base + idx * e) e)[off]? = some v := by rw [h1]; simpa using h6
      have h9 : cells[base + idx * e + off]? = some v := by simpa [Nat.add_assoc] using seg_get h8
      exact ⟨v, by simp only [Instr.loadAt, Instr.sureAddr, Sem.run_bind, Sem.run_pure, Result.andThen_ok]; exact hrun.2 hag v h9, h7⟩
  · cases ht
end
end Go.Vm
