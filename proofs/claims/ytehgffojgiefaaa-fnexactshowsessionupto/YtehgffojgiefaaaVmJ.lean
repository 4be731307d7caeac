import Derived.Test.YtehgffojgiefaaaVmI
set_option autoImplicit false
set_option linter.unusedVariables false
set_option linter.unusedSimpArgs false
namespace Go.Vm

theorem relL_pieces {E : Env} {xs : List V} {ys : List Value} {c : Cnt} (h : RelL E xs ys c) (off m : Nat) (hle : off + m ≤ xs.length) :
    ∃ d0 d1 d2, RelL E (xs.take off) (ys.take off) d0 ∧ RelL E ((xs.drop off).take m) ((ys.drop off).take m) d1 ∧ RelL E (xs.drop (off + m)) (ys.drop (off + m)) d2 ∧ c = cadd d0 (cadd d1 d2) := by
  have e1 : xs = xs.take off ++ ((xs.drop off).take m ++ (xs.drop off).drop m) := by rw [List.take_append_drop, List.take_append_drop]
  rw [e1] at h
  obtain ⟨p1, p2, d1, d2, e2, h1, h2, rfl⟩ := relL_split h
  obtain ⟨p3, p4, d3, d4, rfl, h3, h4, rfl⟩ := relL_split h2
  have l1 := relL_length h1
  have l3 := relL_length h3
  simp only [List.length_take, List.length_drop] at l1 l3
  have e3 : ys.take off = p1 := by rw [e2, show off = p1.length by omega, List.take_left]
  have e4 : ys.drop off = p3 ++ p4 := by rw [e2, show off = p1.length by omega, List.drop_left]
  have e5 : (ys.drop off).take m = p3 := by rw [e4, show m = p3.length by omega, List.take_left]
  have e6 : ys.drop (off + m) = p4 := by rw [← List.drop_drop, e4, show m = p3.length by omega, List.drop_left]
  rw [e3, e5, e6]
  rw [List.drop_drop] at h4
  exact ⟨d1, d3, d4, h1, h3, h4, rfl⟩
theorem relR_pieces {E : Env} {e : Nat} {xs : List V} {ys : List Value} {c : Cnt} {i : Nat} {x : V} (h : RelR E e xs ys c) (hx : xs[i]? = some x) :
    ∃ y d0 d1 d2, (ys.drop (i * e)).take e = y.cells.toList ∧ y.cells.size = e ∧ x.cells.length = e ∧ ones y.cells.toList ∧ RelR E e (xs.take i) (ys.take (i * e)) d0 ∧ Rel E x y d1 ∧
      RelR E e (xs.drop (i + 1)) (ys.drop (i * e + e)) d2 ∧ c = cadd d0 (cadd d1 d2) := by
  have hsp := split_at hx
  rw [hsp] at h
  obtain ⟨a, b, d1, d2, rfl, h1, h2, rfl⟩ := relR_split h
  obtain ⟨a', b', d3, d4, rfl, h3, h4, rfl⟩ := relR_split h1
  obtain ⟨y, rfl, hs, hl, ho, h5⟩ := relR_one' h4
  have hla := relR_length h3
  have hi : i < xs.length := (List.getElem?_eq_some_iff.1 hx).1
  rw [List.length_take, Nat.min_eq_left (Nat.le_of_lt hi)] at hla
  have hy : y.cells.toList.length = e := by simpa using hs
  have e1 : (a' ++ y.cells.toList ++ b).take (i * e) = a' := by rw [List.append_assoc, ← hla, List.take_left]
  have e2 : (a' ++ y.cells.toList ++ b).drop (i * e + e) = b := by
    rw [show i * e + e = (a' ++ y.cells.toList).length by simp only [List.length_append, hla, hy], List.drop_left]
  refine ⟨y, d3, d4, d2, ?_, hs, hl, ho, by rw [e1]; exact h3, h5, by rw [e2]; exact h2, cadd_assoc _ _ _⟩
  rw [List.append_assoc, ← hla, List.drop_left, ← hy, List.take_left]
theorem relR_glue {E : Env} {e : Nat} {xs : List V} {p q : List Value} {d0 d1 d2 : Cnt} {i : Nat} {x x' : V} {y' : Value} (hx : xs[i]? = some x)
    (h0 : RelR E e (xs.take i) p d0) (hs : y'.cells.size = e) (hl : x'.cells.length = e) (ho : ones y'.cells.toList) (h1 : Rel E x' y' d1) (h2 : RelR E e (xs.drop (i + 1)) q d2) :
    RelR E e (xs.set i x') (p ++ y'.cells.toList ++ q) (cadd (cadd d0 d1) d2) := by
  rw [set_at hx]
  exact relR_append (relR_append h0 (relR_one hs hl ho h1)) h2
theorem storeE_cells {x z x' : V} {off : Nat} (h : storeE x off z = some x') :
    x'.cells = x.cells.take off ++ z.cells ++ x.cells.drop (off + z.cells.length) ∧ off + z.cells.length ≤ x.cells.length ∧ x'.cells.length = x.cells.length := by
  unfold storeE at h
  split at h
  · rename_i hh
    obtain ⟨rfl, hl⟩ := hh
    simp only [Option.some.injEq] at h; subst h
    refine ⟨?_, by omega, hl⟩
    simp [List.drop_eq_nil_of_le (Nat.le_of_eq hl.symm)]
  · split at h
    · rename_i hle
      simp only [Option.some.injEq] at h; subst h
      refine ⟨rfl, hle, ?_⟩
      show (x.cells.take off ++ z.cells ++ x.cells.drop (off + z.cells.length)).length = _
      simp only [List.length_append, List.length_take, List.length_drop]; omega
    · cases h
theorem rel_storeE {E : Env} {x z x' : V} {vz : Value} {ys : List Value} {off : Nat} {d0 dz d2 : Cnt} (h : storeE x off z = some x') (hz : Rel E z vz dz) (hzl : z.cells.length = vz.cells.size)
    (h0 : RelL E (x.cells.take off) (ys.take off) d0) (h2 : RelL E (x.cells.drop (off + z.cells.length)) (ys.drop (off + z.cells.length)) d2) :
    ∃ y' c', y'.cells.toList = splice ys off vz.cells.toList ∧ Rel E x' y' c' ∧ cle c' (cadd d0 (cadd dz d2)) := by
  unfold storeE at h
  split at h
  · rename_i hh
    obtain ⟨rfl, hl⟩ := hh
    simp only [Option.some.injEq] at h; subst h
    refine ⟨vz, dz, ?_, hz, fun b => by simp only [cadd]; omega⟩
    have hn : (ys.drop (0 + z.cells.length)).length = 0 := by rw [relL_length h2, List.length_drop]; omega
    simp only [splice, List.take_zero, List.nil_append, Array.length_toList]
    rw [← hzl, List.length_eq_zero_iff.1 hn, List.append_nil]
  · split at h
    · simp only [Option.some.injEq] at h; subst h
      have hc := rel_cells hz hzl
      have := relL_append (relL_append h0 hc) h2
      refine ⟨.agg (ys.take off ++ vz.cells.toList ++ ys.drop (off + z.cells.length)).toArray, _, ?_, rel_a this, ?_⟩
      · simp only [Value.cells, splice, Array.length_toList, hzl]
      · intro b; simp only [cadd]; omega
    · cases h
/-- a part of an element: what it is, and what is left of the element -/
theorem loadE_pieces {E : Env} {x : V} {y : Value} {cx : Cnt} {agg : Bool} {n off : Nat} {z : V} (hx : Rel E x y cx) (hl : x.cells.length = y.cells.size) (ho : ones y.cells.toList)
    (hz : loadE agg n x off = some z) :
    ∃ vz d0 d1 d2, Rel E z vz d1 ∧ z.cells.length = vz.cells.size ∧ off + z.cells.length ≤ x.cells.length ∧ vz.cells.toList = (y.cells.toList.drop off).take z.cells.length ∧
      RelL E (x.cells.take off) (y.cells.toList.take off) d0 ∧ RelL E (x.cells.drop (off + z.cells.length)) (y.cells.toList.drop (off + z.cells.length)) d2 ∧ cx = cadd d0 (cadd d1 d2) ∧
      (agg = true → z.cells.length = n ∧ vz = .agg ((y.cells.toList.drop off).take n).toArray) ∧ (agg = false → y.cells[off]? = some vz) := by
  have hc := rel_cells hx hl
  unfold loadE at hz
  cases agg with
  | true =>
    simp only [if_true] at hz
    split at hz
    · rename_i hh
      obtain ⟨rfl, hn, hA⟩ := hh
      simp only [Option.some.injEq] at hz; subst hz
      have hlen : y.cells.toList.length = x.cells.length := by simpa using hl.symm
      refine ⟨y, c0, cx, c0, hx, hl, by omega, ?_, by simp [RelL], ?_, by rw [c0_cadd, cadd_c0], fun _ => ⟨hn, ?_⟩, (fun h => nomatch h)⟩
      · simp only [List.drop_zero]; rw [List.take_of_length_le (by omega)]
      · rw [Nat.zero_add, List.drop_eq_nil_of_le (by omega), List.drop_eq_nil_of_le (by omega)]; simp [RelL]
      · cases x with
        | a cs =>
          simp only [Rel] at hx
          obtain ⟨vs, rfl, -⟩ := hx
          simp only [Value.cells, List.drop_zero] at hlen ⊢
          rw [List.take_of_length_le (by omega)]
        | _ => simp [V.isA] at hA
    · split at hz
      · rename_i hle
        simp only [Option.some.injEq] at hz; subst hz
        obtain ⟨d0, d1, d2, h0, h1, h2, rfl⟩ := relL_pieces hc off n hle
        have hzl : (V.a ((x.cells.drop off).take n)).cells.length = n := by
          show ((x.cells.drop off).take n).length = n
          simp only [List.length_take, List.length_drop]; omega
        have hyl : ((y.cells.toList.drop off).take n).length = n := by
          simp only [List.length_take, List.length_drop, Array.length_toList, ← hl]; omega
        refine ⟨.agg ((y.cells.toList.drop off).take n).toArray, d0, d1, d2, rel_a h1, ?_, by rw [hzl]; exact hle, by rw [hzl]; rfl, h0, by rw [hzl]; exact h2, rfl, fun _ => ⟨hzl, rfl⟩, (fun h => nomatch h)⟩
        rw [hzl]; simp only [Value.cells, List.size_toArray]; exact hyl.symm
      · cases hz
  | false =>
    simp only [Bool.false_eq_true, if_false] at hz
    have hlt : off < x.cells.length := (List.getElem?_eq_some_iff.1 hz).1
    obtain ⟨d0, d1, d2, h0, h1, h2, rfl⟩ := relL_pieces hc off 1 (by omega)
    have e1 : (x.cells.drop off).take 1 = [z] := by
      rw [List.take_one, List.head?_drop, hz]; rfl
    rw [e1] at h1
    obtain ⟨vz, e2, h3⟩ := relL_one' h1
    have h4 : y.cells.toList[off]? = some vz := by
      have := congrArg List.head? e2
      simpa [List.head?_take, List.head?_drop] using this
    have hone : vz.oneCell = true := ho vz (List.mem_of_getElem? h4)
    have hvz : vz.cells = #[vz] := cells_leaf (by cases vz <;> simp_all [Value.oneCell, aggB])
    have hzl : z.cells.length = 1 := by
      cases z with
      | a cs => simp only [Rel] at h3; obtain ⟨vs, rfl, -⟩ := h3; simp [Value.oneCell] at hone
      | _ => rfl
    refine ⟨vz, d0, d1, d2, h3, by rw [hvz, hzl]; rfl, by omega, by rw [hzl, e2, hvz], h0, by rw [hzl]; exact h2, rfl, (fun h => nomatch h), fun _ => by simpa using h4⟩
theorem splice_self {l : List Value} {o n : Nat} : splice l o ((l.drop o).take n) = l := by
  unfold splice
  rw [List.append_assoc]
  by_cases h : o + n ≤ l.length
  · have e : ((l.drop o).take n).length = n := by simp; omega
    rw [e, ← List.drop_drop, List.take_append_drop, List.take_append_drop]
  · have e : (l.drop o).take n = l.drop o := List.take_of_length_le (by simp; omega)
    have e2 : l.drop (o + (l.drop o).length) = [] := List.drop_eq_nil_of_le (by simp; omega)
    rw [e, e2, List.append_nil, List.take_append_drop]
theorem openL_length (d : Nat) : ∀ (xs : List V) (j : Nat), (openL d j xs).1.length = xs.length := by intro xs; induction xs <;> intro j <;> simp_all [openL]
theorem open1_cells (d j : Nat) (y : V) : (open1 d j y).1.cells.length = y.cells.length := by
  cases y with
  | a cs => simp only [open1, V.cells, openL_length]
  | o => rfl
  | b => rfl
  | f => rfl
  | v x => show (if zeroB (V.v x) then V.v x else .d).cells.length = _; split <;> rfl
  | p => rfl
  | s => rfl
  | q => rfl
  | i => rfl
  | n => rfl
  | t vs => show (if zeroB (V.t vs) then V.t vs else .d).cells.length = _; split <;> rfl
  | d => rfl

/-! names of memory -/
theorem killT_get {d : Nat} : ∀ {T : Mem} {k : Key} {ob : Ob}, (∀ k ob, (k, ob) ∈ T → k.1 ≠ d) → getK (killT d T) k = some ob → k.1 ≠ d
  | [], k, ob, hf, h => by simp [killT, getK] at h
  | (u, e, xs) :: r, k, ob, hf, h => by
    simp only [killT, getK] at h
    split at h
    · rename_i hu; subst hu; exact hf _ _ (List.mem_cons_self)
    · exact killT_get (fun k ob hk => hf k ob (List.mem_cons_of_mem _ hk)) h
theorem wipe_key {d : Nat} {st : St} {k : Key} {ob : Ob} (h : getK (wipe d st).T k = some ob) : k.1 ≠ d := killT_get (fun k ob hk => dropAt_free d hk) h

section
variable {P : Program} {N : Nat} {E : Env} {c : Cnt} {st st' : St} {a : Act} {d : Nat} {call : Call}
theorem adv_le {E E' : Env} {c c1 c' : Cnt} (h : Adv E c1 E' c') (hl : cle c1 c) : Adv E c E' c' :=
  ⟨h.sizes, h.os, h.tape, h.output, h.size, fun b hb hc => h.frame b hb (by have := hl b; omega), h.sub, fun b hb => (h.own b hb).imp (fun h => by have := hl b; omega) id,
    fun τ b hb => (h.imm τ b hb).imp id (fun h => h.imp (fun h => by have := hl b; omega) id)⟩
/-- a change of names alone -/
theorem adv_names {E E' : Env} {c c' : Cnt} (hw : E'.w = E.w) (hI : E'.I = E.I) (hl : cle c' c) : Adv E c E' c' := by
  refine ⟨fun b n h => by rw [hw]; exact h, by rw [hw], by rw [hw], by rw [hw], by rw [hw]; exact Nat.le_refl _, fun b _ _ => by rw [hw], fun τ b h => by rw [hI]; exact h, fun b h => .inl (by have := hl b; omega), fun τ b h => .inl (by rw [← hI]; exact h)⟩
theorem good_names {E E' : Env} {c c' : Cnt} (hw : E'.w = E.w) (hI : E'.I = E.I) (hl : cle c' c) (h : Good E c) : Good E' c' := by
  have := h.le hl
  exact ⟨this.one, fun τ b hb => by rw [hw]; exact this.imm τ b (by rw [← hI]; exact hb), fun b hb => by rw [hI] at *; exact this.sub b hb, fun b hb => by rw [hw]; exact this.bnd b hb⟩
theorem s_ld {p : Operand} {hp p' : AO} {t : TypeId} {agg : Bool} {n : Nat} (h1 : trO p hp = some p') (ht : tagT P t = some (agg, n))
    (hs : astep call st (.ld d agg n p') = some st') (h : FRel N E st a.tmps c) (hd : d < N) :
    Comes1 N E c st' a (some d) (Sem.run P (do pure (.value (← Instr.loadAt t (a.eval p)))) E.w) := by
  simp only [astep] at hs
  split at hs
  case h_2 => cases hs
  rename_i pv hpv
  have hp := ev_rel h.σ h1 hpv
  split at hs
  case h_2 => cases hs
  rename_i y hy
  split at hs
  · -- something owned comes to light
    rename_i hown
    split at hs
    case h_2 => cases hs
    rename_i y' hy'
    split at hs
    case h_2 => cases hs
    rename_i T' hT'
    simp only [Option.some.injEq] at hs; subst hs
    obtain ⟨c1, hσ1, hT1, hle1⟩ := wipe_rel d h.σ h.T
    -- the pointer
    unfold storeP at hT'
    split at hT'
    case h_2 => cases hT'
    rename_i k idx off
    split at hT'
    case h_2 => cases hT'
    rename_i ob hg
    split at hT'
    case h_2 => cases hT'
    rename_i x hx
    split at hT'
    case h_2 => cases hT'
    rename_i x' hst
    simp only [Option.some.injEq] at hT'; subst hT'
    simp only [loadP, hg, hx] at hy'
    have hkd := wipe_key hg
    have hp1 : Rel (E.drop d) (.p k idx off) (a.eval p) c0 := by
      have := rel_drop (d := d) hp
      simp only [killV, if_neg hkd] at this; exact this
    simp only [Rel] at hp1
    obtain ⟨-, b', base', e', lim', hμ', hpe⟩ := hp1
    obtain ⟨co, cr, hob, hrest, rfl⟩ := tRel_get hT1 hg
    rcases hob with ⟨⟨A0, hn1⟩, -⟩ | ⟨b, base, lim, cells, ty, fz, ce, hμ, hw, hl, hf, hs, hr, rfl⟩
    · rw [hn1] at hμ'; cases hμ'
    rw [hμ] at hμ'; cases hμ'
    obtain ⟨yv, d0, d1, d2, e1, hs1, hl1, ho1, hr0, hr1, hr2, rfl⟩ := relR_pieces hr hx
    obtain ⟨vz, f0, f1, f2, hz, hzl, hzle, hzc, hz0, hz2, rfl, hzT, hzF⟩ := loadE_pieces hr1 (by rw [hl1, hs1]) ho1 hy'
    obtain ⟨E2, cO, hn, hzz, hTO, hleO⟩ := open_1 (d := d) (j := 0) (fun i _ => drop_free E d i) hz
    have hcl := open1_cells d 0 y'
    have hidx : idx < ob.2.length := (List.getElem?_eq_some_iff.1 hx).1
    have hm : idx * ob.1 + ob.1 ≤ ob.2.length * ob.1 := by rw [← Nat.succ_mul]; exact Nat.mul_le_mul_right _ hidx
    have e2 : seg cells (base' + idx * ob.1) ob.1 = yv.cells.toList := by rw [← e1, seg_sub hm]
    -- the element again, under its new names
    obtain ⟨y2, cx, hy2, hx2, hlx⟩ := rel_storeE (E := E2) hst hzz (by rw [hcl]; exact hzl) (relL_mono hz0 (hn.mono _)) (by rw [hcl]; exact relL_mono hz2 (hn.mono _))
    have hy2' : y2.cells.toList = yv.cells.toList := by rw [hy2, hzc]; exact splice_self
    have hx'l := (storeE_cells hst).2.2
    have hR := relR_glue hx (relR_mono hr0 (hn.mono _)) (by rw [← Array.length_toList, hy2', Array.length_toList]; exact hs1) (by rw [hx'l]; exact hl1) (by rw [hy2']; exact ho1) hx2 (relR_mono hr2 (hn.mono _))
    have hseg : (seg cells base' (ob.2.length * ob.1)).take (idx * ob.1) ++ y2.cells.toList ++ (seg cells base' (ob.2.length * ob.1)).drop (idx * ob.1 + ob.1) = seg cells base' (ob.2.length * ob.1) := by
      rw [hy2', ← e1, List.append_assoc, ← List.drop_drop, List.take_append_drop, List.take_append_drop]
    rw [hseg] at hR
    have hO : ORel E2 k (ob.1, ob.2.set idx x') (cadd (delta b') (cadd (cadd d0 cx) d2)) :=
      .inr ⟨b', base', lim', cells, ty, fz, _, hn.hμ _ _ hμ, by rw [hn.hw]; exact hw, hl, hf, by simpa using hs, by simpa using hR, rfl⟩
    have hTT : TRel E2 ((open1 d 0 y').2.2 ++ ((k, ob.1, ob.2.set idx x') :: delK (wipe d st).T k)) (cadd cO (cadd (cadd (delta b') (cadd (cadd d0 cx) d2)) cr)) :=
      tRel_append hTO ⟨_, _, hO, tRel_mono hrest (hn.mono _), rfl⟩
    have hcle : cle (cadd cO (cadd (cadd (delta b') (cadd (cadd d0 cx) d2)) cr)) c := by
      intro z
      have q1 := hle1 z; have q2 := hleO z; have q3 := hlx z
      simp only [cadd, c0] at *; omega
    have hrun : (Instr.loadAt t (a.eval p)).run P E.w = .ok vz E.w := by
      unfold tagT at ht
      split at ht
      case h_2 => cases ht
      rename_i dd i hu hi
      simp only [Option.some.injEq, Prod.mk.injEq] at ht
      obtain ⟨rfl, rfl⟩ := ht
      rw [hpe]
      have hrun := run_loadVar (P := P) (w := E.w) (t := t) (o := base' + idx * ob.1 + off) hu hi hw
      simp only [Instr.loadAt, Instr.sureAddr, Sem.run_bind, Sem.run_pure, Result.andThen_ok]
      cases hag : aggD dd with
      | true =>
        obtain ⟨q1, q2⟩ := hzT hag
        have hlen : (seg cells (base' + idx * ob.1) ob.1).length = ob.1 := by rw [e2]; simpa using hs1
        simp only [seg, List.length_take, List.length_drop, Array.length_toList] at hlen
        rcases Nat.eq_zero_or_pos i.size with h0 | h0
        · rw [q2, h0]
          simp only [loadVar, Sem.run_bind, run_isAgg hu, hag, if_true, run_sizeOf hi, h0, loadCells, loadCellsFrom, Sem.run_pure, Result.andThen_ok]
          simp [Sem.run]
        · rw [q2, ← e2, seg_sub (by omega)]
          exact hrun.1 hag (by omega)
      | false =>
        have q1 := hzF hag
        have h8 : (seg cells (base' + idx * ob.1) ob.1)[off]? = some vz := by rw [e2]; simpa using q1
        exact hrun.2 hag vz (by simpa [Nat.add_assoc] using seg_get h8)
    simp only [Sem.run_bind, hrun, Result.andThen_ok, Sem.run_pure]
    refine ⟨E2, _, hn.hw, keeps_drop hn.hout, ⟨by simpa [Act.put] using h.sz, ?_, hTT, good_names hn.hw hn.hI hcle (h.g.drop d)⟩, (adv_names (E := E) hn.hw hn.hI hcle)⟩
    exact sRel_put (sRel_mono hσ1 (hn.mono _)) hzz (by rw [h.sz]; exact hd)
  · rename_i hz0
    simp only [Bool.not_eq_true, Bool.not_eq_false'] at hz0
    simp only [Option.some.injEq] at hs; subst hs
    obtain ⟨b, base, e, idx, off, xs, x, cells, ty, fz, cr, hpe, hw, hx, hz, hr⟩ := loadP_at h.T hp hy
    obtain ⟨v, hrun, hv⟩ := run_loadAt (P := P) (t := t) hw hx hz hr ht (by simpa using hz0)
    rw [hpe]
    simp only [Sem.run_bind, hrun, Result.andThen_ok, Sem.run_pure]
    exact (comes_put h hd hv).to1 h
theorem s_ldq {p : Operand} {hp p' : AO} {t : TypeId} {agg : Bool} {n : Nat} (h1 : trO p hp = some p') (ht : tagT P t = some (agg, n))
    (hs : astep call st (.ldq d agg n p') = some st') (h : FRel N E st a.tmps c) (hd : d < N) :
    ComesQ N E st st' (some d) (Sem.run P (do pure (.value (← Instr.loadAt t (a.eval p)))) E.w) := by
  simp only [astep] at hs
  split at hs
  case h_2 => cases hs
  rename_i pv hpv
  have hp := ev_rel h.σ h1 hpv
  split at hs
  case h_2 => cases hs
  rename_i y hy
  split at hs
  case isFalse => cases hs
  rename_i hz0
  simp only [Option.some.injEq] at hs; subst hs
  obtain ⟨b, base, e, idx, off, xs, x, cells, ty, fz, cr, hpe, hw, hx, hz, hr⟩ := loadP_at h.T hp hy
  obtain ⟨v, hrun, hv⟩ := run_loadAt (P := P) (t := t) hw hx hz hr ht hz0
  rw [hpe]
  simp only [Sem.run_bind, hrun, Result.andThen_ok, Sem.run_pure]
  exact comes_put h hd hv
end
end Go.Vm
