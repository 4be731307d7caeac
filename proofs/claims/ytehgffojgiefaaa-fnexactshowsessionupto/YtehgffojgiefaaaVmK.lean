import Derived.Test.YtehgffojgiefaaaVmJ
set_option autoImplicit false
set_option linter.unusedVariables false
set_option linter.unusedSimpArgs false
namespace Go.Vm

theorem splice_get {l : List Value} {o : Nat} {vs : List Value} (h : o + vs.length ≤ l.length) (j : Nat) :
    (splice l o vs)[j]? = if j < o then l[j]? else if j < o + vs.length then vs[j - o]? else l[j]? := by
  have hl : (l.take o).length = o := by simp; omega
  unfold splice
  split
  · rename_i h1
    rw [List.append_assoc, List.getElem?_append_left (by omega), List.getElem?_take, if_pos h1]
  · rename_i h1
    rw [List.append_assoc, List.getElem?_append_right (by omega), hl]
    split
    · rw [List.getElem?_append_left (by omega)]
    · rw [List.getElem?_append_right (by omega), List.getElem?_drop]
      congr 1; omega
theorem seg_splice {cells cells' : Array Value} {base n o : Nat} {vs : List Value} (h : cells'.toList = splice cells.toList (base + o) vs) (hn : o + vs.length ≤ n) (hb : base + n ≤ cells.size) :
    seg cells' base n = splice (seg cells base n) o vs := by
  have hl : (seg cells base n).length = n := seg_length hb
  have hsz : cells.toList.length = cells.size := Array.length_toList
  have hc : base + o + vs.length ≤ cells.toList.length := by omega
  apply List.ext_getElem?
  intro j
  rw [splice_get (by rw [hl]; exact hn)]
  simp only [seg, List.getElem?_take, List.getElem?_drop, h]
  rw [splice_get hc]
  by_cases hj : j < n
  · simp only [if_pos hj]
    by_cases h1 : j < o
    · rw [if_pos h1, if_pos (by omega)]
    · rw [if_neg h1, if_neg (by omega)]
      by_cases h2 : j < o + vs.length
      · rw [if_pos h2, if_pos (by omega)]; congr 1; omega
      · rw [if_neg h2, if_neg (by omega)]
  · simp only [if_neg hj]
    rw [if_neg (by omega), if_neg (by omega)]
theorem splice_app {A B C vs : List Value} {off : Nat} (h : off + vs.length ≤ B.length) : splice (A ++ (B ++ C)) (A.length + off) vs = A ++ splice B off vs ++ C := by
  have e1 : (A ++ (B ++ C)).take (A.length + off) = A ++ B.take off := by
    rw [List.take_append, List.take_of_length_le (by omega), Nat.add_sub_cancel_left, List.take_append_of_le_length (by omega)]
  have e2 : (A ++ (B ++ C)).drop (A.length + off + vs.length) = B.drop (off + vs.length) ++ C := by
    rw [Nat.add_assoc, List.drop_length_add_append, List.drop_append_of_le_length (by omega)]
  simp only [splice, e1, e2, List.append_assoc]
theorem splice_in {L : List Value} {i e off : Nat} {vs : List Value} (h : off + vs.length ≤ e) (hL : i * e + e ≤ L.length) :
    splice L (i * e + off) vs = L.take (i * e) ++ splice ((L.drop (i * e)).take e) off vs ++ L.drop (i * e + e) := by
  have h1 : ((L.drop (i * e)).take e).length = e := by simp; omega
  have h2 : (L.take (i * e)).length = i * e := by simp; omega
  have h3 : L = L.take (i * e) ++ ((L.drop (i * e)).take e ++ L.drop (i * e + e)) := by rw [← List.drop_drop, List.take_append_drop, List.take_append_drop]
  have := splice_app (A := L.take (i * e)) (B := (L.drop (i * e)).take e) (C := L.drop (i * e + e)) (vs := vs) (off := off) (by omega)
  rw [← h3, h2] at this
  exact this

section
variable {P : Program} {N : Nat} {E : Env} {c : Cnt} {st st' : St} {a : Act} {d : Nat} {call : Call}
theorem s_st {p x : Operand} {hp hx p' x' : AO} {t : TypeId} {n : Nat} (h1 : trO p hp = some p') (h2 : trO x hx = some x') (ht : (P.info? t).map (·.size) = some n)
    (hs : astep call st (.st n p' x') = some st') (h : FRel N E st a.tmps c) :
    Comes1 N E c st' a none (Sem.run P (do Instr.storeAt t (a.eval p) (a.eval x); pure .skip) E.w) := by
  simp only [astep] at hs
  split at hs
  case h_2 => cases hs
  rename_i pv yv hpv hyv
  have hp := ev_rel h.σ h1 hpv
  have hy := ev_rel h.σ h2 hyv
  split at hs
  case isFalse => cases hs
  rename_i hh
  obtain ⟨hyl, hyo⟩ := hh
  rw [Option.map_eq_some_iff] at hs
  obtain ⟨T', hT', rfl⟩ := hs
  obtain ⟨hyls, hyon⟩ := rel_ones hy hyo
  unfold storeP at hT'
  split at hT'
  case h_2 => cases hT'
  rename_i k idx off
  split at hT'
  case h_2 => cases hT'
  rename_i ob hg
  split at hT'
  case h_2 => cases hT'
  rename_i xe hx
  split at hT'
  case h_2 => cases hT'
  rename_i x'' hst
  simp only [Option.some.injEq] at hT'; subst hT'
  simp only [Rel] at hp
  obtain ⟨-, b', base', e', lim', hμ', hpe⟩ := hp
  obtain ⟨co, cr, hob, hrest, rfl⟩ := tRel_get h.T hg
  rcases hob with ⟨⟨A0, hn1⟩, -⟩ | ⟨b, base, lim, cells, ty, fz, ce, hμ, hw, hl, hf, hsz, hr, rfl⟩
  · rw [hn1] at hμ'; cases hμ'
  rw [hμ] at hμ'; cases hμ'
  obtain ⟨v, d0, d1, d2, e1, hs1, hl1, ho1, hr0, hr1, hr2, rfl⟩ := relR_pieces hr hx
  have hxl := rel_cells hr1 (by rw [hl1, hs1])
  obtain ⟨hsc, hsle, hsl⟩ := storeE_cells hst
  obtain ⟨f0, f1, f2, g0, g1, g2, rfl⟩ := relL_pieces hxl off yv.cells.length hsle
  have hidx : idx < ob.2.length := (List.getElem?_eq_some_iff.1 hx).1
  have hm : idx * ob.1 + ob.1 ≤ ob.2.length * ob.1 := by rw [← Nat.succ_mul]; exact Nat.mul_le_mul_right _ hidx
  have hvl : (a.eval x).cells.toList.length = yv.cells.length := (Array.length_toList).trans hyls.symm
  have hcl : cells.toList.length = cells.size := Array.length_toList
  -- the store
  have hrun := run_storeSeg (P := P) (b := b') (o := base' + idx * ob.1 + off) (a.eval x).cells.toList 0 E.w cells hw hf (by rw [hvl]; omega) hyon
  obtain ⟨w', cells', hrun, hW, hc'⟩ := hrun
  rw [Nat.add_zero] at hc'
  have hpresent : Instr.storeAt t (a.eval p) (a.eval x) = storeVar t ⟨b', base' + idx * ob.1 + off, none⟩ (a.eval x) := by rw [hpe]; rfl
  have hrun' : (Instr.storeAt t (a.eval p) (a.eval x)).run P E.w = .ok () w' := by
    rw [hpresent]
    rw [Option.map_eq_some_iff] at ht
    obtain ⟨i, hi, hin⟩ := ht
    simp only [storeVar, Sem.run_bind, run_sizeOf hi, Result.andThen_ok]
    rw [if_neg (by rw [hin, ← hyl, hyls]; simp)]
    exact hrun
  have hg := h.g
  have hg' : Good E (cadd (cadd (delta b') (cadd d0 (cadd (cadd f0 (cadd f1 f2)) d2))) cr) := hg
  obtain ⟨hmono, hσ', hgood, hadv⟩ := frel_write (N := N) (T' := []) h.σ hg' hW
  have hnewcells : cells'.size = cells.size := by
    rw [← Array.length_toList, hc', splice_length (by omega), hcl]
  have m1 : ∀ x : Cnt, cle x (cadd d0 (cadd (cadd f0 (cadd f1 f2)) d2)) → Mono E { E with w := w' } x := fun x hx => hmono x (cle_trans hx (cle_left _ _))
  have hy0 : Rel { E with w := w' } yv (a.eval x) c0 := rel_mono hy (m1 c0 (c0_le _))
  obtain ⟨y2, cx, hy2, hx2, hlx⟩ := rel_storeE (E := { E with w := w' }) hst hy0 hyls (relL_mono g0 (m1 f0 fun z => by simp only [cadd]; omega)) (relL_mono g2 (m1 f2 fun z => by simp only [cadd]; omega))
  have e2 : seg cells (base' + idx * ob.1) ob.1 = v.cells.toList := by rw [← e1, seg_sub hm]
  have hv : v.cells.toList.length = ob.1 := by rw [Array.length_toList]; exact hs1
  have hones : ones y2.cells.toList := by
    rw [hy2]
    intro z hz
    simp only [splice, List.mem_append] at hz
    rcases hz with (hz | hz) | hz
    · exact ho1 z (List.mem_of_mem_take hz)
    · exact hyon z hz
    · exact ho1 z (List.mem_of_mem_drop hz)
  have hy2l : y2.cells.size = ob.1 := by rw [← Array.length_toList, hy2, splice_length (by rw [hvl, hv]; omega), hv]
  have hR := relR_glue hx (relR_mono hr0 (m1 d0 fun z => by simp only [cadd]; omega)) hy2l (by rw [hsl]; exact hl1) hones hx2 (relR_mono hr2 (m1 d2 fun z => by simp only [cadd]; omega))
  have hlenS : (seg cells base' (ob.2.length * ob.1)).length = ob.2.length * ob.1 := seg_length (by omega)
  have hseg : (seg cells base' (ob.2.length * ob.1)).take (idx * ob.1) ++ y2.cells.toList ++ (seg cells base' (ob.2.length * ob.1)).drop (idx * ob.1 + ob.1) = seg cells' base' (ob.2.length * ob.1) := by
    have q := seg_splice (cells := cells) (cells' := cells') (base := base') (n := ob.2.length * ob.1) (o := idx * ob.1 + off) (vs := (a.eval x).cells.toList) (by rw [hc', Nat.add_assoc]) (by omega) (by omega)
    have q2 := splice_in (L := seg cells base' (ob.2.length * ob.1)) (i := idx) (e := ob.1) (off := off) (vs := (a.eval x).cells.toList) (by omega) (by rw [hlenS]; exact hm)
    rw [q, q2, e1, hy2]
  rw [hseg] at hR
  simp only [Sem.run_bind, hrun', Result.andThen_ok, Sem.run_pure]
  refine ⟨{ E with w := w' }, cadd (cadd (delta b') (cadd (cadd d0 cx) d2)) cr, rfl, Keeps.refl, ⟨by simpa [Act.put] using h.sz, ?_, ?_, ?_⟩, ?_⟩
  · simpa [Act.put] using hσ'
  · refine ⟨_, cr, .inr ⟨b', base', lim', cells', ty, fz, _, hμ, (hW.self _ _ _ hw).1, by omega, by rw [hnewcells]; exact hf, by simpa using hsz, by simpa using hR, rfl⟩, tRel_mono hrest (hmono cr (cle_right _ _)), rfl⟩
  · exact hgood.le fun z => by have := hlx z; simp only [cadd, c0] at *; omega
  · exact hadv.le fun z => by have := hlx z; simp only [cadd, c0] at *; omega

/-! ### what only reckons -/
theorem s_nilc {o : Oper} {x : Operand} {hx x' : AO} (ho : o.op = .nilCheck x) (h1 : trO x hx = some x') (hs : astep call st (.nilc d x') = some st') (h : FRel N E st a.tmps c) (hd : d < N) :
    ComesQ N E st st' (some d) ((execOp a.eval o).run P E.w) := by
  simp only [astep] at hs
  split at hs
  · rename_i hy
    have hr := ev_rel h.σ h1 hy
    simp only [Option.some.injEq] at hs; subst hs
    have hr' := hr
    simp only [Rel] at hr'
    obtain ⟨-, b, base, e, lim, -, he⟩ := hr'
    have key : (execOp a.eval o).run P E.w = .ok (.value (a.eval x)) E.w := by simp [execOp, ho, he]
    rw [key]; exact comes_put h hd hr
  · rename_i hy
    have hr := ev_rel h.σ h1 hy
    simp only [Option.some.injEq] at hs; subst hs
    have hr' := hr
    simp only [Rel] at hr'
    obtain ⟨-, b, base, e, cells, T, fz, -, -, he, -⟩ := hr'
    have key : (execOp a.eval o).run P E.w = .ok (.value (a.eval x)) E.w := by simp [execOp, ho, he]
    rw [key]; exact comes_put h hd hr
  · rename_i hy
    have hr := ev_rel h.σ h1 hy
    simp only [Option.some.injEq] at hs; subst hs
    have hr' := hr
    simp only [Rel] at hr'
    obtain ⟨fs, cs, c1, c2, he, -⟩ := hr'
    have key : (execOp a.eval o).run P E.w = .ok (.value (a.eval x)) E.w := by simp [execOp, ho, he]
    rw [key]; exact comes_put h hd hr
  · cases hs
theorem s_fa {x : Operand} {hx x' : AO} {s : TypeId} {f : Nat} {fl : Field} {n : Nat} (h1 : trO x hx = some x') (hf : fieldT P s f = some fl) (hn : (P.info? fl.type).map (·.size) = some n) (hn0 : n ≠ 0)
    (hs : astep call st (.fa d x' fl.offset) = some st') (h : FRel N E st a.tmps c) (hd : d < N) :
    ComesQ N E st st' (some d) (Sem.run P (do pure (.value (← Instr.fieldAt s (a.eval x) f))) E.w) := by
  have hrun : ∀ b o, a.eval x = .pointer (some ⟨b, o, none⟩) → Sem.run P (do pure (.value (← Instr.fieldAt s (a.eval x) f)) : Sem Next) E.w = .ok (.value (.pointer (some ⟨b, o + fl.offset, none⟩))) E.w := by
    intro b o he
    unfold fieldT at hf
    split at hf
    · rename_i fs hu
      rw [Option.map_eq_some_iff] at hn
      obtain ⟨i, hi, hin⟩ := hn
      simp only [he, Instr.fieldAt, Sem.run_bind, run_underlying hu, Result.andThen_ok, hf, Instr.sureAddr, Sem.run_pure, fieldPlace, run_sizeOf hi, hin]
      rw [if_neg (by simpa [hin] using hn0)]
      simp [add_none]
    · cases hf
  simp only [astep] at hs
  split at hs
  · rename_i k idx o hx
    simp only [Option.some.injEq] at hs; subst hs
    have hr := ev_rel h.σ h1 hx
    simp only [Rel] at hr
    obtain ⟨-, b, base, e, lim, hμ, he⟩ := hr
    rw [hrun _ _ he]
    refine comes_put h hd ?_
    simp only [Rel]; exact ⟨by trivial, b, base, e, lim, hμ, by simp [Nat.add_assoc]⟩
  · rename_i τ xs idx o hx
    simp only [Option.some.injEq] at hs; subst hs
    have hr := ev_rel h.σ h1 hx
    simp only [Rel] at hr
    obtain ⟨-, b, base, e, cells, T, fz, hI, hw, he, hR⟩ := hr
    rw [hrun _ _ he]
    refine comes_put h hd ?_
    simp only [Rel]; exact ⟨by trivial, b, base, e, cells, T, fz, hI, hw, by simp [Nat.add_assoc], hR⟩
  · cases hs
theorem s_ia {x i : Operand} {hx hi x' i' : AO} {t et : TypeId} {ei : TypeInfo} (h1 : trO x hx = some x') (h2 : trO i hi = some i') (ht : slT P t = some (et, ei))
    (hs : astep call st (.ia d ei.size x' i') = some st') (h : FRel N E st a.tmps c) (hd : d < N) :
    ComesQ N E st st' (some d) (Sem.run P (do pure (.value (← Instr.indexAt t (a.eval x) (a.eval i)))) E.w) := by
  simp only [astep] at hs
  split at hs
  case h_2 => cases hs
  rename_i xv k iv hxv hiv
  have hrx := ev_rel h.σ h1 hxv
  have hri := ev_rel h.σ h2 hiv
  simp only [Rel] at hri
  rw [Option.map_eq_some_iff] at hs
  obtain ⟨z, hz, rfl⟩ := hs
  unfold slT at ht
  split at ht
  case h_2 => cases ht
  rename_i e hu
  rw [Option.map_eq_some_iff] at ht
  obtain ⟨ei', hei, heq⟩ := ht
  simp only [Prod.mk.injEq] at heq
  obtain ⟨rfl, rfl⟩ := heq
  have hrun : ∀ A len cap, a.eval x = .slice (some A) len cap → 0 ≤ iv → iv < len → Sem.run P (do pure (.value (← Instr.indexAt t (a.eval x) (a.eval i))) : Sem Next) E.w = .ok (.value (.pointer (some (A.add (iv.toNat * ei'.size))))) E.w := by
    intro A len cap he h0 h1
    simp only [he, hri.1, Instr.indexAt, asIntOf, Sem.run_bind, Sem.run_pure, Result.andThen_ok, run_underlying hu]
    rw [if_pos ⟨h0, h1⟩]
    simp [run_sizeOf hei]
  unfold addrIx at hz
  split at hz
  · rename_i k lo len
    split at hz
    case h_2 => cases hz
    rename_i ob hg
    split at hz
    case isFalse => cases hz
    rename_i hh
    obtain ⟨he, hle⟩ := hh
    rw [Option.map_eq_some_iff] at hz
    obtain ⟨j, hj, rfl⟩ := hz
    unfold idx? at hj
    split at hj
    case isFalse => cases hj
    rename_i hb
    simp only [Option.some.injEq] at hj; subst hj
    simp only [Rel] at hrx
    obtain ⟨-, ⟨A0, -, -, h0, -⟩ | ⟨b, base, e', lim, cap, A, hμ, hcap, hroom, hpos, hA, hv⟩⟩ := hrx
    · subst h0; omega
    · rw [hrun _ _ _ hv hb.1 hb.2]
      obtain ⟨c1, c2, ho, -, -⟩ := tRel_get h.T hg
      have hee : e' = ei'.size := by
        rcases ho with ⟨⟨A0, q1⟩, -⟩ | ⟨b2, base2, lim2, cells, T, fz, c3, q1, -⟩
        · rw [q1] at hμ; cases hμ
        · rw [q1] at hμ; cases hμ; exact he
      have hA' : A = ⟨b, base + lo * e', none⟩ := by
        rcases hA with hA | hA
        · omega
        · exact hA
      refine comes_put h hd ?_
      rw [hA', add_none]
      simp only [Rel]
      refine ⟨by trivial, b, base, e', lim, hμ, ?_⟩
      rw [hee, Nat.add_zero, Nat.add_mul]; simp only [Nat.add_assoc]
  · rename_i τ xs
    split at hz
    case h_2 => cases hz
    rename_i j hj
    split at hz
    case isFalse => cases hz
    rename_i hcl
    simp only [Option.some.injEq] at hz; subst hz
    unfold idx? at hj
    split at hj
    case isFalse => cases hj
    rename_i hb
    simp only [Option.some.injEq] at hj; subst hj
    simp only [Rel] at hrx
    obtain ⟨-, A, cap, hv, hcap, hR⟩ := hrx
    rcases hR with hR | ⟨b, base, e', cells, T, fz, rfl, hI, hw, hR⟩
    · subst hR; simp only [List.length_nil] at hb; omega
    · have hjl : iv.toNat < xs.length := by omega
      rw [hrun _ _ _ hv hb.1 hb.2]
      obtain ⟨y, -, -, -, -, -, hl, -⟩ := relR_pieces hR (List.getElem?_eq_getElem hjl)
      have hee : e' = ei'.size := by rw [← hl, ← hcl, List.getElem?_eq_getElem hjl]; rfl
      refine comes_put h hd ?_
      rw [add_none]
      simp only [Rel]
      exact ⟨by trivial, b, base, e', cells, T, fz, hI, hw, by rw [hee, Nat.add_zero], hR⟩
  · cases hz
end
end Go.Vm
