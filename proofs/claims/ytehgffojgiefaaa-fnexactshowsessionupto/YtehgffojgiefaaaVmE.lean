import Derived.Test.YtehgffojgiefaaaVmD
set_option autoImplicit false
set_option linter.unusedVariables false
set_option linter.unusedSimpArgs false
namespace Go.Vm

/-! ### closing -/
theorem mapT_length (g : Mem → V → V × Mem) : ∀ (T : Mem) (xs : List V), (mapT g T xs).1.length = xs.length
  | T, [] => rfl
  | T, x :: xs => by simp [mapT, mapT_length g _ xs]
/-- what a closing step must do -/
def Closes (g : Mem → V → V × Mem) : Prop := ∀ (E : Env) (T : Mem) (x : V) (y : Value) (c1 c2 : Cnt), TRel E T c1 → Rel E x y c2 →
  ∃ d1 d2, TRel E (g T x).2 d1 ∧ Rel E.cl (g T x).1 y d2 ∧ cle (cadd d1 d2) (cadd c1 c2) ∧ ((g T x).1.cells.length = x.cells.length)
theorem relL_mapT {g : Mem → V → V × Mem} (hg : Closes g) {E : Env} : ∀ {xs : List V} {T : Mem} {ys : List Value} {c1 c2 : Cnt}, TRel E T c1 → RelL E xs ys c2 →
    ∃ d1 d2, TRel E (mapT g T xs).2 d1 ∧ RelL E.cl (mapT g T xs).1 ys d2 ∧ cle (cadd d1 d2) (cadd c1 c2)
  | [], T, ys, c1, c2, hT, h => ⟨c1, c2, hT, by simpa only [mapT, RelL] using h, cle_refl _⟩
  | x :: xs, T, ys, c1, c2, hT, h => by
    simp only [RelL] at h
    obtain ⟨y, ys', e1, e2, rfl, h1, h2, rfl⟩ := h
    obtain ⟨d1, d2, h3, h4, h5, -⟩ := hg E T x y c1 e1 hT h1
    obtain ⟨d3, d4, h6, h7, h8⟩ := relL_mapT hg h3 h2
    refine ⟨d3, cadd d2 d4, h6, ?_, ?_⟩
    · simp only [mapT, RelL]; exact ⟨y, ys', d2, d4, rfl, h4, h7, rfl⟩
    · intro b; have := h5 b; have := h8 b; simp only [cadd] at *; omega
theorem relR_mapT {g : Mem → V → V × Mem} (hg : Closes g) {E : Env} {e : Nat} : ∀ {xs : List V} {T : Mem} {ys : List Value} {c1 c2 : Cnt}, TRel E T c1 → RelR E e xs ys c2 →
    ∃ d1 d2, TRel E (mapT g T xs).2 d1 ∧ RelR E.cl e (mapT g T xs).1 ys d2 ∧ cle (cadd d1 d2) (cadd c1 c2)
  | [], T, ys, c1, c2, hT, h => ⟨c1, c2, hT, by simpa only [mapT, RelR] using h, cle_refl _⟩
  | x :: xs, T, ys, c1, c2, hT, h => by
    simp only [RelR] at h
    obtain ⟨y, ys', e1, e2, rfl, hs, hl, ho, h1, h2, rfl⟩ := h
    obtain ⟨d1, d2, h3, h4, h5, h9⟩ := hg E T x y c1 e1 hT h1
    obtain ⟨d3, d4, h6, h7, h8⟩ := relR_mapT hg h3 h2
    refine ⟨d3, cadd d2 d4, h6, ?_, ?_⟩
    · simp only [mapT, RelR]; exact ⟨y, ys', d2, d4, rfl, hs, by rw [h9]; exact hl, ho, h4, h7, rfl⟩
    · intro b; have := h5 b; have := h8 b; simp only [cadd] at *; omega
/-- the elements of an object -/
def closeEs (n : Nat) (T : Mem) (xs : List V) : List V × Mem := if clEs xs then (xs, T) else mapT (closeV n) T xs
theorem closeEs_length (n : Nat) (T : Mem) (xs : List V) : (closeEs n T xs).1.length = xs.length := by
  unfold closeEs; split
  · rfl
  · exact mapT_length _ _ _
theorem relR_closeEs {n : Nat} (hg : Closes (closeV n)) {E : Env} {e : Nat} {xs : List V} {T : Mem} {ys : List Value} {c1 c2 : Cnt} (hT : TRel E T c1) (h : RelR E e xs ys c2) :
    ∃ d1 d2, TRel E (closeEs n T xs).2 d1 ∧ RelR E.cl e (closeEs n T xs).1 ys d2 ∧ cle (cadd d1 d2) (cadd c1 c2) := by
  unfold closeEs; split
  · rename_i hc; exact ⟨c1, c2, hT, relR_cl h hc, cle_refl _⟩
  · exact relR_mapT hg hT h
theorem seg_sub {cells : Array Value} {base n a m : Nat} (h : a + m ≤ n) : ((seg cells base n).drop a).take m = seg cells (base + a) m := by
  simp only [seg, List.drop_take, List.take_take, List.drop_drop]
  congr 1
  omega
theorem seg_length {cells : Array Value} {base n : Nat} (h : base + n ≤ cells.size) : (seg cells base n).length = n := by
  simp [seg]; omega
theorem dead_rel (E : Env) (y : Value) : Rel E .d y c0 := by simp [Rel]
theorem closes_closeV : ∀ n, Closes (closeV n)
  | 0 => by
    intro E T x y c1 c2 hT h
    cases x with
    | a cs =>
      simp only [closeV]
      refine ⟨c1, c0, hT, ?_, fun b => by simp only [cadd, c0]; omega, by simp [V.cells]⟩
      simp only [Rel] at h ⊢
      obtain ⟨vs, rfl, h⟩ := h
      refine ⟨vs, rfl, ?_⟩
      have := relL_length h
      clear h
      generalize vs.toList = l at this
      induction cs generalizing l with
      | nil => cases l <;> simp_all [RelL]
      | cons x xs ih =>
        cases l with
        | nil => simp at this
        | cons z l =>
          simp only [List.map_cons, RelL]
          exact ⟨z, l, c0, c0, rfl, dead_rel _ _, ih l (by simpa using this), rfl⟩
    | _ =>
      simp only [closeV]
      exact ⟨c1, c0, hT, dead_rel _ _, fun b => by simp only [cadd, c0]; omega, by trivial⟩
  | n + 1 => by
    have hg := closes_closeV n
    intro E T x y c1 c2 hT h
    have hdead : ∃ d1 d2, TRel E T d1 ∧ Rel E.cl .d y d2 ∧ cle (cadd d1 d2) (cadd c1 c2) := ⟨c1, c0, hT, dead_rel _ _, fun b => by simp only [cadd, c0]; omega⟩
    cases x with
    | s k lo len =>
      have he : closeV (n + 1) T (.s k lo len) = (match getK T k with
        | none => (.d, T)
        | some ob => if lo + len ≤ ob.2.length then (.o ob.1 (((closeEs n (delK T k) ob.2).1.drop lo).take len), (closeEs n (delK T k) ob.2).2) else (.d, T)) := rfl
      rw [he]
      have hdead' : ∃ d1 d2, TRel E T d1 ∧ Rel E.cl .d y d2 ∧ cle (cadd d1 d2) (cadd c1 c2) ∧ V.d.cells.length = (V.s k lo len).cells.length :=
        let ⟨d1, d2, h1, h2, h3⟩ := hdead; ⟨d1, d2, h1, h2, h3, rfl⟩
      split
      · exact hdead'
      · rename_i ob hgk
        split
        case isFalse => exact hdead'
        rename_i hfull
        obtain ⟨a1, a2, ho, hD, rfl⟩ := tRel_get hT hgk
        simp only [Rel] at h
        obtain ⟨rfl, h⟩ := h
        rcases ho with ⟨⟨A0, h1⟩, h2, h3⟩ | ⟨b, base, lim, cells, Tt, fz, c3, hμ, hw, hl, hf, hs, hrr, rfl⟩
        · subst h3
          rcases h with ⟨A, -, rfl, rfl, rfl⟩ | ⟨b, base, e, lim, cap, A, hμ', -⟩
          · have hn : (closeEs n (delK T k) ob.2) = ([], delK T k) := by rw [h2]; rfl
            rw [hn]
            refine ⟨a2, c0, hD, ?_, fun b => by simp only [cadd, c0]; omega, rfl⟩
            simp [Rel]
          · rw [h1] at hμ'; cases hμ'
        · rcases h with ⟨A, h1, -⟩ | ⟨b', base', e, lim', cap, A, hμ', hle, hroom, hpos, hA, rfl⟩
          · rw [h1] at hμ; cases hμ
          · rw [hμ] at hμ'; cases hμ'
            obtain ⟨d1, d2, h4, h5, h6⟩ := relR_closeEs hg hD hrr
            obtain ⟨e1, e2, h7, h8, rfl⟩ := relR_take lo h5
            obtain ⟨e3, e4, h9, h10, rfl⟩ := relR_take len h8
            have hlen : (((closeEs n (delK T k) ob.2).1.drop lo).take len).length ≤ len := List.length_take_le _ _
            have hll := closeEs_length n (delK T k) ob.2
            have hlen' : (((closeEs n (delK T k) ob.2).1.drop lo).take len).length = len := by
              simp only [List.length_take, List.length_drop, hll]; omega
            rcases Nat.eq_zero_or_pos cap with hc0 | hcp
            · refine ⟨d1, c0, h4, ?_, ?_, rfl⟩
              · simp only [Rel]
                refine .inl ⟨List.length_eq_zero_iff.1 (by omega), ⟨some A, by rw [hc0, show len = 0 by omega]⟩, by trivial⟩
              · intro z; have := h6 z; simp only [cadd, c0] at *; omega
            refine ⟨d1, cadd (delta b) e3, h4, ?_, ?_, rfl⟩
            · simp only [Rel]
              have hA' : A = ⟨b, base + lo * ob.1, none⟩ := by
                rcases hA with hA | hA
                · omega
                · exact hA
              refine .inr ⟨b, base + lo * ob.1, cap, cells, Tt, fz, e3, by rw [hlen', hA'], hcp, by rw [hlen']; exact hle, ?_, hw, hf, ?_, rfl⟩
              · rw [hl]; have := Nat.add_mul lo cap ob.1; omega
              · rw [hlen']
                have hm : lo * ob.1 + len * ob.1 ≤ ob.2.length * ob.1 := by rw [← Nat.add_mul]; exact Nat.mul_le_mul_right _ hfull
                rwa [seg_sub hm] at h9
            · intro z; have := h6 z; simp only [cadd] at *; omega
    | p k idx off =>
      have he : closeV (n + 1) T (.p k idx off) = (match getK T k with
        | some (_, [x]) => if idx = 0 ∧ off = 0 then (.b ((closeEs n (delK T k) [x]).1.headD .d), (closeEs n (delK T k) [x]).2) else (.d, T)
        | _ => (.d, T)) := rfl
      rw [he]
      have hdead' : ∃ d1 d2, TRel E T d1 ∧ Rel E.cl .d y d2 ∧ cle (cadd d1 d2) (cadd c1 c2) ∧ V.d.cells.length = (V.p k idx off).cells.length :=
        let ⟨d1, d2, h1, h2, h3⟩ := hdead; ⟨d1, d2, h1, h2, h3, rfl⟩
      split
      · rename_i e0 x hgk
        split
        · rename_i hio
          obtain ⟨rfl, rfl⟩ := hio
          obtain ⟨a1, a2, ho, hD, rfl⟩ := tRel_get hT hgk
          simp only [Rel] at h
          obtain ⟨rfl, b', base', e', lim', hμ', rfl⟩ := h
          rcases ho with ⟨h1, h2, h3⟩ | ⟨b, base, lim, cells, Tt, fz, c3, hμ, hw, hl, hf, hs, hrr, rfl⟩
          · cases h2
          · rw [hμ] at hμ'; cases hμ'
            obtain ⟨d1, d2, h4, h5, h6⟩ := relR_closeEs hg hD hrr
            simp only [List.length_singleton, Nat.one_mul] at hs h5
            have hll := closeEs_length n (delK T k) [x]
            match hces : (closeEs n (delK T k) [x]).1, hll with
            | [x'], _ =>
              rw [hces] at h5
              obtain ⟨u, hu, hsz, hlx, hon, hR⟩ := relR_one' h5
              refine ⟨d1, cadd (delta b') d2, h4, ?_, ?_, rfl⟩
              · simp only [Rel, List.headD_cons]
                exact ⟨b', base', cells, Tt, fz, d2, u, by simp, by rw [hsz, hl]; exact hs, hw, hf, by rw [hsz]; exact hu.symm, by rw [hlx, hsz], hon, hR, rfl⟩
              · intro z; have := h6 z; simp only [cadd] at *; omega
        · exact hdead'
      · exact hdead'
    | f fn first caps =>
      simp only [closeV]
      simp only [Rel] at h
      obtain ⟨fs, cs, a1, a2, rfl, h1, h2, rfl⟩ := h
      obtain ⟨d1, d2, h3, h4, h5⟩ := relL_mapT hg hT h1
      obtain ⟨d3, d4, h6, h7, h8⟩ := relL_mapT hg h3 h2
      refine ⟨d3, cadd d2 d4, h6, ?_, ?_, rfl⟩
      · simp only [Rel]; exact ⟨fs, cs, d2, d4, rfl, h4, h7, rfl⟩
      · intro b; have := h5 b; have := h8 b; simp only [cadd] at *; omega
    | a cs =>
      simp only [closeV]
      simp only [Rel] at h
      obtain ⟨vs, rfl, h⟩ := h
      obtain ⟨d1, d2, h3, h4, h5⟩ := relL_mapT hg hT h
      exact ⟨d1, d2, h3, by simp only [Rel]; exact ⟨vs, rfl, h4⟩, h5, by simp [V.cells, mapT_length]⟩
    | t vs =>
      simp only [closeV]
      simp only [Rel] at h
      obtain ⟨ws, rfl, h⟩ := h
      obtain ⟨d1, d2, h3, h4, h5⟩ := relL_mapT hg hT h
      exact ⟨d1, d2, h3, by simp only [Rel]; exact ⟨ws, rfl, h4⟩, h5, rfl⟩
    | n e =>
      simp only [closeV]
      simp only [Rel] at h
      obtain ⟨rfl, rfl⟩ := h
      exact ⟨c1, c0, hT, by simp [Rel], cle_refl _, rfl⟩
    | v x => simp only [closeV]; exact ⟨c1, c2, hT, rel_cl h rfl, cle_refl _, by trivial⟩
    | q => simp only [closeV]; exact ⟨c1, c2, hT, rel_cl h rfl, cle_refl _, by trivial⟩
    | i => simp only [closeV]; exact ⟨c1, c2, hT, rel_cl h rfl, cle_refl _, by trivial⟩
    | o => simp only [closeV]; exact ⟨c1, c2, hT, rel_cl h rfl, cle_refl _, by trivial⟩
    | b => simp only [closeV]; exact ⟨c1, c2, hT, rel_cl h rfl, cle_refl _, by trivial⟩
    | d => simp only [closeV]; exact ⟨c1, c2, hT, by simpa only [Rel] using h, cle_refl _, by trivial⟩
end Go.Vm
