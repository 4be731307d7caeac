import Derived.Test.YtehgffojgiefaaaVmE
set_option autoImplicit false
set_option linter.unusedVariables false
set_option linter.unusedSimpArgs false
namespace Go.Vm

/-! ### frozen for good or for a while -/
structure Frozen (τ : Bool) (E E' : Env) (c : Cnt) : Prop where
  hw : E'.w = E.w
  hI : ∀ σ b, E.I σ b → E'.I σ b
  hc : ∀ b, c b ≠ 0 → E'.I τ b
theorem Frozen.left {τ : Bool} {E E' : Env} {c1 c2 : Cnt} (h : Frozen τ E E' (cadd c1 c2)) : Frozen τ E E' c1 :=
  ⟨h.hw, h.hI, fun b hb => h.hc b (by simp only [cadd]; omega)⟩
theorem Frozen.right {τ : Bool} {E E' : Env} {c1 c2 : Cnt} (h : Frozen τ E E' (cadd c1 c2)) : Frozen τ E E' c2 :=
  ⟨h.hw, h.hI, fun b hb => h.hc b (by simp only [cadd]; omega)⟩
theorem Frozen.cl {τ : Bool} {E E' : Env} {c : Cnt} (h : Frozen τ E E' c) : Frozen τ E.cl E'.cl c := ⟨h.hw, h.hI, h.hc⟩
theorem Frozen.mono0 {τ : Bool} {E E' : Env} {c : Cnt} (h : Frozen τ E E' c) : Mono E.cl E'.cl c0 :=
  ⟨fun σ b hb => ⟨h.hI σ b hb, by simp [Env.cl, h.hw]⟩, fun b hb => by simp [Env.cl, h.hw], fun k l hk => by simp [Env.cl] at hk⟩
theorem conv_cells (τ : Bool) (x : V) : (conv τ x).cells.length = x.cells.length := by
  have hL : ∀ xs, (convL τ xs).length = xs.length := by intro xs; induction xs <;> simp_all [convL]
  cases x <;> simp [conv, V.cells, hL]
theorem convL_length (τ : Bool) (xs : List V) : (convL τ xs).length = xs.length := by induction xs <;> simp_all [convL]
mutual
theorem rel_conv {τ : Bool} : ∀ {x : V} {E E' : Env} {y : Value} {c : Cnt}, Rel E.cl x y c → Frozen τ E E' c → Rel E'.cl (conv τ x) y c0
  | .v x, E, E', y, c, h, fr => by simp only [Rel, conv] at h ⊢; exact ⟨h.1, h.2.1, trivial⟩
  | .p .., E, E', y, c, h, fr => by simp only [Rel] at h; obtain ⟨-, b, base, e, lim, hμ, -⟩ := h; simp [Env.cl] at hμ
  | .s .., E, E', y, c, h, fr => by
    simp only [Rel] at h; obtain ⟨-, ⟨A, hμ, -⟩ | ⟨b, base, e, lim, cap, A, hμ, -⟩⟩ := h <;> simp [Env.cl] at hμ
  | .q .., E, E', y, c, h, fr => by
    have h0 : c = c0 := by simp only [Rel] at h; exact h.1
    subst h0; exact rel_mono h fr.mono0
  | .i .., E, E', y, c, h, fr => by
    have h0 : c = c0 := by simp only [Rel] at h; exact h.1
    subst h0; exact rel_mono h fr.mono0
  | .o e xs, E, E', y, c, h, fr => by
    simp only [Rel, conv] at h ⊢
    refine ⟨trivial, ?_⟩
    rcases h with ⟨rfl, ⟨A, rfl⟩, rfl⟩ | ⟨b, base, cap, cells, T, fz, c1, rfl, hA, hle, hs, hw, hf, hr, rfl⟩
    · exact ⟨A, 0, by simp [convL], by simp [convL], .inl (by simp [convL])⟩
    · refine ⟨some ⟨b, base, none⟩, cap, by rw [convL_length], by rw [convL_length]; exact hle, ?_⟩
      · refine .inr ⟨b, base, e, cells, T, fz, rfl, fr.hc b (by simp [cadd, delta]), by simp only [Env.cl] at hw ⊢; rw [fr.hw]; exact hw, ?_⟩
        rw [convL_length]
        exact relR_conv hr fr.right.cl
  | .n e, E, E', y, c, h, fr => by
    simp only [Rel, conv] at h ⊢
    obtain ⟨rfl, rfl⟩ := h
    exact ⟨trivial, none, 0, rfl, Nat.le_refl _, .inl trivial⟩
  | .b x, E, E', y, c, h, fr => by
    simp only [Rel, conv] at h ⊢
    obtain ⟨b, base, cells, T, fz, c1, z, rfl, hle, hw, hf, hz, hl, ho, hr, rfl⟩ := h
    refine ⟨trivial, b, base, z.cells.size, cells, T, fz, fr.hc b (by simp [cadd, delta]), by simp only [Env.cl] at hw ⊢; rw [fr.hw]; exact hw, by simp, ?_⟩
    simp only [List.length_singleton, Nat.one_mul]
    rw [← hz]
    exact relR_one rfl (by rw [conv_cells]; exact hl) ho (rel_conv hr fr.right.cl)
  | .f fn first caps, E, E', y, c, h, fr => by
    simp only [Rel, conv] at h ⊢
    obtain ⟨fs, cs, c1, c2, rfl, h1, h2, rfl⟩ := h
    exact ⟨fs, cs, c0, c0, rfl, relL_conv h1 fr.left, relL_conv h2 fr.right, rfl⟩
  | .a cs, E, E', y, c, h, fr => by
    simp only [Rel, conv] at h ⊢
    obtain ⟨vs, rfl, h⟩ := h
    exact ⟨vs, rfl, relL_conv h fr⟩
  | .t cs, E, E', y, c, h, fr => by
    simp only [Rel, conv] at h ⊢
    obtain ⟨vs, rfl, h⟩ := h
    exact ⟨vs, rfl, relL_conv h fr⟩
  | .d, E, E', y, c, h, fr => by simp [Rel, conv]
theorem relL_conv {τ : Bool} : ∀ {xs : List V} {E E' : Env} {ys : List Value} {c : Cnt}, RelL E.cl xs ys c → Frozen τ E E' c → RelL E'.cl (convL τ xs) ys c0
  | [], E, E', ys, c, h, fr => by simp only [RelL, convL] at h ⊢; exact ⟨h.1, trivial⟩
  | x :: xs, E, E', ys, c, h, fr => by
    simp only [RelL, convL] at h ⊢
    obtain ⟨y, t, c1, c2, rfl, h1, h2, rfl⟩ := h
    exact ⟨y, t, c0, c0, rfl, rel_conv h1 fr.left, relL_conv h2 fr.right, rfl⟩
theorem relR_conv {τ : Bool} : ∀ {xs : List V} {E E' : Env} {e : Nat} {ys : List Value} {c : Cnt}, RelR E.cl e xs ys c → Frozen τ E E' c → RelR E'.cl e (convL τ xs) ys c0
  | [], E, E', e, ys, c, h, fr => by simp only [RelR, convL] at h ⊢; exact ⟨h.1, trivial⟩
  | x :: xs, E, E', e, ys, c, h, fr => by
    simp only [RelR, convL] at h ⊢
    obtain ⟨y, t, c1, c2, rfl, hs, hl, ho, h1, h2, rfl⟩ := h
    exact ⟨y, t, c0, c0, rfl, hs, by rw [conv_cells]; exact hl, ho, rel_conv h1 fr.left, relR_conv h2 fr.right, rfl⟩
end

/-- only what is frozen for good counts -/
structure Forget (E E' : Env) : Prop where
  hw : E'.w = E.w
  hI : ∀ b, E.I false b → E'.I false b
theorem Forget.cl {E E' : Env} (h : Forget E E') : Forget E.cl E'.cl := ⟨h.hw, h.hI⟩
mutual
theorem rel_forget : ∀ {x : V} {E E' : Env} {y : Value} {c : Cnt}, Rel E x y c → noTag x = true → Forget E E' → Rel E' x y c
  | .v x, E, E', y, c, h, hn, fr => by simpa only [Rel] using h
  | .p .., E, E', y, c, h, hn, fr => by simp [noTag] at hn
  | .s .., E, E', y, c, h, hn, fr => by simp [noTag] at hn
  | .q τ xs idx off, E, E', y, c, h, hn, fr => by
    simp only [noTag, Bool.and_eq_true, Bool.not_eq_true'] at hn
    obtain ⟨rfl, hn⟩ := hn
    simp only [Rel] at h ⊢
    obtain ⟨h0, b, base, e, cells, T, fz, hI, hw, hy, hr⟩ := h
    exact ⟨h0, b, base, e, cells, T, fz, fr.hI b hI, by rw [fr.hw]; exact hw, hy, relR_forget hr hn fr.cl⟩
  | .i τ xs, E, E', y, c, h, hn, fr => by
    simp only [noTag, Bool.and_eq_true, Bool.not_eq_true'] at hn
    obtain ⟨rfl, hn⟩ := hn
    simp only [Rel] at h ⊢
    obtain ⟨h0, A, cap, hy, hle, h⟩ := h
    refine ⟨h0, A, cap, hy, hle, ?_⟩
    rcases h with h | ⟨b, base, e, cells, T, fz, hA, hI, hw, hr⟩
    · exact .inl h
    · exact .inr ⟨b, base, e, cells, T, fz, hA, fr.hI b hI, by rw [fr.hw]; exact hw, relR_forget hr hn fr.cl⟩
  | .o e xs, E, E', y, c, h, hn, fr => by
    simp only [noTag] at hn
    simp only [Rel] at h ⊢
    rcases h with h | ⟨b, base, cap, cells, T, fz, c1, hy, hA, hle, hs, hw, hf, hr, rfl⟩
    · exact .inl h
    · exact .inr ⟨b, base, cap, cells, T, fz, c1, hy, hA, hle, hs, by rw [fr.hw]; exact hw, hf, relR_forget hr hn fr.cl, rfl⟩
  | .n e, E, E', y, c, h, hn, fr => by simpa only [Rel] using h
  | .b x, E, E', y, c, h, hn, fr => by
    simp only [noTag] at hn
    simp only [Rel] at h ⊢
    obtain ⟨b, base, cells, T, fz, c1, z, hy, hle, hw, hf, hz, hl, ho, hr, rfl⟩ := h
    exact ⟨b, base, cells, T, fz, c1, z, hy, hle, by rw [fr.hw]; exact hw, hf, hz, hl, ho, rel_forget hr hn fr.cl, rfl⟩
  | .f fn first caps, E, E', y, c, h, hn, fr => by
    simp only [noTag, Bool.and_eq_true] at hn
    simp only [Rel] at h ⊢
    obtain ⟨fs, cs, c1, c2, hy, h1, h2, rfl⟩ := h
    exact ⟨fs, cs, c1, c2, hy, relL_forget h1 hn.1 fr, relL_forget h2 hn.2 fr, rfl⟩
  | .a cs, E, E', y, c, h, hn, fr => by
    simp only [noTag] at hn
    simp only [Rel] at h ⊢
    obtain ⟨vs, hy, h⟩ := h
    exact ⟨vs, hy, relL_forget h hn fr⟩
  | .t cs, E, E', y, c, h, hn, fr => by
    simp only [noTag] at hn
    simp only [Rel] at h ⊢
    obtain ⟨vs, hy, h⟩ := h
    exact ⟨vs, hy, relL_forget h hn fr⟩
  | .d, E, E', y, c, h, hn, fr => by simpa only [Rel] using h
theorem relL_forget : ∀ {xs : List V} {E E' : Env} {ys : List Value} {c : Cnt}, RelL E xs ys c → noTagL xs = true → Forget E E' → RelL E' xs ys c
  | [], E, E', ys, c, h, hn, fr => by simpa only [RelL] using h
  | x :: xs, E, E', ys, c, h, hn, fr => by
    simp only [noTagL, Bool.and_eq_true] at hn
    simp only [RelL] at h ⊢
    obtain ⟨y, t, c1, c2, hy, h1, h2, rfl⟩ := h
    exact ⟨y, t, c1, c2, hy, rel_forget h1 hn.1 fr, relL_forget h2 hn.2 fr, rfl⟩
theorem relR_forget : ∀ {xs : List V} {E E' : Env} {e : Nat} {ys : List Value} {c : Cnt}, RelR E e xs ys c → noTagL xs = true → Forget E E' → RelR E' e xs ys c
  | [], E, E', e, ys, c, h, hn, fr => by simpa only [RelR] using h
  | x :: xs, E, E', e, ys, c, h, hn, fr => by
    simp only [noTagL, Bool.and_eq_true] at hn
    simp only [RelR] at h ⊢
    obtain ⟨y, t, c1, c2, hy, hs, hl, ho, h1, h2, rfl⟩ := h
    exact ⟨y, t, c1, c2, hy, hs, hl, ho, rel_forget h1 hn.1 fr, relR_forget h2 hn.2 fr, rfl⟩
end

/-! ### what holds nothing owned -/
mutual
theorem rel_zero : ∀ {x : V} {E : Env} {y : Value} {c : Cnt}, Rel E x y c → zeroB x = true → c = c0
  | .v x, E, y, c, h, hz => by simp only [Rel] at h; exact h.2.2
  | .p .., E, y, c, h, hz => by simp only [Rel] at h; exact h.1
  | .s .., E, y, c, h, hz => by simp only [Rel] at h; exact h.1
  | .q .., E, y, c, h, hz => by simp only [Rel] at h; exact h.1
  | .i .., E, y, c, h, hz => by simp only [Rel] at h; exact h.1
  | .o .., E, y, c, h, hz => by simp [zeroB] at hz
  | .b .., E, y, c, h, hz => by simp [zeroB] at hz
  | .n .., E, y, c, h, hz => by simp only [Rel] at h; exact h.2
  | .f fn first caps, E, y, c, h, hz => by
    simp only [zeroB, Bool.and_eq_true] at hz
    simp only [Rel] at h
    obtain ⟨fs, cs, c1, c2, -, h1, h2, rfl⟩ := h
    rw [relL_zero h1 hz.1, relL_zero h2 hz.2]; rfl
  | .a cs, E, y, c, h, hz => by
    simp only [zeroB] at hz; simp only [Rel] at h
    obtain ⟨vs, -, h⟩ := h; exact relL_zero h hz
  | .t cs, E, y, c, h, hz => by
    simp only [zeroB] at hz; simp only [Rel] at h
    obtain ⟨vs, -, h⟩ := h; exact relL_zero h hz
  | .d, E, y, c, h, hz => by simpa only [Rel] using h
theorem relL_zero : ∀ {xs : List V} {E : Env} {ys : List Value} {c : Cnt}, RelL E xs ys c → zeroBL xs = true → c = c0
  | [], E, ys, c, h, hz => by simp only [RelL] at h; exact h.2
  | x :: xs, E, ys, c, h, hz => by
    simp only [zeroBL, Bool.and_eq_true] at hz
    simp only [RelL] at h
    obtain ⟨y, t, c1, c2, -, h1, h2, rfl⟩ := h
    rw [rel_zero h1 hz.1, relL_zero h2 hz.2]; rfl
end
theorem relR_zero {E : Env} {e : Nat} : ∀ {xs : List V} {ys : List Value} {c : Cnt}, RelR E e xs ys c → zeroBL xs = true → c = c0
  | [], ys, c, h, hz => by simp only [RelR] at h; exact h.2
  | x :: xs, ys, c, h, hz => by
    simp only [zeroBL, Bool.and_eq_true] at hz
    simp only [RelR] at h
    obtain ⟨y, t, c1, c2, -, -, -, -, h1, h2, rfl⟩ := h
    rw [rel_zero h1 hz.1, relR_zero h2 hz.2]; rfl

/-! ### opening -/
/-- more names at d from j on -/
structure Names (d j j' : Nat) (E E' : Env) : Prop where
  hw : E'.w = E.w
  hI : E'.I = E.I
  hμ : ∀ k l, E.μ k = some l → E'.μ k = some l
  hout : ∀ k : Key, k.1 ≠ d → E'.μ k = E.μ k
  hfree : ∀ i, j' ≤ i → E'.μ (d, i) = none
  hjj : j ≤ j'
theorem Names.mono {d j j' : Nat} {E E' : Env} (h : Names d j j' E E') (c : Cnt) : Mono E E' c :=
  ⟨fun τ b hb => ⟨by rw [h.hI]; exact hb, by rw [h.hw]⟩, fun b _ => by rw [h.hw], h.hμ⟩
theorem Names.cl {d j j' : Nat} {E E' : Env} (h : Names d j j' E E') : E'.cl = E.cl := by
  obtain ⟨w, I, μ⟩ := E; obtain ⟨w', I', μ'⟩ := E'
  have := h.hw; have := h.hI
  simp_all [Env.cl]
theorem Names.trans {d j j' j'' : Nat} {E E' E'' : Env} (h : Names d j j' E E') (h' : Names d j' j'' E' E'') : Names d j j'' E E'' :=
  ⟨by rw [h'.hw, h.hw], by rw [h'.hI, h.hI], fun k l hk => h'.hμ k l (h.hμ k l hk), fun k hk => by rw [h'.hout k hk, h.hout k hk], h'.hfree, Nat.le_trans h.hjj h'.hjj⟩
theorem Names.refl {d j : Nat} {E : Env} (h : ∀ i, j ≤ i → E.μ (d, i) = none) : Names d j j E E := ⟨rfl, rfl, fun _ _ h => h, fun _ _ => rfl, h, Nat.le_refl _⟩
def Env.name (E : Env) (k : Key) (l : Loc) : Env := { E with μ := fun k' => if k' = k then some l else E.μ k' }
theorem names_one {d j : Nat} {E : Env} (h : ∀ i, j ≤ i → E.μ (d, i) = none) (l : Loc) : Names d j (j + 1) E (E.name (d, j) l) := by
  refine ⟨rfl, rfl, fun k l' hk => ?_, fun k hk => ?_, fun i hi => ?_, by omega⟩
  · simp only [Env.name]; split
    · rename_i e; subst e; rw [h j (Nat.le_refl _)] at hk; cases hk
    · exact hk
  · simp only [Env.name]; rw [if_neg]; rintro rfl; exact hk rfl
  · simp only [Env.name]; rw [if_neg (by simp; omega)]; exact h i (by omega)
theorem Env.name_cl (E : Env) (k : Key) (l : Loc) : (E.name k l).cl = E.cl := rfl
theorem open_X {d j : Nat} {E : Env} (hf : ∀ i, j ≤ i → E.μ (d, i) = none) {x : V} {y : Value} {c : Cnt} (h : Rel E x y c) :
    ∃ E' c', Names d j (openX d j x).2.1 E E' ∧ Rel E' (openX d j x).1 y c0 ∧ TRel E' (openX d j x).2.2 c' ∧ cle c' c := by
  have hother : ∀ z : V, z = x → openX d j x = (if zeroB z then z else .d, j, []) →
      ∃ E' c', Names d j (openX d j x).2.1 E E' ∧ Rel E' (openX d j x).1 y c0 ∧ TRel E' (openX d j x).2.2 c' ∧ cle c' c := by
    rintro z rfl he
    rw [he]
    refine ⟨E, c0, Names.refl hf, ?_, rfl, fun _ => Nat.zero_le _⟩
    simp only
    split
    · rename_i hz
      have := rel_zero h hz; subst this
      exact h
    · exact dead_rel _ _
  cases x with
  | o e xs =>
    simp only [Rel] at h
    rcases h with ⟨rfl, ⟨A, rfl⟩, rfl⟩ | ⟨b, base, cap, cells, T, fz, c1, rfl, hA, hle, hs, hw, hfz, hr, rfl⟩
    · refine ⟨E.name (d, j) (.emp A), c0, names_one hf _, ?_, ?_, cle_refl _⟩
      · simp only [openX, Rel]; exact ⟨trivial, .inl ⟨A, by simp [Env.name], trivial, by trivial, by trivial⟩⟩
      · simp only [openX, TRel]; exact ⟨c0, c0, .inl ⟨⟨A, by simp [Env.name]⟩, rfl, rfl⟩, rfl, rfl⟩
    · refine ⟨E.name (d, j) (.at b base e cells.size), cadd (delta b) c1, names_one hf _, ?_, ?_, cle_refl _⟩
      · simp only [openX, Rel]
        exact ⟨by trivial, .inr ⟨b, base, e, cells.size, cap, _, by simp [Env.name], hle, by simpa using hs, fun _ => hA, .inr (by simp), rfl⟩⟩
      · simp only [openX, TRel]
        refine ⟨cadd (delta b) c1, c0, .inr ⟨b, base, cells.size, cells, T, fz, c1, by simp [Env.name], hw, rfl, hfz, ?_, ?_, rfl⟩, rfl, rfl⟩
        · exact Nat.le_trans (Nat.add_le_add_left (Nat.mul_le_mul_right _ hle) _) hs
        · exact relR_mono hr (mono_cl (E.name (d, j) (.at b base e cells.size)) c1)
  | b x =>
    simp only [Rel] at h
    obtain ⟨b, base, cells, T, fz, c1, z, rfl, hle, hw, hfz, hz, hl, ho, hr, rfl⟩ := h
    refine ⟨E.name (d, j) (.at b base x.cells.length cells.size), cadd (delta b) c1, names_one hf _, ?_, ?_, cle_refl _⟩
    · simp only [openX, Rel]; exact ⟨by trivial, b, base, x.cells.length, cells.size, by simp [Env.name], by simp⟩
    · simp only [openX, TRel]
      refine ⟨cadd (delta b) c1, c0, .inr ⟨b, base, cells.size, cells, T, fz, c1, by simp [Env.name], hw, rfl, hfz, by simpa [hl] using hle, ?_, rfl⟩, rfl, rfl⟩
      simp only [List.length_singleton, Nat.one_mul, hl]
      rw [← hz]
      exact relR_one rfl hl ho (rel_mono hr (mono_cl (E.name (d, j) (.at b base z.cells.size cells.size)) c1))
  | _ => exact hother _ rfl rfl
theorem open_L {d : Nat} : ∀ {xs : List V} {j : Nat} {E : Env} {ys : List Value} {c : Cnt}, (∀ i, j ≤ i → E.μ (d, i) = none) → RelL E xs ys c →
    ∃ E' c', Names d j (openL d j xs).2.1 E E' ∧ RelL E' (openL d j xs).1 ys c0 ∧ TRel E' (openL d j xs).2.2 c' ∧ cle c' c
  | [], j, E, ys, c, hf, h => by
    simp only [RelL] at h
    exact ⟨E, c0, Names.refl hf, by simp only [openL, RelL]; exact ⟨h.1, by trivial⟩, rfl, fun _ => Nat.zero_le _⟩
  | x :: xs, j, E, ys, c, hf, h => by
    simp only [RelL] at h
    obtain ⟨y, t, c1, c2, rfl, h1, h2, rfl⟩ := h
    obtain ⟨E1, d1, hn1, hr1, ht1, hl1⟩ := open_X hf h1
    replace h2 := relL_mono h2 (hn1.mono _)
    obtain ⟨E2, d2, hn2, hr2, ht2, hl2⟩ := open_L hn1.hfree h2
    refine ⟨E2, cadd d1 d2, hn1.trans hn2, ?_, ?_, cle_add hl1 hl2⟩
    · simp only [openL, RelL]
      exact ⟨y, t, c0, c0, rfl, rel_mono hr1 (hn2.mono _), hr2, rfl⟩
    · simp only [openL]
      exact tRel_append (tRel_mono ht1 (hn2.mono _)) ht2
theorem open_1 {d j : Nat} {E : Env} (hf : ∀ i, j ≤ i → E.μ (d, i) = none) {x : V} {y : Value} {c : Cnt} (h : Rel E x y c) :
    ∃ E' c', Names d j (open1 d j x).2.1 E E' ∧ Rel E' (open1 d j x).1 y c0 ∧ TRel E' (open1 d j x).2.2 c' ∧ cle c' c := by
  cases x with
  | a cs =>
    simp only [Rel] at h
    obtain ⟨vs, rfl, h⟩ := h
    obtain ⟨E', c', h1, h2, h3, h4⟩ := open_L hf h
    exact ⟨E', c', h1, by simp only [open1, Rel]; exact ⟨vs, rfl, h2⟩, h3, h4⟩
  | f fn first caps =>
    simp only [Rel] at h
    obtain ⟨fs, cs, c1, c2, rfl, h1, h2, rfl⟩ := h
    obtain ⟨E1, d1, hn1, hr1, ht1, hl1⟩ := open_L hf h1
    replace h2 := relL_mono h2 (hn1.mono _)
    obtain ⟨E2, d2, hn2, hr2, ht2, hl2⟩ := open_L hn1.hfree h2
    refine ⟨E2, cadd d1 d2, hn1.trans hn2, ?_, ?_, cle_add hl1 hl2⟩
    · simp only [open1, Rel]
      exact ⟨fs, cs, c0, c0, rfl, relL_mono hr1 (hn2.mono _), hr2, rfl⟩
    · simp only [open1]
      exact tRel_append (tRel_mono ht1 (hn2.mono _)) ht2
  | _ => exact open_X hf h
theorem open_L1 {d : Nat} : ∀ {xs : List V} {j : Nat} {E : Env} {ys : List Value} {c : Cnt}, (∀ i, j ≤ i → E.μ (d, i) = none) → RelL E xs ys c →
    ∃ E' c', Names d j (openL1 d j xs).2.1 E E' ∧ RelL E' (openL1 d j xs).1 ys c0 ∧ TRel E' (openL1 d j xs).2.2 c' ∧ cle c' c
  | [], j, E, ys, c, hf, h => by
    simp only [RelL] at h
    exact ⟨E, c0, Names.refl hf, by simp only [openL1, RelL]; exact ⟨h.1, by trivial⟩, rfl, fun _ => Nat.zero_le _⟩
  | x :: xs, j, E, ys, c, hf, h => by
    simp only [RelL] at h
    obtain ⟨y, t, c1, c2, rfl, h1, h2, rfl⟩ := h
    obtain ⟨E1, d1, hn1, hr1, ht1, hl1⟩ := open_1 hf h1
    replace h2 := relL_mono h2 (hn1.mono _)
    obtain ⟨E2, d2, hn2, hr2, ht2, hl2⟩ := open_L1 hn1.hfree h2
    refine ⟨E2, cadd d1 d2, hn1.trans hn2, ?_, ?_, cle_add hl1 hl2⟩
    · simp only [openL1, RelL]
      exact ⟨y, t, c0, c0, rfl, rel_mono hr1 (hn2.mono _), hr2, rfl⟩
    · simp only [openL1]
      exact tRel_append (tRel_mono ht1 (hn2.mono _)) ht2
theorem open_V {d : Nat} {E : Env} (hf : ∀ i, E.μ (d, i) = none) {x : V} {y : Value} {c : Cnt} (h : Rel E x y c) :
    ∃ E' c' j', Names d 0 j' E E' ∧ Rel E' (openV d x).1 y c0 ∧ TRel E' (openV d x).2 c' ∧ cle c' c := by
  cases x with
  | t vs =>
    simp only [Rel] at h
    obtain ⟨ws, rfl, h⟩ := h
    obtain ⟨E', c', h1, h2, h3, h4⟩ := open_L1 (j := 0) (fun i _ => hf i) h
    exact ⟨E', c', _, h1, by simp only [openV, Rel]; exact ⟨ws, rfl, h2⟩, h3, h4⟩
  | _ =>
    obtain ⟨E', c', h1, h2, h3, h4⟩ := open_1 (j := 0) (fun i _ => hf i) h
    exact ⟨E', c', _, h1, h2, h3, h4⟩
end Go.Vm
