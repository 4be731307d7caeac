import Derived.Test.YtehgffojgiefaaaVmC
set_option autoImplicit false
set_option linter.unusedVariables false
set_option linter.unusedSimpArgs false
namespace Go.Vm

def ORel (E : Env) (k : Key) (ob : Ob) (c : Cnt) : Prop :=
  ((∃ A, E.μ k = some (.emp A)) ∧ ob.2 = [] ∧ c = c0) ∨
  ∃ b base lim cells T fz c1, E.μ k = some (.at b base ob.1 lim) ∧ E.w.heap[b]? = some (.cells cells T fz) ∧ cells.size = lim ∧ okFz fz cells.size ∧
    base + ob.2.length * ob.1 ≤ lim ∧ RelR E ob.1 ob.2 (seg cells base (ob.2.length * ob.1)) c1 ∧ c = cadd (delta b) c1
def TRel (E : Env) : Mem → Cnt → Prop
  | [], c => c = c0
  | (k, ob) :: r, c => ∃ c1 c2, ORel E k ob c1 ∧ TRel E r c2 ∧ c = cadd c1 c2
def cle (c c' : Cnt) : Prop := ∀ b, c b ≤ c' b
theorem cle_refl (c : Cnt) : cle c c := fun _ => Nat.le_refl _
theorem cle_trans {a b c : Cnt} (h : cle a b) (h' : cle b c) : cle a c := fun n => Nat.le_trans (h n) (h' n)
theorem cle_add {a b c d : Cnt} (h : cle a c) (h' : cle b d) : cle (cadd a b) (cadd c d) := fun n => Nat.add_le_add (h n) (h' n)
theorem cle_left (a b : Cnt) : cle a (cadd a b) := fun n => Nat.le_add_right _ _
theorem cle_right (a b : Cnt) : cle b (cadd a b) := fun n => Nat.le_add_left _ _

theorem oRel_mono {E E' : Env} {k : Key} {ob : Ob} {c : Cnt} (h : ORel E k ob c) (m : Mono E E' c) : ORel E' k ob c := by
  rcases h with ⟨⟨A, h1⟩, h2, h3⟩ | ⟨b, base, lim, cells, T, fz, c1, hμ, hw, hl, hf, hs, hr, rfl⟩
  · exact .inl ⟨⟨A, m.hμ _ _ h1⟩, h2, h3⟩
  · have hb : E'.w.heap[b]? = E.w.heap[b]? := m.hc b (by simp [cadd, delta])
    exact .inr ⟨b, base, lim, cells, T, fz, c1, m.hμ _ _ hμ, by rw [hb, hw], hl, hf, hs, relR_mono hr m.right, rfl⟩
theorem tRel_mono {E E' : Env} : ∀ {T : Mem} {c : Cnt}, TRel E T c → Mono E E' c → TRel E' T c
  | [], c, h, m => h
  | (k, ob) :: r, c, h, m => by
    obtain ⟨c1, c2, h1, h2, rfl⟩ := h
    exact ⟨c1, c2, oRel_mono h1 m.left, tRel_mono h2 m.right, rfl⟩
theorem tRel_append {E : Env} : ∀ {T T' : Mem} {c c' : Cnt}, TRel E T c → TRel E T' c' → TRel E (T ++ T') (cadd c c')
  | [], T', c, c', h, h' => by simp only [TRel] at h; subst h; simpa [c0_cadd] using h'
  | (k, ob) :: r, T', c, c', h, h' => by
    obtain ⟨c1, c2, h1, h2, rfl⟩ := h
    exact ⟨c1, cadd c2 c', h1, tRel_append h2 h', cadd_assoc _ _ _⟩
theorem tRel_get {E : Env} : ∀ {T : Mem} {c : Cnt} {k : Key} {ob : Ob}, TRel E T c → getK T k = some ob →
    ∃ c1 c2, ORel E k ob c1 ∧ TRel E (delK T k) c2 ∧ c = cadd c1 c2
  | [], c, k, ob, h, hg => by simp [getK] at hg
  | (u, x) :: r, c, k, ob, h, hg => by
    obtain ⟨c1, c2, h1, h2, rfl⟩ := h
    simp only [getK] at hg
    simp only [delK]
    split at hg
    · rename_i hu; subst hu; simp only [Option.some.injEq] at hg; subst hg
      rw [if_pos rfl]; exact ⟨c1, c2, h1, h2, rfl⟩
    · rename_i hu
      rw [if_neg hu]
      obtain ⟨d1, d2, h3, h4, rfl⟩ := tRel_get h2 hg
      exact ⟨d1, cadd c1 d2, h3, ⟨c1, d2, h1, h4, rfl⟩, by rw [← cadd_assoc, cadd_comm c1 d1, cadd_assoc]⟩
theorem tRel_set {E : Env} : ∀ {T : Mem} {c : Cnt} {k : Key} {ob : Ob}, TRel E T c → getK T k = some ob →
    ∃ c1 c2, ORel E k ob c1 ∧ c = cadd c1 c2 ∧ ∀ ob' c1', ORel E k ob' c1' → TRel E (setK T k ob') (cadd c1' c2)
  | [], c, k, ob, h, hg => by simp [getK] at hg
  | (u, x) :: r, c, k, ob, h, hg => by
    obtain ⟨c1, c2, h1, h2, rfl⟩ := h
    simp only [getK] at hg
    simp only [setK]
    split at hg
    · rename_i hu; subst hu; simp only [Option.some.injEq] at hg; subst hg
      exact ⟨c1, c2, h1, rfl, fun ob' c1' h' => by rw [if_pos rfl]; exact ⟨c1', c2, h', h2, rfl⟩⟩
    · rename_i hu
      obtain ⟨d1, d2, h3, rfl, h4⟩ := tRel_set h2 hg
      refine ⟨d1, cadd c1 d2, h3, by rw [← cadd_assoc, cadd_comm c1 d1, cadd_assoc], fun ob' c1' h' => ?_⟩
      rw [if_neg hu]
      exact ⟨c1, cadd c1' d2, h1, h4 ob' c1' h', by rw [← cadd_assoc, cadd_comm c1' c1, cadd_assoc]⟩
theorem tRel_del {E : Env} : ∀ {T : Mem} {c : Cnt} (k : Key), TRel E T c → ∃ c', TRel E (delK T k) c' ∧ cle c' c
  | [], c, k, h => ⟨c, h, cle_refl _⟩
  | (u, x) :: r, c, k, h => by
    obtain ⟨c1, c2, h1, h2, rfl⟩ := h
    simp only [delK]
    split
    · exact ⟨c2, h2, cle_right _ _⟩
    · obtain ⟨c', h3, h4⟩ := tRel_del k h2
      exact ⟨cadd c1 c', ⟨c1, c', h1, h3, rfl⟩, cle_add (cle_refl _) h4⟩
theorem tRel_dropAt {E : Env} (d : Nat) : ∀ {T : Mem} {c : Cnt}, TRel E T c → ∃ c', TRel E (dropAt d T) c' ∧ cle c' c
  | [], c, h => ⟨c, h, cle_refl _⟩
  | (u, x) :: r, c, h => by
    obtain ⟨c1, c2, h1, h2, rfl⟩ := h
    simp only [dropAt]
    obtain ⟨c', h3, h4⟩ := tRel_dropAt d h2
    split
    · exact ⟨c', h3, cle_trans h4 (cle_right _ _)⟩
    · exact ⟨cadd c1 c', ⟨c1, c', h1, h3, rfl⟩, cle_add (cle_refl _) h4⟩
theorem dropAt_free (d : Nat) : ∀ {T : Mem} {k : Key} {ob : Ob}, (k, ob) ∈ dropAt d T → k.1 ≠ d
  | [], k, ob, h => by simp [dropAt] at h
  | (u, x) :: r, k, ob, h => by
    simp only [dropAt] at h
    split at h
    · exact dropAt_free d h
    · rename_i hu
      rcases List.mem_cons.1 h with h | h
      · cases h; exact hu
      · exact dropAt_free d h
theorem oRel_kill {d : Nat} {E E' : Env} {k : Key} {e : Nat} {xs : List V} {c : Cnt} (h : ORel E k (e, xs) c) (r : Renamed d E E') (hk : k.1 ≠ d) : ORel E' k (e, killL d xs) c := by
  rcases h with ⟨⟨A, h1⟩, h2, h3⟩ | ⟨b, base, lim, cells, T, fz, c1, hμ, hw, hl, hf, hs, hr, rfl⟩
  · refine .inl ⟨⟨A, by rw [r.hμ k hk]; exact h1⟩, ?_, h3⟩
    simp only at h2; subst h2; rfl
  · refine .inr ⟨b, base, lim, cells, T, fz, c1, by rw [r.hμ k hk]; exact hμ, by rw [r.hw]; exact hw, hl, hf, ?_, ?_, rfl⟩
    · simpa only [killL_length] using hs
    · simpa only [killL_length] using relR_kill hr r
theorem tRel_kill {d : Nat} {E E' : Env} : ∀ {T : Mem} {c : Cnt}, TRel E T c → Renamed d E E' → (∀ k ob, (k, ob) ∈ T → k.1 ≠ d) → TRel E' (killT d T) c
  | [], c, h, r, hk => h
  | (k, e, xs) :: t, c, h, r, hk => by
    obtain ⟨c1, c2, h1, h2, rfl⟩ := h
    exact ⟨c1, c2, oRel_kill h1 r (hk k _ (List.mem_cons_self)), tRel_kill h2 r (fun k ob h => hk k ob (List.mem_cons_of_mem _ h)), rfl⟩

/-! ### an object goes back to its place -/
theorem seg_full {cells : Array Value} {base n m : Nat} : (seg cells base n).take m = seg cells base (min m n) := by
  simp [seg, List.take_take]
theorem rel_repC {E : Env} {k : Key} {ob : Ob} {c1 : Cnt} (ho : ORel E k ob c1) (hc : clEs ob.2 = true) {x x' : V} {y : Value} {c : Cnt}
    (h : Rel E x y c) (hr : repC k ob x = some x') : Rel E x' y (cadd c c1) ∧ x'.cells.length = x.cells.length := by
  cases x with
  | s k' lo len =>
    simp only [repC] at hr
    split at hr
    · rename_i hk
      obtain ⟨rfl, rfl, rfl⟩ := hk
      simp only [Option.some.injEq] at hr; subst hr
      refine ⟨?_, rfl⟩
      simp only [Rel] at h ⊢
      obtain ⟨rfl, h⟩ := h
      rw [c0_cadd]
      rcases ho with ⟨⟨A0, h1⟩, h2, h3⟩ | ⟨b, base, lim, cells, T, fz, c2, hμ, hw, hl, hf, hs, hrr, rfl⟩
      · rcases h with ⟨A, -, -, -, rfl⟩ | ⟨b, base, e, lim, cap, A, hμ', -⟩
        · exact .inl ⟨h2, ⟨A, rfl⟩, h3⟩
        · rw [h1] at hμ'; cases hμ'
      · rcases h with ⟨A, h1, -⟩ | ⟨b', base', e, lim', cap, A, hμ', hle, hroom, hpos, hA, rfl⟩
        · rw [h1] at hμ; cases hμ
        · rw [hμ] at hμ'; cases hμ'
          have hp := hpos trivial
          rcases hA with hA | hA
          · omega
          · exact .inr ⟨b, base, cap, cells, T, fz, c2, by rw [hA]; simp, hp, hle, by rw [hl]; simpa using hroom, hw, hf, relR_cl hrr hc, rfl⟩
    · cases hr
  | p k' idx off =>
    simp only [repC] at hr
    split at hr
    · rename_i hk
      obtain ⟨rfl, rfl, rfl⟩ := hk
      split at hr
      · rename_i z hz
        simp only [Option.some.injEq] at hr; subst hr
        refine ⟨?_, rfl⟩
        simp only [Rel] at h ⊢
        obtain ⟨rfl, b', base', e', lim', hμ', rfl⟩ := h
        rw [c0_cadd]
        rcases ho with ⟨⟨A0, h1⟩, h2, h3⟩ | ⟨b, base, lim, cells, T, fz, c2, hμ, hw, hl, hf, hs, hrr, rfl⟩
        · rw [hz] at h2; cases h2
        · rw [hμ] at hμ'; cases hμ'
          rw [hz] at hrr hs hc
          simp only [List.length_singleton, Nat.one_mul] at hrr hs
          obtain ⟨u, hu, hsz, hlx, hon, hR⟩ := relR_one' hrr
          simp only [clEs, Bool.and_true] at hc
          exact ⟨b', base', cells, T, fz, c2, u, by simp, by rw [hsz, hl]; exact hs, hw, hf, by rw [hsz]; exact hu.symm, by rw [hlx, hsz], hon, rel_clE hR hc, rfl⟩
      · cases hr
    · cases hr
  | _ => simp [repC] at hr
theorem relL_repCs {E : Env} {k : Key} {ob : Ob} {c1 : Cnt} (ho : ORel E k ob c1) (hc : clEs ob.2 = true) : ∀ {cs cs' : List V} {ys : List Value} {c : Cnt},
    RelL E cs ys c → repCs k ob cs = some cs' → RelL E cs' ys (cadd c c1) ∧ cs'.length = cs.length
  | [], cs', ys, c, h, hr => by simp [repCs] at hr
  | x :: r, cs', ys, c, h, hr => by
    simp only [RelL] at h
    obtain ⟨y, ys', d1, d2, rfl, h1, h2, rfl⟩ := h
    simp only [repCs] at hr
    split at hr
    · rename_i x' hx
      simp only [Option.some.injEq] at hr; subst hr
      refine ⟨?_, rfl⟩
      simp only [RelL]
      exact ⟨y, ys', cadd d1 c1, d2, rfl, (rel_repC ho hc h1 hx).1, h2, by rw [cadd_assoc, cadd_assoc, cadd_comm d2 c1]⟩
    · rw [Option.map_eq_some_iff] at hr
      obtain ⟨t, ht, rfl⟩ := hr
      have := relL_repCs ho hc h2 ht
      refine ⟨?_, by simp [this.2]⟩
      simp only [RelL]
      exact ⟨y, ys', d1, cadd d2 c1, rfl, h1, this.1, cadd_assoc _ _ _⟩
theorem rel_repE {E : Env} {k : Key} {ob : Ob} {c1 : Cnt} (ho : ORel E k ob c1) (hc : clEs ob.2 = true) {x x' : V} {y : Value} {c : Cnt}
    (h : Rel E x y c) (hr : repE k ob x = some x') : Rel E x' y (cadd c c1) ∧ x'.cells.length = x.cells.length := by
  cases x with
  | a cs =>
    simp only [repE, Option.map_eq_some_iff] at hr
    obtain ⟨cs', hr, rfl⟩ := hr
    simp only [Rel] at h ⊢
    obtain ⟨vs, hy, h⟩ := h
    have := relL_repCs ho hc h hr
    exact ⟨⟨vs, hy, this.1⟩, this.2⟩
  | _ => exact rel_repC ho hc h hr
theorem relR_repEs {E : Env} {k : Key} {ob : Ob} {c1 : Cnt} (ho : ORel E k ob c1) (hc : clEs ob.2 = true) {e : Nat} : ∀ {xs xs' : List V} {ys : List Value} {c : Cnt},
    RelR E e xs ys c → repEs k ob xs = some xs' → RelR E e xs' ys (cadd c c1) ∧ xs'.length = xs.length
  | [], xs', ys, c, h, hr => by simp [repEs] at hr
  | x :: r, xs', ys, c, h, hr => by
    simp only [RelR] at h
    obtain ⟨y, ys', d1, d2, rfl, hs, hl, hon, h1, h2, rfl⟩ := h
    simp only [repEs] at hr
    split at hr
    · rename_i x' hx
      simp only [Option.some.injEq] at hr; subst hr
      refine ⟨?_, rfl⟩
      have := rel_repE ho hc h1 hx
      simp only [RelR]
      exact ⟨y, ys', cadd d1 c1, d2, rfl, hs, by rw [this.2]; exact hl, hon, this.1, h2, by rw [cadd_assoc, cadd_assoc, cadd_comm d2 c1]⟩
    · rw [Option.map_eq_some_iff] at hr
      obtain ⟨t, ht, rfl⟩ := hr
      have := relR_repEs ho hc h2 ht
      refine ⟨?_, by simp [this.2]⟩
      simp only [RelR]
      exact ⟨y, ys', d1, cadd d2 c1, rfl, hs, hl, hon, h1, this.1, cadd_assoc _ _ _⟩
theorem tRel_repT {E : Env} {k : Key} {ob : Ob} {c1 : Cnt} (ho : ORel E k ob c1) (hc : clEs ob.2 = true) : ∀ {T : Mem} {c : Cnt},
    TRel E T c → ∃ c', TRel E (repT k ob T) c' ∧ cle c' (cadd c c1)
  | [], c, h => ⟨c, h, cle_left _ _⟩
  | (u, e, xs) :: r, c, h => by
    obtain ⟨d1, d2, h1, h2, rfl⟩ := h
    simp only [repT]
    split
    · rename_i xs' hx
      refine ⟨cadd (cadd d1 c1) d2, ⟨cadd d1 c1, d2, ?_, h2, rfl⟩, fun b => by simp only [cadd]; omega⟩
      rcases h1 with ⟨h3, h4, h5⟩ | ⟨b, base, lim, cells, T, fz, c2, hμ, hw, hl, hf, hs, hrr, rfl⟩
      · simp only at h4; subst h4; simp [repEs] at hx
      · have := relR_repEs ho hc hrr hx
        refine .inr ⟨b, base, lim, cells, T, fz, cadd c2 c1, hμ, hw, hl, hf, ?_, ?_, cadd_assoc _ _ _⟩
        · simpa only [this.2] using hs
        · simpa only [this.2] using this.1
    · obtain ⟨c', h3, h4⟩ := tRel_repT ho hc h2
      exact ⟨cadd d1 c', ⟨d1, c', h1, h3, rfl⟩, fun b => by have := h4 b; simp only [cadd] at *; omega⟩
theorem tRel_retire {E : Env} {T : Mem} {c : Cnt} (k : Key) (h : TRel E T c) : ∃ c', TRel E (retire T k) c' ∧ cle c' c := by
  unfold retire
  split
  · exact ⟨c, h, cle_refl _⟩
  · rename_i ob hg
    obtain ⟨c1, c2, h1, h2, rfl⟩ := tRel_get h hg
    split
    · rename_i hc
      obtain ⟨c', h3, h4⟩ := tRel_repT h1 hc h2
      exact ⟨c', h3, by rw [cadd_comm]; exact h4⟩
    · exact ⟨c2, h2, cle_right _ _⟩
theorem tRel_retireL {E : Env} : ∀ (ks : List Key) {T : Mem} {c : Cnt}, TRel E T c → ∃ c', TRel E (retireL ks T) c' ∧ cle c' c
  | [], T, c, h => ⟨c, h, cle_refl _⟩
  | k :: ks, T, c, h => by
    obtain ⟨c1, h1, h2⟩ := tRel_retire k h
    obtain ⟨c3, h3, h4⟩ := tRel_retireL ks h1
    exact ⟨c3, h3, cle_trans h4 h2⟩
theorem tRel_retireS {E : Env} {T : Mem} {c : Cnt} (k : Key) (h : TRel E T c) : ∃ c', TRel E (retireS T k) c' ∧ cle c' c := by
  unfold retireS
  have := tRel_retire k h
  unfold retire at this
  cases hg : getK T k with
  | none => exact ⟨c, h, fun _ => Nat.le_refl _⟩
  | some ob =>
    rw [hg] at this
    simp only at this ⊢
    split
    · rename_i hc; rw [if_pos hc] at this; exact this
    · exact ⟨c, h, fun _ => Nat.le_refl _⟩
theorem tRel_retireSL {E : Env} : ∀ (ks : List Key) {T : Mem} {c : Cnt}, TRel E T c → ∃ c', TRel E (retireSL ks T) c' ∧ cle c' c
  | [], T, c, h => ⟨c, h, fun _ => Nat.le_refl _⟩
  | k :: ks, T, c, h => by
    obtain ⟨c1, h1, h2⟩ := tRel_retireS k h
    obtain ⟨c3, h3, h4⟩ := tRel_retireSL ks h1
    exact ⟨c3, h3, fun b => Nat.le_trans (h4 b) (h2 b)⟩

theorem tRel_pickT {E : Env} : ∀ (ks : List Key) {T : Mem} {c : Cnt}, TRel E T c → ∃ c', TRel E (pickT T ks) c' ∧ cle c' c
  | [], T, c, h => ⟨c0, rfl, fun _ => Nat.zero_le _⟩
  | k :: ks, T, c, h => by
    simp only [pickT]
    split
    · rename_i ob hg
      obtain ⟨c1, c2, h1, h2, rfl⟩ := tRel_get h hg
      obtain ⟨c3, h3, h4⟩ := tRel_pickT ks h2
      exact ⟨cadd c1 c3, ⟨c1, c3, h1, h3, rfl⟩, cle_add (cle_refl _) h4⟩
    · exact tRel_pickT ks h

/-! ### the state -/
def SRel (E : Env) (σ : Sl) (tmps : Array Value) : Prop := ∀ t x, getS σ t = some x → ∃ y, tmps[t]? = some y ∧ Rel E x y c0
theorem sRel_mono {E E' : Env} {σ : Sl} {tmps : Array Value} (h : SRel E σ tmps) (m : Mono E E' c0) : SRel E' σ tmps :=
  fun t x hx => let ⟨y, h1, h2⟩ := h t x hx; ⟨y, h1, rel_mono h2 m⟩
theorem getS_kill (d : Nat) : ∀ (σ : Sl) (t : Nat), getS (killS d σ) t = (getS σ t).map (killV d)
  | [], t => rfl
  | (u, x) :: r, t => by simp only [killS, getS]; split <;> simp [getS_kill d r t]
theorem sRel_kill {d : Nat} {E E' : Env} {σ : Sl} {tmps : Array Value} (h : SRel E σ tmps) (r : Renamed d E E') : SRel E' (killS d σ) tmps := by
  intro t x hx
  rw [getS_kill, Option.map_eq_some_iff] at hx
  obtain ⟨z, hz, rfl⟩ := hx
  obtain ⟨y, h1, h2⟩ := h t z hz
  exact ⟨y, h1, rel_kill h2 r⟩
theorem getS_pick {σ : Sl} : ∀ {ls : List Nat} {t : Nat} {x : V}, getS (pickS σ ls) t = some x → getS σ t = some x
  | [], t, x, h => by simp [pickS, getS] at h
  | l :: ls, t, x, h => by
    simp only [pickS] at h
    split at h
    · rename_i z hz
      simp only [getS] at h
      split at h
      · rename_i he; subst he; rw [hz]; exact h
      · exact getS_pick h
    · exact getS_pick h
theorem sRel_pick {E : Env} {σ : Sl} {tmps : Array Value} (h : SRel E σ tmps) (ls : List Nat) : SRel E (pickS σ ls) tmps :=
  fun t x hx => h t x (getS_pick hx)
end Go.Vm
