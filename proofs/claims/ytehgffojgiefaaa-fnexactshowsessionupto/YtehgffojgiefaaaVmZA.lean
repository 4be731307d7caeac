import Derived.Test.YtehgffojgiefaaaVmZ
set_option autoImplicit false
set_option linter.unusedVariables false
set_option linter.unusedSimpArgs false
namespace Go.Vm

/-! ### memory as a function -/
section
variable {E : Env}
theorem tRel_filt (f : Key → Bool) : ∀ {T : Mem} {c : Cnt}, TRel E T c → ∃ c', TRel E (filtT f T) c' ∧ cle c' c
  | [], c, h => ⟨c, h, cle_refl _⟩
  | (k, ob) :: r, c, h => by
    obtain ⟨c1, c2, h1, h2, rfl⟩ := h
    obtain ⟨c3, h3, h4⟩ := tRel_filt f h2
    simp only [filtT]
    split
    · exact ⟨cadd c1 c3, ⟨c1, c3, h1, h3, rfl⟩, cle_add (cle_refl _) h4⟩
    · exact ⟨c3, h3, cle_trans h4 (cle_right _ _)⟩
theorem getK_del_ne : ∀ {T : Mem} {k k' : Key}, k' ≠ k → getK (delK T k) k' = getK T k'
  | [], k, k', h => rfl
  | (u, x) :: r, k, k', h => by
    simp only [delK]
    split
    · rename_i e; subst e
      simp only [getK]; rw [if_neg (Ne.symm h)]
    · simp only [getK, getK_del_ne h]
theorem filt_filt (f g : Key → Bool) : ∀ T : Mem, filtT f (filtT g T) = filtT (fun u => g u && f u) T
  | [] => rfl
  | (k, x) :: r => by
    by_cases hg : g k = true
    · by_cases hf : f k = true
      · simp [filtT, hg, hf, filt_filt f g r]
      · simp [filtT, hg, hf, filt_filt f g r]
    · simp [filtT, hg, filt_filt f g r]
theorem filt_del {f : Key → Bool} {k : Key} (h : f k = false) : ∀ {T : Mem}, filtT f (delK T k) = filtT f T
  | [] => rfl
  | (u, x) :: r => by
    simp only [delK]
    split
    · rename_i e; subst e
      simp only [filtT, h, Bool.false_eq_true, if_false]
    · simp only [filtT, filt_del h]
/-- the objects of some keys, and the rest -/
theorem tRel_splitK : ∀ (ks : List Key) {L : Mem} {c : Cnt}, ks.Nodup → TRel E L c →
    ∃ c1 c2, TRel E (pickFK (getK L) ks) c1 ∧ TRel E (filtT (fun k => !ks.contains k) L) c2 ∧ cle (cadd c1 c2) c
  | [], L, c, hn, h => by
    obtain ⟨c2, h2, h3⟩ := tRel_filt (fun k => !([] : List Key).contains k) h
    exact ⟨c0, c2, rfl, h2, by rw [c0_cadd]; exact h3⟩
  | k :: ks, L, c, hn, h => by
    obtain ⟨hk, hn⟩ := List.nodup_cons.1 hn
    cases hg : getK L k with
    | none =>
      obtain ⟨c1, c2, h1, h2, h3⟩ := tRel_splitK ks hn h
      refine ⟨c1, c2, by simp only [pickFK, hg]; exact h1, ?_, h3⟩
      have : filtT (fun u => !(k :: ks).contains u) L = filtT (fun u => !ks.contains u) L := by
        clear h h1 h2
        induction L with
        | nil => rfl
        | cons x r ih =>
          obtain ⟨u, y⟩ := x
          simp only [getK] at hg
          split at hg
          · cases hg
          · rename_i hu
            simp only [filtT, ih hg]
            have : (k :: ks).contains u = ks.contains u := by
              simp only [List.contains_cons]
              have : (u == k) = false := by simpa using hu
              rw [this, Bool.false_or]
            rw [this]
      rw [this]; exact h2
    | some ob =>
      obtain ⟨d1, d2, ho, hr, rfl⟩ := tRel_get h hg
      obtain ⟨c1, c2, h1, h2, h3⟩ := tRel_splitK ks hn hr
      obtain ⟨c3, h4, h5⟩ := tRel_filt (fun u => u != k) h2
      refine ⟨cadd d1 c1, c3, ?_, ?_, fun b => by have := h3 b; have := h5 b; simp only [cadd] at *; omega⟩
      · simp only [pickFK, hg]
        refine ⟨d1, c1, ho, ?_, rfl⟩
        rw [pickFK_congr (g := getK (delK L k)) (fun u hu => (getK_del_ne (by rintro rfl; exact hk hu)).symm)]
        exact h1
      · have : filtT (fun u => !(k :: ks).contains u) L = filtT (fun u => u != k) (filtT (fun u => !ks.contains u) (delK L k)) := by
          rw [filt_filt, filt_del (by simp)]
          congr 1
          funext u
          simp only [List.contains_cons, Bool.not_or, bne]
          exact Bool.and_comm _ _
        rw [this]; exact h4
/-- lists that answer alike -/
theorem tRel_same : ∀ {T : Mem} {L : Mem} {c : Cnt}, nodupK T = true → TRel E L c → (∀ k x, getK T k = some x → getK L k = some x) → ∃ c', TRel E T c' ∧ cle c' c
  | [], L, c, hn, h, hs => ⟨c0, rfl, fun _ => Nat.zero_le _⟩
  | (k, ob) :: r, L, c, hn, h, hs => by
    simp only [nodupK, Bool.and_eq_true, Option.isNone_iff_eq_none] at hn
    have hg : getK L k = some ob := hs k ob (by simp [getK])
    obtain ⟨d1, d2, ho, hr, rfl⟩ := tRel_get h hg
    obtain ⟨c', h1, h2⟩ := tRel_same (T := r) hn.2 hr (fun u x hu => by
      have hne : u ≠ k := by rintro rfl; rw [hn.1] at hu; cases hu
      rw [getK_del_ne hne]
      exact hs u x (by simp only [getK]; rw [if_neg (Ne.symm hne)]; exact hu))
    exact ⟨cadd d1 c', ⟨d1, c', ho, h1, rfl⟩, cle_add (cle_refl _) h2⟩
end
end Go.Vm
