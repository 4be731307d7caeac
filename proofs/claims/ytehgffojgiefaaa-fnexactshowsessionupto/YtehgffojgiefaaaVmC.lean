import Derived.Test.YtehgffojgiefaaaVmB
set_option autoImplicit false
set_option linter.unusedVariables false
set_option linter.unusedSimpArgs false
namespace Go.Vm

theorem mono_cl (E : Env) (c : Cnt) : Mono E.cl E c := ⟨fun τ b h => ⟨h, rfl⟩, fun b _ => rfl, fun k l h => by simp [Env.cl] at h⟩
theorem mono_refl (E : Env) (c : Cnt) : Mono E E c := ⟨fun τ b h => ⟨h, rfl⟩, fun b _ => rfl, fun k l h => h⟩

/-! ### lists -/
theorem relL_append {E : Env} : ∀ {xs xs' : List V} {ys ys' : List Value} {c c' : Cnt}, RelL E xs ys c → RelL E xs' ys' c' → RelL E (xs ++ xs') (ys ++ ys') (cadd c c')
  | [], xs', ys, ys', c, c', h, h' => by
    simp only [RelL] at h; obtain ⟨rfl, rfl⟩ := h; simpa [c0_cadd] using h'
  | x :: xs, xs', ys, ys', c, c', h, h' => by
    simp only [RelL] at h
    obtain ⟨y, r, c1, c2, rfl, h1, h2, rfl⟩ := h
    simp only [List.cons_append, RelL]
    exact ⟨y, r ++ ys', c1, cadd c2 c', rfl, h1, relL_append h2 h', (cadd_assoc _ _ _)⟩
theorem relL_split {E : Env} : ∀ {xs xs' : List V} {zs : List Value} {c : Cnt}, RelL E (xs ++ xs') zs c →
    ∃ ys ys' c1 c2, zs = ys ++ ys' ∧ RelL E xs ys c1 ∧ RelL E xs' ys' c2 ∧ c = cadd c1 c2
  | [], xs', zs, c, h => ⟨[], zs, c0, c, rfl, by simp [RelL], h, (c0_cadd _).symm⟩
  | x :: xs, xs', zs, c, h => by
    simp only [List.cons_append, RelL] at h
    obtain ⟨y, r, c1, c2, rfl, h1, h2, rfl⟩ := h
    obtain ⟨ys, ys', d1, d2, rfl, h3, h4, rfl⟩ := relL_split h2
    exact ⟨y :: ys, ys', cadd c1 d1, d2, rfl, by simp only [RelL]; exact ⟨y, ys, c1, d1, rfl, h1, h3, rfl⟩, h4, (cadd_assoc _ _ _).symm⟩
theorem relR_append {E : Env} {e : Nat} : ∀ {xs xs' : List V} {ys ys' : List Value} {c c' : Cnt}, RelR E e xs ys c → RelR E e xs' ys' c' → RelR E e (xs ++ xs') (ys ++ ys') (cadd c c')
  | [], xs', ys, ys', c, c', h, h' => by
    simp only [RelR] at h; obtain ⟨rfl, rfl⟩ := h; simpa [c0_cadd] using h'
  | x :: xs, xs', ys, ys', c, c', h, h' => by
    simp only [RelR] at h
    obtain ⟨y, r, c1, c2, rfl, hs, hl, ho, h1, h2, rfl⟩ := h
    simp only [List.cons_append, RelR]
    exact ⟨y, r ++ ys', c1, cadd c2 c', by simp, hs, hl, ho, h1, relR_append h2 h', (cadd_assoc _ _ _)⟩
theorem relR_split {E : Env} {e : Nat} : ∀ {xs xs' : List V} {zs : List Value} {c : Cnt}, RelR E e (xs ++ xs') zs c →
    ∃ ys ys' c1 c2, zs = ys ++ ys' ∧ RelR E e xs ys c1 ∧ RelR E e xs' ys' c2 ∧ c = cadd c1 c2
  | [], xs', zs, c, h => ⟨[], zs, c0, c, rfl, by simp [RelR], h, (c0_cadd _).symm⟩
  | x :: xs, xs', zs, c, h => by
    simp only [List.cons_append, RelR] at h
    obtain ⟨y, r, c1, c2, rfl, hs, hl, ho, h1, h2, rfl⟩ := h
    obtain ⟨ys, ys', d1, d2, rfl, h3, h4, rfl⟩ := relR_split h2
    exact ⟨y.cells.toList ++ ys, ys', cadd c1 d1, d2, by simp, by simp only [RelR]; exact ⟨y, ys, c1, d1, rfl, hs, hl, ho, h1, h3, rfl⟩, h4, (cadd_assoc _ _ _).symm⟩
theorem relL_one {E : Env} {x : V} {y : Value} {c : Cnt} (h : Rel E x y c) : RelL E [x] [y] c := by
  simp only [RelL]; exact ⟨y, [], c, c0, rfl, h, ⟨rfl, rfl⟩, rfl⟩
theorem relR_one {E : Env} {e : Nat} {x : V} {y : Value} {c : Cnt} (hs : y.cells.size = e) (hl : x.cells.length = e) (ho : ones y.cells.toList) (h : Rel E x y c) :
    RelR E e [x] y.cells.toList c := by
  simp only [RelR]; exact ⟨y, [], c, c0, by simp, hs, hl, ho, h, ⟨rfl, rfl⟩, rfl⟩
theorem relR_one' {E : Env} {e : Nat} {x : V} {ys : List Value} {c : Cnt} (h : RelR E e [x] ys c) :
    ∃ y, ys = y.cells.toList ∧ y.cells.size = e ∧ x.cells.length = e ∧ ones y.cells.toList ∧ Rel E x y c := by
  simp only [RelR] at h
  obtain ⟨y, r, c1, c2, rfl, hs, hl, ho, h1, ⟨rfl, rfl⟩, rfl⟩ := h
  exact ⟨y, by simp, hs, hl, ho, h1⟩
theorem relL_one' {E : Env} {x : V} {ys : List Value} {c : Cnt} (h : RelL E [x] ys c) : ∃ y, ys = [y] ∧ Rel E x y c := by
  simp only [RelL] at h
  obtain ⟨y, r, c1, c2, rfl, h1, ⟨rfl, rfl⟩, rfl⟩ := h
  exact ⟨y, rfl, h1⟩
theorem split_at {α : Type} : ∀ {xs : List α} {i : Nat} {x : α}, xs[i]? = some x → xs = xs.take i ++ [x] ++ xs.drop (i + 1)
  | [], i, x, h => by simp at h
  | a :: xs, 0, x, h => by simp at h; simp [h]
  | a :: xs, i + 1, x, h => by
    have := split_at (xs := xs) (i := i) (x := x) (by simpa using h)
    simp only [List.take_succ_cons, List.drop_succ_cons, List.cons_append]
    rw [← this]
theorem set_at {α : Type} {xs : List α} {i : Nat} {x x' : α} (h : xs[i]? = some x) : xs.set i x' = xs.take i ++ [x'] ++ xs.drop (i + 1) := by
  have hl : i < xs.length := (List.getElem?_eq_some_iff.1 h).1
  rw [List.set_eq_take_append_cons_drop, if_pos hl]
  simp
theorem relL_at {E : Env} {xs : List V} {ys : List Value} {c : Cnt} {i : Nat} {x : V} (h : RelL E xs ys c) (hx : xs[i]? = some x) :
    ∃ y c1 c2, ys[i]? = some y ∧ Rel E x y c1 ∧ c = cadd c1 c2 ∧ ∀ x' y' c1', Rel E x' y' c1' → RelL E (xs.set i x') (ys.set i y') (cadd c1' c2) := by
  have hsp := split_at hx
  rw [hsp] at h
  obtain ⟨a, b, d1, d2, rfl, h1, h2, rfl⟩ := relL_split h
  obtain ⟨a', b', d3, d4, rfl, h3, h4, rfl⟩ := relL_split h1
  obtain ⟨y, rfl, h5⟩ := relL_one' h4
  have hla := relL_length h3
  have hi : i < xs.length := (List.getElem?_eq_some_iff.1 hx).1
  rw [List.length_take, Nat.min_eq_left (Nat.le_of_lt hi)] at hla
  refine ⟨y, d4, cadd d3 d2, by rw [List.append_assoc, List.getElem?_append_right (by omega)]; simp [hla], h5, ?_, ?_⟩
  · rw [← cadd_assoc, cadd_comm d4 d3]
  · intro x' y' c1' h'
    have e1 : (a' ++ [y] ++ b).set i y' = a' ++ [y'] ++ b := by
      rw [List.append_assoc, List.set_append_right _ _ (by omega)]; simp [hla]
    rw [e1, set_at hx]
    have := relL_append (relL_append h3 (relL_one h')) h2
    rwa [cadd_comm d3 c1', cadd_assoc] at this
/-- one element of a row: what it is, and what another one in its place makes of it -/
theorem relR_at {E : Env} {e : Nat} {xs : List V} {ys : List Value} {c : Cnt} {i : Nat} {x : V} (h : RelR E e xs ys c) (hx : xs[i]? = some x) :
    ∃ y c1 c2, (ys.drop (i * e)).take e = y.cells.toList ∧ y.cells.size = e ∧ x.cells.length = e ∧ ones y.cells.toList ∧ Rel E x y c1 ∧ c = cadd c1 c2 ∧
      ∀ x' y' c1', y'.cells.size = e → x'.cells.length = e → ones y'.cells.toList → Rel E x' y' c1' →
        RelR E e (xs.set i x') (ys.take (i * e) ++ y'.cells.toList ++ ys.drop (i * e + e)) (cadd c1' c2) := by
  have hsp := split_at hx
  rw [hsp] at h
  obtain ⟨a, b, d1, d2, rfl, h1, h2, rfl⟩ := relR_split h
  obtain ⟨a', b', d3, d4, rfl, h3, h4, rfl⟩ := relR_split h1
  obtain ⟨y, rfl, hs, hl, ho, h5⟩ := relR_one' h4
  have hla := relR_length h3
  have hi : i < xs.length := (List.getElem?_eq_some_iff.1 hx).1
  rw [List.length_take, Nat.min_eq_left (Nat.le_of_lt hi)] at hla
  have hy : y.cells.toList.length = e := by simpa using hs
  refine ⟨y, d4, cadd d3 d2, ?_, hs, hl, ho, h5, ?_, ?_⟩
  · rw [List.append_assoc, ← hla, List.drop_left, ← hy, List.take_left]
  · rw [← cadd_assoc, cadd_comm d4 d3]
  · intro x' y' c1' hs' hl' ho' h'
    have e1 : (a' ++ y.cells.toList ++ b).take (i * e) = a' := by rw [List.append_assoc, ← hla, List.take_left]
    have e2 : (a' ++ y.cells.toList ++ b).drop (i * e + e) = b := by
      rw [show i * e + e = (a' ++ y.cells.toList).length by simp only [List.length_append, hla, hy], List.drop_left]
    rw [e1, e2, set_at hx]
    have := relR_append (relR_append h3 (relR_one hs' hl' ho' h')) h2
    rwa [cadd_comm d3 c1', cadd_assoc] at this
theorem relR_take {E : Env} {e : Nat} {xs : List V} {ys : List Value} {c : Cnt} (n : Nat) (h : RelR E e xs ys c) :
    ∃ c1 c2, RelR E e (xs.take n) (ys.take (n * e)) c1 ∧ RelR E e (xs.drop n) (ys.drop (n * e)) c2 ∧ c = cadd c1 c2 := by
  by_cases hn : n ≤ xs.length
  · rw [← List.take_append_drop n xs] at h
    obtain ⟨a, b, d1, d2, rfl, h1, h2, rfl⟩ := relR_split h
    have hla := relR_length h1
    rw [List.length_take, Nat.min_eq_left hn] at hla
    exact ⟨d1, d2, by rw [← hla, List.take_left]; exact h1, by rw [← hla, List.drop_left]; exact h2, rfl⟩
  · have hn' : xs.length ≤ n := by omega
    have hla := relR_length h
    have hm : ys.length ≤ n * e := by rw [hla]; exact Nat.mul_le_mul_right _ hn'
    rw [List.take_of_length_le hn', List.drop_eq_nil_of_le hn', List.take_of_length_le hm, List.drop_eq_nil_of_le hm]
    exact ⟨c, c0, h, by simp [RelR], rfl⟩

/-! ### one value and its cells -/
theorem cells_leaf {y : Value} (h : aggB y = false) : y.cells = #[y] := by cases y <;> simp_all [aggB, Value.cells]
theorem rel_cells {E : Env} : ∀ {x : V} {y : Value} {c : Cnt}, Rel E x y c → x.cells.length = y.cells.size → RelL E x.cells y.cells.toList c
  | .a cs, y, c, h, hl => by simp only [Rel] at h; obtain ⟨vs, rfl, h⟩ := h; exact h
  | .v x, y, c, h, hl => by
    have h' := h; simp only [Rel] at h; obtain ⟨rfl, h1, -⟩ := h
    rw [cells_leaf h1]; exact relL_one h'
  | .p .., y, c, h, hl => by have h' := h; simp only [Rel] at h; obtain ⟨-, b, base, e, lim, -, rfl⟩ := h; exact relL_one h'
  | .s .., y, c, h, hl => by
    have h' := h; simp only [Rel] at h
    obtain ⟨-, ⟨A, -, -, -, rfl⟩ | ⟨b, base, e, lim, cap, A, -, -, -, -, -, rfl⟩⟩ := h <;> exact relL_one h'
  | .q .., y, c, h, hl => by have h' := h; simp only [Rel] at h; obtain ⟨-, b, base, e, cells, T, fz, -, -, rfl, -⟩ := h; exact relL_one h'
  | .i .., y, c, h, hl => by have h' := h; simp only [Rel] at h; obtain ⟨-, A, cap, rfl, -⟩ := h; exact relL_one h'
  | .o .., y, c, h, hl => by
    have h' := h; simp only [Rel] at h
    rcases h with ⟨-, ⟨A, rfl⟩, -⟩ | ⟨b, base, cap, cells, T, fz, c1, rfl, -⟩ <;> exact relL_one h'
  | .n .., y, c, h, hl => by have h' := h; simp only [Rel] at h; obtain ⟨rfl, -⟩ := h; exact relL_one h'
  | .b .., y, c, h, hl => by have h' := h; simp only [Rel] at h; obtain ⟨b, base, cells, T, fz, c1, z, rfl, -⟩ := h; exact relL_one h'
  | .f .., y, c, h, hl => by have h' := h; simp only [Rel] at h; obtain ⟨fs, cs, c1, c2, rfl, -⟩ := h; exact relL_one h'
  | .t .., y, c, h, hl => by have h' := h; simp only [Rel] at h; obtain ⟨vs, rfl, -⟩ := h; exact relL_one h'
  | .d, y, c, h, hl => by
    simp only [Rel] at h; subst h
    simp only [V.cells, List.length_singleton] at hl ⊢
    match hy : y.cells.toList with
    | [] => simp [hy, ← Array.length_toList] at hl
    | [z] => exact relL_one (by simp [Rel])
    | _ :: _ :: _ => simp [hy, ← Array.length_toList] at hl
/-- what is no 'dead' has as many cells as it should -/
theorem rel_size {E : Env} : ∀ {x : V} {y : Value} {c : Cnt}, Rel E x y c → x ≠ .d → x.cells.length = y.cells.size
  | .a cs, y, c, h, _ => by simp only [Rel] at h; obtain ⟨vs, rfl, h⟩ := h; have := relL_length h; simpa [V.cells, Value.cells] using this.symm
  | .v x, y, c, h, _ => by simp only [Rel] at h; obtain ⟨rfl, h1, -⟩ := h; rw [cells_leaf h1]; rfl
  | .p .., y, c, h, _ => by simp only [Rel] at h; obtain ⟨-, b, base, e, lim, -, rfl⟩ := h; rfl
  | .s .., y, c, h, _ => by simp only [Rel] at h; obtain ⟨-, ⟨A, -, -, -, rfl⟩ | ⟨b, base, e, lim, cap, A, -, -, -, -, -, rfl⟩⟩ := h <;> rfl
  | .q .., y, c, h, _ => by simp only [Rel] at h; obtain ⟨-, b, base, e, cells, T, fz, -, -, rfl, -⟩ := h; rfl
  | .i .., y, c, h, _ => by simp only [Rel] at h; obtain ⟨-, A, cap, rfl, -⟩ := h; rfl
  | .o .., y, c, h, _ => by simp only [Rel] at h; rcases h with ⟨-, ⟨A, rfl⟩, -⟩ | ⟨b, base, cap, cells, T, fz, c1, rfl, -⟩ <;> rfl
  | .n .., y, c, h, _ => by simp only [Rel] at h; obtain ⟨rfl, -⟩ := h; rfl
  | .b .., y, c, h, _ => by simp only [Rel] at h; obtain ⟨b, base, cells, T, fz, c1, z, rfl, -⟩ := h; rfl
  | .f .., y, c, h, _ => by simp only [Rel] at h; obtain ⟨fs, cs, c1, c2, rfl, -⟩ := h; rfl
  | .t .., y, c, h, _ => by simp only [Rel] at h; obtain ⟨vs, rfl, -⟩ := h; rfl
  | .d, y, c, h, hd => absurd rfl hd
theorem rel_one {E : Env} : ∀ {x : V} {y : Value} {c : Cnt}, Rel E x y c → x.one = true → y.oneCell = true
  | .a cs, y, c, h, ho => by simp [V.one] at ho
  | .v x, y, c, h, ho => by simp only [Rel] at h; obtain ⟨rfl, h1, -⟩ := h; exact ho
  | .p .., y, c, h, _ => by simp only [Rel] at h; obtain ⟨-, b, base, e, lim, -, rfl⟩ := h; rfl
  | .s .., y, c, h, _ => by simp only [Rel] at h; obtain ⟨-, ⟨A, -, -, -, rfl⟩ | ⟨b, base, e, lim, cap, A, -, -, -, -, -, rfl⟩⟩ := h <;> rfl
  | .q .., y, c, h, _ => by simp only [Rel] at h; obtain ⟨-, b, base, e, cells, T, fz, -, -, rfl, -⟩ := h; rfl
  | .i .., y, c, h, _ => by simp only [Rel] at h; obtain ⟨-, A, cap, rfl, -⟩ := h; rfl
  | .o .., y, c, h, _ => by simp only [Rel] at h; rcases h with ⟨-, ⟨A, rfl⟩, -⟩ | ⟨b, base, cap, cells, T, fz, c1, rfl, -⟩ <;> rfl
  | .n .., y, c, h, _ => by simp only [Rel] at h; obtain ⟨rfl, -⟩ := h; rfl
  | .b .., y, c, h, _ => by simp only [Rel] at h; obtain ⟨b, base, cells, T, fz, c1, z, rfl, -⟩ := h; rfl
  | .f .., y, c, h, _ => by simp only [Rel] at h; obtain ⟨fs, cs, c1, c2, rfl, -⟩ := h; rfl
  | .t .., y, c, h, ho => by simp [V.one] at ho
  | .d, y, c, h, ho => by simp [V.one] at ho
theorem relL_ones {E : Env} : ∀ {xs : List V} {ys : List Value} {c : Cnt}, RelL E xs ys c → oneL xs = true → ones ys
  | [], ys, c, h, _ => by simp only [RelL] at h; simp [h.1, ones]
  | x :: xs, ys, c, h, ho => by
    simp only [RelL] at h
    obtain ⟨y, r, c1, c2, rfl, h1, h2, -⟩ := h
    simp only [oneL, Bool.and_eq_true] at ho
    intro z hz
    rcases List.mem_cons.1 hz with rfl | hz
    · exact rel_one h1 ho.1
    · exact relL_ones h2 ho.2 z hz
theorem rel_ones {E : Env} {x : V} {y : Value} {c : Cnt} (h : Rel E x y c) (ho : oneL x.cells = true) : x.cells.length = y.cells.size ∧ ones y.cells.toList := by
  have hd : x ≠ .d := by rintro rfl; simp [V.cells, oneL, V.one] at ho
  have hs := rel_size h hd
  exact ⟨hs, relL_ones (rel_cells h hs) ho⟩
theorem rel_a {E : Env} {cs : List V} {ys : List Value} {c : Cnt} (h : RelL E cs ys c) : Rel E (.a cs) (.agg ys.toArray) c := by
  simp only [Rel]; exact ⟨_, rfl, by simpa using h⟩

/-! ### closed, killed -/
mutual
theorem rel_cl : ∀ {x : V} {E : Env} {y : Value} {c : Cnt}, Rel E x y c → clB x = true → Rel E.cl x y c
  | .v x, E, y, c, h, _ => by simpa only [Rel] using h
  | .q .., E, y, c, h, _ => by simp only [Rel] at h ⊢; exact h
  | .i .., E, y, c, h, _ => by simp only [Rel] at h ⊢; exact h
  | .o .., E, y, c, h, _ => by simp only [Rel] at h ⊢; exact h
  | .b .., E, y, c, h, _ => by simp only [Rel] at h ⊢; exact h
  | .f fn first caps, E, y, c, h, hc => by
    simp only [clB, Bool.and_eq_true] at hc
    simp only [Rel] at h ⊢
    obtain ⟨fs, cs, c1, c2, hy, h1, h2, rfl⟩ := h
    exact ⟨fs, cs, c1, c2, hy, relL_cl h1 hc.1, relL_cl h2 hc.2, rfl⟩
  | .p .., E, y, c, h, hc => by simp [clB] at hc
  | .s .., E, y, c, h, hc => by simp [clB] at hc
  | .n .., E, y, c, h, hc => by simpa only [Rel] using h
  | .a .., E, y, c, h, hc => by simp [clB] at hc
  | .t .., E, y, c, h, hc => by simp [clB] at hc
  | .d, E, y, c, h, hc => by simp [clB] at hc
theorem relL_cl : ∀ {xs : List V} {E : Env} {ys : List Value} {c : Cnt}, RelL E xs ys c → clBL xs = true → RelL E.cl xs ys c
  | [], E, ys, c, h, _ => by simpa only [RelL] using h
  | x :: xs, E, ys, c, h, hc => by
    simp only [clBL, Bool.and_eq_true] at hc
    simp only [RelL] at h ⊢
    obtain ⟨y, r, c1, c2, hy, h1, h2, rfl⟩ := h
    exact ⟨y, r, c1, c2, hy, rel_cl h1 hc.1, relL_cl h2 hc.2, rfl⟩
end
theorem rel_clE {x : V} {E : Env} {y : Value} {c : Cnt} (h : Rel E x y c) (hc : clE x = true) : Rel E.cl x y c := by
  cases x <;> first | exact rel_cl h hc | skip
  simp only [clE] at hc
  simp only [Rel] at h ⊢
  obtain ⟨vs, hy, h⟩ := h
  exact ⟨vs, hy, relL_cl h hc⟩
theorem relR_cl : ∀ {xs : List V} {E : Env} {e : Nat} {ys : List Value} {c : Cnt}, RelR E e xs ys c → clEs xs = true → RelR E.cl e xs ys c
  | [], E, e, ys, c, h, _ => by simpa only [RelR] using h
  | x :: xs, E, e, ys, c, h, hc => by
    simp only [clEs, Bool.and_eq_true] at hc
    simp only [RelR] at h ⊢
    obtain ⟨y, r, c1, c2, hy, hs, hl, ho, h1, h2, rfl⟩ := h
    exact ⟨y, r, c1, c2, hy, hs, hl, ho, rel_clE h1 hc.1, relR_cl h2 hc.2, rfl⟩

/-- the same world, other names at d -/
structure Renamed (d : Nat) (E E' : Env) : Prop where
  hw : E'.w = E.w
  hI : E'.I = E.I
  hμ : ∀ k : Key, k.1 ≠ d → E'.μ k = E.μ k
theorem Renamed.cl {d : Nat} {E E' : Env} (h : Renamed d E E') : E'.cl = E.cl := by
  obtain ⟨w, I, μ⟩ := E; obtain ⟨w', I', μ'⟩ := E'
  have := h.hw; have := h.hI
  simp_all [Env.cl]
mutual
theorem rel_kill {d : Nat} : ∀ {x : V} {E E' : Env} {y : Value} {c : Cnt}, Rel E x y c → Renamed d E E' → Rel E' (killV d x) y c
  | .v x, E, E', y, c, h, r => by simpa only [Rel, killV] using h
  | .p k idx off, E, E', y, c, h, r => by
    simp only [killV]; split
    · simp only [Rel] at h ⊢; exact h.1
    · rename_i hk; simp only [Rel] at h ⊢; rw [r.hμ k hk]; exact h
  | .s k lo len, E, E', y, c, h, r => by
    simp only [killV]; split
    · simp only [Rel] at h ⊢; exact h.1
    · rename_i hk; simp only [Rel] at h ⊢; rw [r.hμ k hk]; exact h
  | .q .., E, E', y, c, h, r => by simp only [Rel, killV] at h ⊢; rw [r.hI, r.hw, r.cl]; exact h
  | .i .., E, E', y, c, h, r => by simp only [Rel, killV] at h ⊢; rw [r.hI, r.hw, r.cl]; exact h
  | .o .., E, E', y, c, h, r => by simp only [Rel, killV] at h ⊢; rw [r.hw, r.cl]; exact h
  | .n .., E, E', y, c, h, r => by simpa only [Rel, killV] using h
  | .b .., E, E', y, c, h, r => by simp only [Rel, killV] at h ⊢; rw [r.hw, r.cl]; exact h
  | .f fn first caps, E, E', y, c, h, r => by
    simp only [Rel, killV] at h ⊢
    obtain ⟨fs, cs, c1, c2, hy, h1, h2, rfl⟩ := h
    exact ⟨fs, cs, c1, c2, hy, relL_kill h1 r, relL_kill h2 r, rfl⟩
  | .a cs, E, E', y, c, h, r => by
    simp only [Rel, killV] at h ⊢
    obtain ⟨vs, hy, h⟩ := h
    exact ⟨vs, hy, relL_kill h r⟩
  | .t cs, E, E', y, c, h, r => by
    simp only [Rel, killV] at h ⊢
    obtain ⟨vs, hy, h⟩ := h
    exact ⟨vs, hy, relL_kill h r⟩
  | .d, E, E', y, c, h, r => by simpa only [Rel, killV] using h
theorem relL_kill {d : Nat} : ∀ {xs : List V} {E E' : Env} {ys : List Value} {c : Cnt}, RelL E xs ys c → Renamed d E E' → RelL E' (killL d xs) ys c
  | [], E, E', ys, c, h, r => by simpa only [RelL, killL] using h
  | x :: xs, E, E', ys, c, h, r => by
    simp only [RelL, killL] at h ⊢
    obtain ⟨y, t, c1, c2, hy, h1, h2, rfl⟩ := h
    exact ⟨y, t, c1, c2, hy, rel_kill h1 r, relL_kill h2 r, rfl⟩
end
theorem killL_length (d : Nat) : ∀ xs : List V, (killL d xs).length = xs.length
  | [] => rfl
  | x :: xs => by simp [killL, killL_length d xs]
theorem killV_cells (d : Nat) (x : V) : (killV d x).cells.length = x.cells.length := by
  cases x <;> simp only [killV]
  case p => split <;> rfl
  case s => split <;> rfl
  case a => simp [V.cells, killL_length]
  all_goals rfl
theorem relR_kill {d : Nat} : ∀ {xs : List V} {E E' : Env} {e : Nat} {ys : List Value} {c : Cnt}, RelR E e xs ys c → Renamed d E E' → RelR E' e (killL d xs) ys c
  | [], E, E', e, ys, c, h, r => by simpa only [RelR, killL] using h
  | x :: xs, E, E', e, ys, c, h, r => by
    simp only [RelR, killL] at h ⊢
    obtain ⟨y, t, c1, c2, hy, hs, hl, ho, h1, h2, rfl⟩ := h
    exact ⟨y, t, c1, c2, hy, hs, by rw [killV_cells]; exact hl, ho, rel_kill h1 r, relR_kill h2 r, rfl⟩
end Go.Vm
