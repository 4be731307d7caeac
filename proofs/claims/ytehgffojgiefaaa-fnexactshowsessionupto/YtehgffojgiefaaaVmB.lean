import Derived.Test.YtehgffojgiefaaaVmA
set_option autoImplicit false
set_option linter.unusedVariables false
set_option linter.unusedSimpArgs false
namespace Go.Vm

abbrev Cnt := Nat → Nat
def c0 : Cnt := fun _ => 0
def delta (b : Nat) : Cnt := fun n => if n = b then 1 else 0
def cadd (x y : Cnt) : Cnt := fun n => x n + y n
theorem cadd_c0 (x : Cnt) : cadd x c0 = x := rfl
theorem c0_cadd (x : Cnt) : cadd c0 x = x := funext fun n => Nat.zero_add _
theorem cadd_comm (x y : Cnt) : cadd x y = cadd y x := funext fun n => Nat.add_comm _ _
theorem cadd_assoc (x y z : Cnt) : cadd (cadd x y) z = cadd x (cadd y z) := funext fun n => Nat.add_assoc _ _ _

inductive Loc where
  | emp (A : Option Addr)
  | at (b base e lim : Nat)
structure Env where
  w : World
  I : Bool → Nat → Prop
  μ : Key → Option Loc
def Env.cl (E : Env) : Env := { E with μ := fun _ => none }

def seg (cells : Array Value) (base n : Nat) : List Value := (cells.toList.drop base).take n
def okFz (fz : Nat × Nat) (n : Nat) : Prop := n ≤ fz.1 ∨ fz.2 ≤ fz.1
def ones (l : List Value) : Prop := ∀ z ∈ l, z.oneCell = true

mutual
def Rel : Env → V → Value → Cnt → Prop
  | _, .v x, y, c => y = x ∧ aggB x = false ∧ c = c0
  | E, .p k idx off, y, c => c = c0 ∧ ∃ b base e lim, E.μ k = some (.at b base e lim) ∧ y = .pointer (some ⟨b, base + idx * e + off, none⟩)
  | E, .s k lo len, y, c => c = c0 ∧ ((∃ A, E.μ k = some (.emp A) ∧ lo = 0 ∧ len = 0 ∧ y = .slice A 0 0) ∨
      ∃ b base e lim cap A, E.μ k = some (.at b base e lim) ∧ len ≤ cap ∧ base + (lo + cap) * e ≤ lim ∧ (lo = 0 → 0 < cap) ∧ (cap = 0 ∨ A = ⟨b, base + lo * e, none⟩) ∧ y = .slice (some A) len cap)
  | E, .q τ xs idx off, y, c => c = c0 ∧ ∃ b base e cells T fz, E.I τ b ∧ E.w.heap[b]? = some (.cells cells T fz) ∧
      y = .pointer (some ⟨b, base + idx * e + off, none⟩) ∧ RelR E.cl e xs (seg cells base (xs.length * e)) c0
  | E, .i τ xs, y, c => c = c0 ∧ ∃ A cap, y = .slice A xs.length cap ∧ xs.length ≤ cap ∧
      (xs = [] ∨ ∃ b base e cells T fz, A = some ⟨b, base, none⟩ ∧ E.I τ b ∧ E.w.heap[b]? = some (.cells cells T fz) ∧ RelR E.cl e xs (seg cells base (xs.length * e)) c0)
  | E, .o e xs, y, c => (xs = [] ∧ (∃ A, y = .slice A 0 0) ∧ c = c0) ∨
      ∃ b base cap cells T fz c1, y = .slice (some ⟨b, base, none⟩) xs.length cap ∧ 0 < cap ∧ xs.length ≤ cap ∧ base + cap * e ≤ cells.size ∧
        E.w.heap[b]? = some (.cells cells T fz) ∧ okFz fz cells.size ∧ RelR E.cl e xs (seg cells base (xs.length * e)) c1 ∧ c = cadd (delta b) c1
  | _, .n _, y, c => y = .slice none 0 0 ∧ c = c0
  | E, .b x, y, c => ∃ b base cells T fz c1 z, y = .pointer (some ⟨b, base, none⟩) ∧ base + z.cells.size ≤ cells.size ∧
        E.w.heap[b]? = some (.cells cells T fz) ∧ okFz fz cells.size ∧ z.cells.toList = seg cells base z.cells.size ∧ x.cells.length = z.cells.size ∧ ones z.cells.toList ∧
        Rel E.cl x z c1 ∧ c = cadd (delta b) c1
  | E, .f fn first caps, y, c => ∃ fs cs c1 c2, y = .func fn fs cs ∧ RelL E first fs.toList c1 ∧ RelL E caps cs.toList c2 ∧ c = cadd c1 c2
  | E, .a xs, y, c => ∃ vs, y = .agg vs ∧ RelL E xs vs.toList c
  | E, .t xs, y, c => ∃ vs, y = .tuple vs ∧ RelL E xs vs.toList c
  | _, .d, _, c => c = c0
def RelL : Env → List V → List Value → Cnt → Prop
  | _, [], ys, c => ys = [] ∧ c = c0
  | E, x :: xs, ys, c => ∃ y ys' c1 c2, ys = y :: ys' ∧ Rel E x y c1 ∧ RelL E xs ys' c2 ∧ c = cadd c1 c2
def RelR : Env → Nat → List V → List Value → Cnt → Prop
  | _, _, [], ys, c => ys = [] ∧ c = c0
  | E, e, x :: xs, ys, c => ∃ y ys' c1 c2, ys = y.cells.toList ++ ys' ∧ y.cells.size = e ∧ x.cells.length = e ∧ ones y.cells.toList ∧ Rel E x y c1 ∧ RelR E e xs ys' c2 ∧ c = cadd c1 c2
end

theorem relR_length {E : Env} {e : Nat} : ∀ {xs : List V} {ys : List Value} {c : Cnt}, RelR E e xs ys c → ys.length = xs.length * e
  | [], ys, c, h => by simp only [RelR] at h; simp [h.1]
  | x :: xs, ys, c, h => by
    simp only [RelR] at h
    obtain ⟨y, ys', c1, c2, rfl, hy, -, -, -, h2, -⟩ := h
    have := relR_length h2
    simp only [List.length_append, Array.length_toList, List.length_cons, this, hy, Nat.add_mul]
    omega
theorem relL_length {E : Env} : ∀ {xs : List V} {ys : List Value} {c : Cnt}, RelL E xs ys c → ys.length = xs.length
  | [], ys, c, h => by simp only [RelL] at h; simp [h.1]
  | x :: xs, ys, c, h => by
    simp only [RelL] at h
    obtain ⟨y, ys', c1, c2, rfl, -, h2, -⟩ := h
    simp [relL_length h2]

/-! ### what a world's change leaves -/
structure Mono (E E' : Env) (c : Cnt) : Prop where
  hI : ∀ τ b, E.I τ b → E'.I τ b ∧ E'.w.heap[b]? = E.w.heap[b]?
  hc : ∀ b, c b ≠ 0 → E'.w.heap[b]? = E.w.heap[b]?
  hμ : ∀ k l, E.μ k = some l → E'.μ k = some l
theorem Mono.le {E E' : Env} {c c' : Cnt} (h : Mono E E' c) (hl : ∀ b, c' b ≤ c b) : Mono E E' c' :=
  ⟨h.hI, fun b hb => h.hc b (by have := hl b; omega), h.hμ⟩
theorem Mono.cl {E E' : Env} {c : Cnt} (h : Mono E E' c) : Mono E.cl E'.cl c :=
  ⟨h.hI, h.hc, fun k l hk => by simp [Env.cl] at hk⟩
theorem Mono.left {E E' : Env} {c1 c2 : Cnt} (h : Mono E E' (cadd c1 c2)) : Mono E E' c1 := h.le fun b => Nat.le_add_right _ _
theorem Mono.right {E E' : Env} {c1 c2 : Cnt} (h : Mono E E' (cadd c1 c2)) : Mono E E' c2 := h.le fun b => Nat.le_add_left _ _

mutual
theorem rel_mono : ∀ {x : V} {E E' : Env} {y : Value} {c : Cnt}, Rel E x y c → Mono E E' c → Rel E' x y c
  | .v x, E, E', y, c, h, m => by simpa only [Rel] using h
  | .p k idx off, E, E', y, c, h, m => by
    simp only [Rel] at h ⊢
    obtain ⟨h0, b, base, e, lim, h1, h2⟩ := h
    exact ⟨h0, b, base, e, lim, m.hμ _ _ h1, h2⟩
  | .s k lo len, E, E', y, c, h, m => by
    simp only [Rel] at h ⊢
    obtain ⟨h0, ⟨A, h⟩ | ⟨b, base, e, lim, cap, A, h1, h2⟩⟩ := h
    · exact ⟨h0, .inl ⟨A, m.hμ _ _ h.1, h.2⟩⟩
    · exact ⟨h0, .inr ⟨b, base, e, lim, cap, A, m.hμ _ _ h1, h2⟩⟩
  | .q τ xs idx off, E, E', y, c, h, m => by
    simp only [Rel] at h ⊢
    obtain ⟨h0, b, base, e, cells, T, fz, hI, hw, hy, hr⟩ := h
    have := m.hI τ b hI
    exact ⟨h0, b, base, e, cells, T, fz, this.1, by rw [this.2, hw], hy, relR_mono hr (m.cl.le fun _ => Nat.zero_le _)⟩
  | .i τ xs, E, E', y, c, h, m => by
    simp only [Rel] at h ⊢
    obtain ⟨h0, A, cap, hy, hle, h⟩ := h
    refine ⟨h0, A, cap, hy, hle, ?_⟩
    rcases h with h | ⟨b, base, e, cells, T, fz, hA, hI, hw, hr⟩
    · exact .inl h
    · have := m.hI τ b hI
      exact .inr ⟨b, base, e, cells, T, fz, hA, this.1, by rw [this.2, hw], relR_mono hr (m.cl.le fun _ => Nat.zero_le _)⟩
  | .o e xs, E, E', y, c, h, m => by
    simp only [Rel] at h ⊢
    rcases h with h | ⟨b, base, cap, cells, T, fz, c1, hy, hA, hle, hs, hw, hf, hr, rfl⟩
    · exact .inl h
    · have hb : E'.w.heap[b]? = E.w.heap[b]? := m.hc b (by simp [cadd, delta])
      exact .inr ⟨b, base, cap, cells, T, fz, c1, hy, hA, hle, hs, by rw [hb, hw], hf, relR_mono hr m.right.cl, rfl⟩
  | .n e, E, E', y, c, h, m => by simpa only [Rel] using h
  | .b x, E, E', y, c, h, m => by
    simp only [Rel] at h ⊢
    obtain ⟨b, base, cells, T, fz, c1, z, hy, hle, hw, hf, hz, hl, ho, hr, rfl⟩ := h
    have hb : E'.w.heap[b]? = E.w.heap[b]? := m.hc b (by simp [cadd, delta])
    exact ⟨b, base, cells, T, fz, c1, z, hy, hle, by rw [hb, hw], hf, hz, hl, ho, rel_mono hr m.right.cl, rfl⟩
  | .f fn first caps, E, E', y, c, h, m => by
    simp only [Rel] at h ⊢
    obtain ⟨fs, cs, c1, c2, hy, h1, h2, rfl⟩ := h
    exact ⟨fs, cs, c1, c2, hy, relL_mono h1 m.left, relL_mono h2 m.right, rfl⟩
  | .a xs, E, E', y, c, h, m => by
    simp only [Rel] at h ⊢
    obtain ⟨vs, hy, h⟩ := h
    exact ⟨vs, hy, relL_mono h m⟩
  | .t xs, E, E', y, c, h, m => by
    simp only [Rel] at h ⊢
    obtain ⟨vs, hy, h⟩ := h
    exact ⟨vs, hy, relL_mono h m⟩
  | .d, E, E', y, c, h, m => by simpa only [Rel] using h
theorem relL_mono : ∀ {xs : List V} {E E' : Env} {ys : List Value} {c : Cnt}, RelL E xs ys c → Mono E E' c → RelL E' xs ys c
  | [], E, E', ys, c, h, m => by simpa only [RelL] using h
  | x :: xs, E, E', ys, c, h, m => by
    simp only [RelL] at h ⊢
    obtain ⟨y, ys', c1, c2, hy, h1, h2, rfl⟩ := h
    exact ⟨y, ys', c1, c2, hy, rel_mono h1 m.left, relL_mono h2 m.right, rfl⟩
theorem relR_mono : ∀ {xs : List V} {E E' : Env} {e : Nat} {ys : List Value} {c : Cnt}, RelR E e xs ys c → Mono E E' c → RelR E' e xs ys c
  | [], E, E', e, ys, c, h, m => by simpa only [RelR] using h
  | x :: xs, E, E', e, ys, c, h, m => by
    simp only [RelR] at h ⊢
    obtain ⟨y, ys', c1, c2, hy, hs, hl, ho, h1, h2, rfl⟩ := h
    exact ⟨y, ys', c1, c2, hy, hs, hl, ho, rel_mono h1 m.left, relR_mono h2 m.right, rfl⟩
end
end Go.Vm
