import Derived.Orders
set_option autoImplicit false
set_option linter.unusedSimpArgs false
set_option linter.unusedVariables false
set_option linter.unusedVariables false
namespace Go.Vm

/-! ### a region that draws its order: the lexical order serves for all -/
section
variable {S : Type} (F : Nat → S → Option S)
def runL : List Nat → S → Option S
  | [], s => some s
  | i :: l, s => match F i s with
    | some s' => runL l s'
    | none => none
/-- j, then i: i may be taken first -/
def Swaps (j i : Nat) : Prop := ∀ s s1 s2, F j s = some s1 → F i s1 = some s2 → ∃ s1', F i s = some s1' ∧ F j s1' = some s2
theorem runL_front {i : Nat} {l2 : List Nat} {s' : S} : ∀ {l1 : List Nat} {s : S}, runL F (l1 ++ i :: l2) s = some s' → (∀ j ∈ l1, Swaps F j i) →
    ∃ s1, F i s = some s1 ∧ runL F (l1 ++ l2) s1 = some s'
  | [], s, h, hs => by
    simp only [List.nil_append, runL] at h
    split at h
    · rename_i s1 h1; exact ⟨s1, h1, h⟩
    · cases h
  | j :: l1, s, h, hs => by
    simp only [List.cons_append, runL] at h
    split at h
    case h_2 => cases h
    rename_i sj hj
    obtain ⟨si, h1, h2⟩ := runL_front h (fun k hk => hs k (List.mem_cons_of_mem _ hk))
    obtain ⟨s1, h3, h4⟩ := hs j (List.mem_cons_self) _ _ _ hj h1
    exact ⟨s1, h3, by simp only [List.cons_append, runL, h4, h2]⟩
end

def remL (n : Nat) (listed : Array Bool) : List Nat := (List.range n).filter fun k => !listed.getD k true
theorem remL_split {n i : Nat} {listed : Array Bool} (hs : listed.size = n) (hi : i < n) (hl : listed.getD i true = false) :
    ∃ l1 l2, remL n listed = l1 ++ i :: l2 ∧ remL n (listed.setIfInBounds i true) = l1 ++ l2 ∧ ∀ j ∈ l1, j < i ∧ listed.getD j true = false := by
  have hr : List.range n = List.range' 0 i ++ i :: List.range' (i + 1) (n - i - 1) := by
    rw [List.range_eq_range', show n = i + (1 + (n - i - 1)) by omega, ← List.range'_append_1, ← List.range'_append_1]
    simp only [Nat.zero_add, List.range'_one, List.singleton_append, List.cons_append, List.nil_append]
    congr 3
    omega
  refine ⟨(List.range' 0 i).filter fun k => !listed.getD k true, (List.range' (i + 1) (n - i - 1)).filter fun k => !listed.getD k true, ?_, ?_, ?_⟩
  · unfold remL
    rw [hr, List.filter_append, List.filter_cons_of_pos (by simp only [hl]; rfl)]
  · unfold remL
    have hne : ∀ k, k ≠ i → (listed.setIfInBounds i true).getD k true = listed.getD k true := fun k hk => getD_set_ne true (Ne.symm hk)
    have hii : (listed.setIfInBounds i true).getD i true = true := by simp [Array.getD_eq_getD_getElem?, hs, hi]
    rw [hr, List.filter_append, List.filter_cons_of_neg (by rw [hii]; decide)]
    congr 1
    · apply List.filter_congr
      intro k hk
      rw [hne k (by have := List.mem_range'_1.1 hk; omega)]
    · apply List.filter_congr
      intro k hk
      rw [hne k (by have := List.mem_range'_1.1 hk; omega)]
  · intro j hj
    obtain ⟨h1, h2⟩ := List.mem_filter.1 hj
    exact ⟨by have := List.mem_range'_1.1 h1; omega, by simpa using h2⟩

/-! which operations come before which -/
def direct (ops : Array Oper) (i j : Nat) : Bool :=
  match ops[i]? with
  | some o => o.after.any fun e => Region.binds .any e && e.on == j
  | none => false
def okAnc (ops : Array Oper) (anc : List (List Nat)) : Bool :=
  (List.range ops.size).all fun i => (anc.getD i []).all fun j => direct ops i j || (List.range i).any fun k => direct ops i k && (anc.getD k []).contains j
def okBack (ops : Array Oper) : Bool :=
  (List.range ops.size).all fun i => match ops[i]? with
    | some o => o.after.all fun e => !Region.binds .any e || decide (e.on < i)
    | none => true
def Closed (ops : Array Oper) (listed : Array Bool) : Prop :=
  ∀ k o, ops[k]? = some o → listed.getD k true = true → ∀ e ∈ o.after, Region.binds .any e = true → listed.getD e.on false = true
theorem anc_listed {ops : Array Oper} {anc : List (List Nat)} {listed : Array Bool} (ha : okAnc ops anc = true) (hc : Closed ops listed) :
    ∀ (i : Nat) (o : Oper), ops[i]? = some o → (∀ e ∈ o.after, Region.binds .any e = true → listed.getD e.on false = true) → ∀ j ∈ anc.getD i [], listed.getD j false = true := by
  intro i
  induction i using Nat.strongRecOn with
  | _ i ih =>
    intro o ho hall j hj
    have hi : i < ops.size := (Array.getElem?_eq_some_iff.1 ho).1
    simp only [okAnc, List.all_eq_true, List.mem_range] at ha
    have h1 := ha i hi j hj
    have hd : ∀ k, direct ops i k = true → listed.getD k false = true := by
      intro k hk
      simp only [direct, ho, Array.any_eq_true', Bool.and_eq_true, beq_iff_eq] at hk
      obtain ⟨e, he, hb, rfl⟩ := hk
      exact hall e he hb
    simp only [Bool.or_eq_true, List.any_eq_true, List.mem_range, Bool.and_eq_true, List.contains_iff_mem] at h1
    rcases h1 with h1 | ⟨k, hk, h2, h3⟩
    · exact hd j h1
    · have hkl := hd k h2
      have hks : k < ops.size := by omega
      refine ih k hk ops[k] (by simp [hks]) (hc k _ (by simp [hks]) ?_) j h3
      rw [Array.getD_eq_getD_getElem?] at hkl ⊢
      cases h : listed[k]? with
      | none => rw [h] at hkl; cases hkl
      | some b => rw [h] at hkl; simpa using hkl
theorem closed_set {ops : Array Oper} {listed : Array Bool} (hc : Closed ops listed) {i : Nat} (hr : i ∈ Region.ready .any ops listed) : Closed ops (listed.setIfInBounds i true) := by
  obtain ⟨h0, o, ho, hall⟩ := mem_ready.1 hr
  intro k ok hk hl e he hb
  by_cases hki : k = i
  · subst hki
    rw [ho] at hk; cases hk
    exact getD_set_true (hall e he hb)
  · rw [getD_set_ne true (Ne.symm hki)] at hl
    exact getD_set_true (hc k ok hk hl e he hb)

section
variable {P : Program} {ops : Array Oper} {Q : Exit → Act → World → Prop} {S : Type} {F : Nat → S → Option S}
theorem wpAny_lex {anc : List (List Nat)} (ha : okAnc ops anc = true) (hb : okBack ops = true) (hsw : ∀ j i, j < i → i < ops.size → (anc.getD i []).contains j = false → Swaps F j i)
    (Inv : Array Bool → S → Act → World → Prop)
    (hstep : ∀ listed i s s1 a w (K : Act → World → Prop), listed.size = ops.size → i ∈ Region.ready .any ops listed → F i s = some s1 → Inv listed s a w →
      (∀ a' w', Inv (listed.setIfInBounds i true) s1 a' w' → K a' w') → wpOp P ops Q i K a w)
    {s' : S} (hQ : ∀ listed a w, Inv listed s' a w → Q .normal a w) :
    ∀ (fuel : Nat) (listed : Array Bool) (s : S) (a : Act) (w : World), listed.size = ops.size → (remL ops.size listed).length ≤ fuel → Closed ops listed →
      runL F (remL ops.size listed) s = some s' → Inv listed s a w → wpAny P .any ops Q fuel listed a w := by
  have hfirst : ∀ listed : Array Bool, listed.size = ops.size → Region.ready .any ops listed = [] → remL ops.size listed = [] := by
    intro listed hs hr
    cases hrem : remL ops.size listed with
    | nil => rfl
    | cons i l =>
      exfalso
      have hi : i ∈ remL ops.size listed := by rw [hrem]; exact List.mem_cons_self
      obtain ⟨hi1, hi2⟩ := List.mem_filter.1 hi
      have hin : i < ops.size := List.mem_range.1 hi1
      have hil : listed.getD i true = false := by simpa using hi2
      obtain ⟨l1, l2, h1, -, h3⟩ := remL_split hs hin hil
      have hl1 : l1 = [] := by
        cases l1 with
        | nil => rfl
        | cons j t =>
          exfalso
          rw [hrem] at h1
          simp only [List.cons_append, List.cons.injEq] at h1
          have := (h3 j (List.mem_cons_self)).1
          omega
      have : i ∈ Region.ready .any ops listed := by
        refine mem_ready.2 ⟨hil, ops[i], by simp [hin], fun e he hbe => ?_⟩
        simp only [okBack, List.all_eq_true, List.mem_range] at hb
        have h4 := hb i hin
        simp only [hin, Array.getElem?_eq_getElem, Array.all_eq_true', Bool.or_eq_true, Bool.not_eq_true', decide_eq_true_eq] at h4
        have h5 : e.on < i := (h4 e he).resolve_left (by rw [hbe]; decide)
        have hsz : e.on < listed.size := by omega
        cases h6 : listed.getD e.on true with
        | true => simpa [Array.getD_eq_getD_getElem?, hsz] using h6
        | false =>
          exfalso
          have h7 : e.on ∈ remL ops.size listed := List.mem_filter.2 ⟨List.mem_range.2 (by omega), by rw [h6]; rfl⟩
          rw [h1, hl1] at h7
          have hsorted : List.Pairwise (· < ·) (remL ops.size listed) := List.Pairwise.filter _ List.pairwise_lt_range
          rw [h1, hl1] at hsorted
          simp only [List.nil_append] at h7 hsorted
          rcases List.mem_cons.1 h7 with h8 | h8
          · omega
          · have := (List.pairwise_cons.1 hsorted).1 _ h8
            omega
      rw [hr] at this; cases this
  have hend : ∀ listed s a w, listed.size = ops.size → Region.ready .any ops listed = [] → runL F (remL ops.size listed) s = some s' → Inv listed s a w → Q .normal a w := by
    intro listed s a w hs hr hrun hI
    rw [hfirst listed hs hr] at hrun
    simp only [runL, Option.some.injEq] at hrun
    subst hrun
    exact hQ _ _ _ hI
  intro fuel
  induction fuel with
  | zero =>
    intro listed s a w hs hlen hc hrun hI
    have hrem : remL ops.size listed = [] := List.length_eq_zero_iff.1 (by omega)
    have hr : Region.ready .any ops listed = [] := by
      rw [List.eq_nil_iff_forall_not_mem]
      intro i hi
      obtain ⟨h0, o, ho, -⟩ := mem_ready.1 hi
      have : i ∈ remL ops.size listed := List.mem_filter.2 ⟨List.mem_range.2 (Array.getElem?_eq_some_iff.1 ho).1, by rw [h0]; rfl⟩
      rw [hrem] at this; cases this
    exact ⟨hr, hend listed s a w hs hr hrun hI⟩
  | succ fuel ih =>
    intro listed s a w hs hlen hc hrun hI
    refine ⟨fun hr => hend listed s a w hs hr hrun hI, fun i hi => ?_⟩
    obtain ⟨h0, o, ho, hall⟩ := mem_ready.1 hi
    have hin : i < ops.size := (Array.getElem?_eq_some_iff.1 ho).1
    obtain ⟨l1, l2, h1, h2, h3⟩ := remL_split hs hin h0
    rw [h1] at hrun
    obtain ⟨s1, hF, hrun'⟩ := runL_front F hrun (fun j hj => by
      obtain ⟨hj1, hj2⟩ := h3 j hj
      refine hsw j i hj1 hin ?_
      cases hcon : (anc.getD i []).contains j with
      | false => rfl
      | true =>
        exfalso
        have := anc_listed ha hc i o ho hall j (by simpa using hcon)
        have hjs : j < listed.size := by omega
        simp only [Array.getD_eq_getD_getElem?, hjs, Array.getElem?_eq_getElem, Option.getD_some] at this hj2
        rw [this] at hj2; cases hj2)
    refine hstep listed i s s1 a w _ hs hi hF hI ?_
    intro a' w' hI'
    refine ih _ s1 a' w' (by simpa using hs) ?_ (closed_set hc hi) (by rw [h2]; exact hrun') hI'
    rw [h2]; rw [h1] at hlen
    simp only [List.length_append, List.length_cons] at hlen ⊢
    omega
end
end Go.Vm
