import Derived.Test.YtehgffojgiefaaaVmZF
set_option autoImplicit false
set_option linter.unusedVariables false
set_option linter.unusedSimpArgs false
namespace Go.Vm

section
variable {P : Program} {N n : Nat} {ops : Array Oper} {call : Call} {plan : List Dp} {hs is : List AI}
theorem alloc_ge : ∀ {plan : List Dp} {hs is : List AI}, opsOk n plan hs is = true → ∀ d ∈ allocD plan is, n ≤ d
  | [], [], [], h, d, hd => by simp [allocD] at hd
  | p :: ps, h :: hs, a :: is, hk, d, hd => by
    simp only [opsOk, Bool.and_eq_true] at hk
    simp only [allocD] at hd
    split at hd
    · exact alloc_ge hk.2 d hd
    · rename_i hp
      split at hd
      · rename_i e he
        rcases List.mem_cons.1 hd with rfl | hd
        · have h1 := hk.1
          simp only [opOk, Bool.and_eq_true, Bool.or_eq_true, beq_iff_eq, he, decide_eq_true_eq] at h1
          exact (h1.2.resolve_left hp).1
        · exact alloc_ge hk.2 d hd
      · exact alloc_ge hk.2 d hd
  | [], [], _ :: _, h, d, hd => by simp [opsOk] at h
  | [], _ :: _, _, h, d, hd => by simp [opsOk] at h
  | _ :: _, [], _, h, d, hd => by simp [opsOk] at h
  | _ :: _, _ :: _, [], h, d, hd => by simp [opsOk] at h
theorem alloc_mem : ∀ {plan : List Dp} {is : List AI} {i : Nat} {p : Dp} {ai : AI} {d : Nat}, plan[i]? = some p → is[i]? = some ai → p.k ≠ 0 → dstI ai = some d → d ∈ allocD plan is
  | [], is, i, p, ai, d, h1, h2, h3, h4 => by simp at h1
  | q :: ps, [], i, p, ai, d, h1, h2, h3, h4 => by simp at h2
  | q :: ps, b :: is, 0, p, ai, d, h1, h2, h3, h4 => by
    simp at h1 h2; subst h1; subst h2
    simp only [allocD, if_neg h3, h4]; exact List.mem_cons_self
  | q :: ps, b :: is, i + 1, p, ai, d, h1, h2, h3, h4 => by
    have := alloc_mem (plan := ps) (is := is) (by simpa using h1) (by simpa using h2) h3 h4
    simp only [allocD]
    split
    · exact this
    · split
      · exact List.mem_cons_of_mem _ this
      · exact this
theorem dreg_wp (hC : CallsOk P call) (hchk : dOk P n ops plan hs is = true) (htr : trOps P N n ops ops.toList hs = some is) {st st1 : St} {a : Act} {E : Env} {c : Cnt}
    (hrun : arunD call plan is (wipeL (allocD plan is) st) = some st1) (hnd : nodupK st1.T = true) (hf : FRel N E st a.tmps c) {Q : Exit → Act → World → Prop}
    (hQ : ∀ a' E' c', FRel N E' st1 a'.tmps c' → a'.defers = a.defers → KN n E E' → Adv E c E' c' → Q .normal a' E'.w) {id : Nat} : (Code.region id ops true).wp P Q a E.w := by
  simp only [dOk, Bool.and_eq_true] at hchk
  obtain ⟨⟨⟨⟨hm, hanc⟩, hback⟩, hpairs⟩, hops⟩ := hchk
  obtain ⟨hl1, hl2, -⟩ := opsOk_at hops
  have hlen : is.length = ops.size := by have := (trOps_at htr).1; rw [Array.length_toList] at this; exact this.symm
  let E1 : Env := { E with w := { E.w with drawn := E.w.drawn + 1 } }
  have hM : ∀ c, Mono E E1 c := fun c => ⟨fun τ b hb => ⟨hb, rfl⟩, fun b _ => rfl, fun k l hk => hk⟩
  have hf1 : FRel N E1 st a.tmps c := ⟨hf.sz, sRel_mono hf.σ (hM _), tRel_mono hf.T (hM _), ⟨hf.g.one, hf.g.imm, hf.g.sub, hf.g.bnd⟩⟩
  have hA1 : Adv E c E1 c := ⟨fun b n h => h, rfl, rfl, rfl, Nat.le_refl _, fun _ _ _ => rfl, fun _ _ h => h, fun _ h => .inl h, fun _ _ h => .inl h⟩
  obtain ⟨E2, c2, hw2, hI2, hk2, hf2, hle2, hfree, -⟩ := wipeL_rel (n := n) (allocD plan is) hf1 (alloc_ge hops)
  have hA2 : Adv E c E2 c2 := hA1.trans (adv_names hw2 hI2 hle2)
  have hK2 : KN n E E2 := fun k hk => hk2 k hk
  refine wp_region_any hm ?_
  have hsz : (Array.replicate ops.size false).size = ops.size := by simp
  have hget : ∀ i, i < ops.size → (Array.replicate ops.size false).getD i true = false := fun i hi => by simp [Array.getD_eq_getD_getElem?, hi]
  have hrem : remL ops.size (Array.replicate ops.size false) = List.range ops.size := by
    unfold remL
    rw [List.filter_eq_self]
    intro i hi
    rw [hget i (List.mem_range.1 hi)]; rfl
  have hInv0 : InvD N n E c a (fresh plan is (Array.replicate ops.size false)) (toFS (wipeL (allocD plan is) st)) a E2 c2 :=
    ⟨hf2.sz, rfl, fun t x hx => hf2.σ t x hx, ⟨_, fun k => rfl, hf2.T⟩, hf2.g, hK2, hA2, fun d ⟨i, p, ai, _, h2, h3, h4, h5⟩ => hfree d (alloc_mem h2 h3 h4 h5)⟩
  refine wpAny_lex (F := stepsF call plan is) hanc hback ?_ (fun listed s a' w' => ∃ E' c', E'.w = w' ∧ InvD N n E c a (fresh plan is listed) s a' E' c')
    (dstep hC hlen hl1 htr hops hpairs) (s' := toFS st1) ?_ ops.size _ (toFS (wipeL (allocD plan is) st)) a _ hsz (by rw [hrem]; simp) ?_ ?_ ⟨E2, c2, hw2, hInv0⟩
  · intro j i hj hi hcon s s1 s2 h1 h2
    simp only [pairsOk, List.all_eq_true, List.mem_range] at hpairs
    have := hpairs i (by omega) j hj
    unfold stepsF at h1 h2 ⊢
    split at h1
    case h_2 => cases h1
    rename_i pj aj e1 e2
    split at h2
    case h_2 => cases h2
    rename_i pi ai e3 e4
    simp only [e1, e2, e3, e4, Bool.and_eq_true, Bool.or_eq_true] at this
    rcases this.1 with h3 | h3
    · rw [hcon] at h3; cases h3
    · obtain ⟨s1', g1, g2⟩ := swaps_ok h3 h1 h2
      exact ⟨s1', g1, g2⟩
  · rintro listed a' w' ⟨E', c', rfl, hI⟩
    obtain ⟨L, hL, hT⟩ := hI.T
    obtain ⟨c'', h1, h2⟩ := tRel_same hnd hT (fun k x hk => by rw [hL]; exact hk)
    exact hQ a' E' c'' ⟨hI.sz, fun t x hx => hI.σ t x hx, h1, hI.g.le h2⟩ hI.df hI.kn (hI.adv.le h2)
  · intro k o hk hl
    rw [hget k (Array.getElem?_eq_some_iff.1 hk).1] at hl; cases hl
  · rw [hrem, List.range_eq_range', ← hlen]
    exact arunD_run plan is 0 _ _ rfl rfl hrun
end
end Go.Vm
