import Derived.Test.YtehgffojgiefaaaVmG
set_option autoImplicit false
set_option linter.unusedVariables false
set_option linter.unusedSimpArgs false
namespace Go.Vm

/-! ### new names, new blocks -/
def Env.drop (E : Env) (d : Nat) : Env := { E with μ := fun k => if k.1 = d then none else E.μ k }
theorem renamed_drop (E : Env) (d : Nat) : Renamed d E (E.drop d) := ⟨rfl, rfl, fun k hk => by simp [Env.drop, hk]⟩
theorem drop_free (E : Env) (d i : Nat) : (E.drop d).μ (d, i) = none := by simp [Env.drop]
theorem wipe_rel {E : Env} {st : St} {tmps : Array Value} {c : Cnt} (d : Nat) (hσ : SRel E st.σ tmps) (hT : TRel E st.T c) :
    ∃ c', SRel (E.drop d) (wipe d st).σ tmps ∧ TRel (E.drop d) (wipe d st).T c' ∧ cle c' c := by
  obtain ⟨c1, h1, h2⟩ := tRel_retireL (keysAt d st.T) hT
  obtain ⟨c3, h3, h4⟩ := tRel_dropAt d h1
  exact ⟨c3, sRel_kill hσ (renamed_drop E d), tRel_kill h3 (renamed_drop E d) (fun k ob hk => dropAt_free d hk), cle_trans h4 h2⟩
theorem relR_drop {E : Env} {e d : Nat} {xs : List V} {ys : List Value} {c : Cnt} (h : RelR E e xs ys c) : RelR (E.drop d) e (killL d xs) ys c := relR_kill h (renamed_drop E d)
theorem rel_drop {E : Env} {d : Nat} {x : V} {y : Value} {c : Cnt} (h : Rel E x y c) : Rel (E.drop d) (killV d x) y c := rel_kill h (renamed_drop E d)
theorem relL_drop {E : Env} {d : Nat} {xs : List V} {ys : List Value} {c : Cnt} (h : RelL E xs ys c) : RelL (E.drop d) (killL d xs) ys c := relL_kill h (renamed_drop E d)
theorem Good.drop {E : Env} {c : Cnt} (h : Good E c) (d : Nat) : Good (E.drop d) c := ⟨h.one, h.imm, h.sub, h.bnd⟩

theorem bsize_eq {w w' : World} {b : Nat} (h : w'.heap[b]? = w.heap[b]?) : bsize w' b = bsize w b := by simp only [bsize, h]
theorem bsize_some {w : World} {b n : Nat} (h : bsize w b = some n) : ∃ cells T fz, w.heap[b]? = some (.cells cells T fz) ∧ cells.size = n := by
  unfold bsize at h; split at h
  · rename_i cells T fz h1; exact ⟨cells, T, fz, h1, by simpa using h⟩
  · cases h
theorem bsize_lt {w : World} {b n : Nat} (h : bsize w b = some n) : b < w.heap.size := by
  obtain ⟨cells, T, fz, h1, -⟩ := bsize_some h
  exact (Array.getElem?_eq_some_iff.1 h1).1
/-- a world with a block more -/
structure Grew (w : World) (o : Obj) (w' : World) : Prop where
  os : w'.os = w.os
  tape : w'.tape = w.tape
  output : w'.output = w.output
  heap : w'.heap = w.heap.push o
theorem frel_alloc {N : Nat} {E : Env} {σ : Sl} {T : Mem} {tmps : Array Value} {c1 c2 : Cnt} {d e : Nat} {xs : List V} {cells : Array Value} {ty : TypeId} {w' : World}
    (hsz : tmps.size = N) (hσ : SRel E σ tmps) (hT : TRel E T c2) (hfree : ∀ i, E.μ (d, i) = none)
    (hle : xs.length * e ≤ cells.size) (hR : RelR E e xs (seg cells 0 (xs.length * e)) c1) (hg : Good E (cadd c1 c2))
    {fz : Nat × Nat} (hfz : okFz fz cells.size) (hw : Grew E.w (.cells cells ty fz) w') :
    ∃ E' c', E'.w = w' ∧ (∀ k : Key, k.1 ≠ d → E'.μ k = E.μ k) ∧ E'.μ (d, 0) = some (.at E.w.heap.size 0 e cells.size) ∧ FRel N E' { σ := σ, T := ((d, 0), e, xs) :: T } tmps c' ∧ Adv E (cadd c1 c2) E' c' ∧ (∀ b, c' b ≤ delta E.w.heap.size b + (c1 b + c2 b)) := by
  let E' : Env := { w := w', I := E.I, μ := (E.name (d, 0) (.at E.w.heap.size 0 e cells.size)).μ }
  have hold : ∀ b, b < E.w.heap.size → w'.heap[b]? = E.w.heap[b]? := fun b hb => by rw [hw.heap, Array.getElem?_push, if_neg (by omega)]
  have hnew : w'.heap[E.w.heap.size]? = some (.cells cells ty fz) := by rw [hw.heap]; simp
  have hsize : w'.heap.size = E.w.heap.size + 1 := by rw [hw.heap]; simp
  have hm : ∀ c, cle c (cadd c1 c2) → Mono E E' c := fun c hc =>
    ⟨fun τ b hb => ⟨hb, hold b (hg.imm τ b hb).2⟩, fun b hb => hold b (hg.bnd b (by have := hc b; omega)), fun k l hk => by
      simp only [E', Env.name]; split
      · rename_i hk'; subst hk'; rw [hfree 0] at hk; cases hk
      · exact hk⟩
  have hz : ∀ b, E.w.heap.size ≤ b → c1 b + c2 b = 0 := fun b hb => by
    cases hc : c1 b + c2 b with
    | zero => rfl
    | succ n => have := hg.bnd b (by simp only [cadd]; omega); omega
  refine ⟨E', cadd (cadd (delta E.w.heap.size) c1) c2, rfl, fun k hk => by simp only [E', Env.name]; rw [if_neg (by rintro rfl; exact hk rfl)], by simp [E', Env.name], ⟨hsz, sRel_mono hσ (hm c0 fun _ => Nat.zero_le _), ?_, ?_⟩, ?_, fun b => by simp only [cadd]; omega⟩
  · refine ⟨cadd (delta E.w.heap.size) c1, c2, .inr ⟨E.w.heap.size, 0, cells.size, cells, ty, fz, c1, by simp [E', Env.name], hnew, rfl, hfz, by simpa using hle, relR_mono hR (hm c1 (cle_left _ _)), rfl⟩, tRel_mono hT (hm c2 (cle_right _ _)), rfl⟩
  · refine ⟨fun b => ?_, fun τ b hb => ?_, hg.sub, fun b hb => ?_⟩
    · simp only [cadd, delta]
      have := hg.one b; simp only [cadd] at this
      split
      · have := hz b (by omega); omega
      · omega
    · have := hg.imm τ b hb
      simp only [cadd, delta] at this ⊢
      rw [if_neg (by omega)]
      have e : E'.w.heap.size = E.w.heap.size + 1 := hsize
      omega
    · simp only [cadd, delta] at hb
      have e : E'.w.heap.size = E.w.heap.size + 1 := hsize
      split at hb
      · omega
      · have := hg.bnd b (by simp only [cadd]; omega); omega
  · refine ⟨fun b n hn => ?_, hw.os, hw.tape, hw.output, ?_, fun b hb _ => hold b hb, fun _ _ h => h, fun b hb => ?_, fun τ b hb => .inl hb⟩
    · rw [bsize_eq (hold b (bsize_lt hn))]; exact hn
    · have e : E'.w.heap.size = E.w.heap.size + 1 := hsize
      omega
    · simp only [cadd, delta] at hb ⊢
      split at hb
      · exact .inr (by omega)
      · exact .inl (by omega)

/-! ### writing into an object -/
theorem frel_write {N : Nat} {E : Env} {σ : Sl} {tmps : Array Value} {c1 c2 : Cnt} {b : Nat} {cells' : Array Value} {w' : World} {T' : Mem}
    (hσ : SRel E σ tmps) (hg : Good E (cadd (cadd (delta b) c1) c2)) (hw : Wrote E.w b cells' w') :
    (∀ c, cle c (cadd c1 c2) → Mono E { E with w := w' } c) ∧ SRel { E with w := w' } σ tmps ∧ Good { E with w := w' } (cadd (cadd (delta b) c1) c2) ∧
      Adv E (cadd (cadd (delta b) c1) c2) { E with w := w' } (cadd (cadd (delta b) c1) c2) := by
  have hb0 : c1 b + c2 b = 0 := by have := hg.one b; simp only [cadd, delta, if_pos] at this; omega
  have hI : ∀ τ b', E.I τ b' → b' ≠ b := by
    rintro τ b' h rfl
    have := (hg.imm τ b' h).1; simp only [cadd, delta, if_pos] at this; omega
  have hm : ∀ c, cle c (cadd c1 c2) → Mono E { E with w := w' } c := fun c hc =>
    ⟨fun τ b' hb => ⟨hb, hw.other b' (hI τ b' hb)⟩, fun b' hb => hw.other b' (by rintro rfl; have := hc b'; simp only [cadd] at this; omega), fun k l hk => hk⟩
  refine ⟨hm, sRel_mono hσ (hm c0 fun _ => Nat.zero_le _), ?_, ?_⟩
  · exact ⟨hg.one, fun τ b' hb' => ⟨(hg.imm τ b' hb').1, by simp only [hw.size]; exact (hg.imm τ b' hb').2⟩, hg.sub, fun b' hb' => by simp only [hw.size]; exact hg.bnd b' hb'⟩
  · refine ⟨fun b' n hn => ?_, hw.os, hw.tape, hw.output, by simp only [hw.size]; exact Nat.le_refl _, fun b' _ hc => hw.other b' ?_, fun _ _ h => h, fun _ h => .inl h, fun _ _ h => .inl h⟩
    · by_cases hb' : b' = b
      · subst hb'
        obtain ⟨cells, T, fz, h1, rfl⟩ := bsize_some hn
        have := hw.self _ _ _ h1
        simp only [bsize, this.1, this.2]
      · rw [bsize_eq (hw.other b' hb')]; exact hn
    rintro rfl; simp only [cadd, delta, if_pos] at hc; omega

/-! ### the translation of one operation -/
def cV1 : Value → V → Option V
  | .bool b, _ => some (.v (.bool b))
  | .int k n, _ => some (.v (.int k n))
  | .string s, _ => some (.v (.string s))
  | .nilFunc, _ => some (.v .nilFunc)
  | .nilIface, _ => some (.v .nilIface)
  | .pointer none, _ => some (.v (.pointer none))
  | .slice none 0 0, .n e => some (.n e)
  | _, _ => none
def cVL : List Value → List V → Option (List V)
  | [], [] => some []
  | x :: xs, h :: hs => match cV1 x h, cVL xs hs with
    | some y, some ys => some (y :: ys)
    | _, _ => none
  | _, _ => none
def cV : Value → V → Option V
  | .agg cs, .a hs => (cVL cs.toList hs).map .a
  | x, h => cV1 x h
theorem rel_cV1 {E : Env} {v : Value} {h x : V} (hc : cV1 v h = some x) : Rel E x v c0 := by
  unfold cV1 at hc
  split at hc <;> first | (cases hc; done) | (simp only [Option.some.injEq] at hc; subst hc; simp [Rel, aggB])
theorem relL_cVL {E : Env} : ∀ {vs : List Value} {hs xs : List V}, cVL vs hs = some xs → RelL E xs vs c0
  | [], [], xs, h => by simp [cVL] at h; subst h; simp [RelL]
  | [], _ :: _, xs, h => by simp [cVL] at h
  | _ :: _, [], xs, h => by simp [cVL] at h
  | v :: vs, h' :: hs, xs, h => by
    simp only [cVL] at h
    split at h
    · rename_i y ys h1 h2
      simp only [Option.some.injEq] at h; subst h
      simp only [RelL]
      exact ⟨v, vs, c0, c0, rfl, rel_cV1 h1, relL_cVL h2, rfl⟩
    · cases h
theorem rel_cV {E : Env} {v : Value} {h x : V} (hc : cV v h = some x) : Rel E x v c0 := by
  unfold cV at hc
  split at hc
  · rw [Option.map_eq_some_iff] at hc
    obtain ⟨xs, h1, rfl⟩ := hc
    simp only [Rel]; exact ⟨_, rfl, relL_cVL h1⟩
  · exact rel_cV1 hc
def trO : Operand → AO → Option AO
  | .tmp t, _ => some (.t t)
  | .const v, .c h => (cV v h).map .c
  | .func f, _ => some (.c (.f (.func f) [] []))
  | _, _ => none
theorem ev_rel {E : Env} {σ : Sl} {a : Act} {x : Operand} {h y : AO} {z : V} (hσ : SRel E σ a.tmps) (ht : trO x h = some y) (hz : ev σ y = some z) : Rel E z (a.eval x) c0 := by
  unfold trO at ht
  split at ht
  · simp only [Option.some.injEq] at ht; subst ht
    simp only [ev] at hz
    obtain ⟨v, h1, h2⟩ := hσ _ _ hz
    simp only [Act.eval, Array.getD_eq_getD_getElem?, h1, Option.getD_some]; exact h2
  · rw [Option.map_eq_some_iff] at ht
    obtain ⟨u, h1, rfl⟩ := ht
    simp only [ev, Option.some.injEq] at hz; subst hz
    exact rel_cV h1
  · simp only [Option.some.injEq] at ht; subst ht
    simp only [ev, Option.some.injEq] at hz; subst hz
    simp only [Act.eval, Rel]
    exact ⟨#[], #[], c0, c0, rfl, by simp [RelL], by simp [RelL], rfl⟩
  · cases ht
def trOs : List Operand → List AO → Option (List AO)
  | [], [] => some []
  | x :: xs, h :: hs => match trO x h, trOs xs hs with
    | some y, some ys => some (y :: ys)
    | _, _ => none
  | _, _ => none
theorem evL_rel {E : Env} {σ : Sl} {a : Act} (hσ : SRel E σ a.tmps) : ∀ {xs : List Operand} {hs ys : List AO} {zs : List V}, trOs xs hs = some ys → evL σ ys = some zs →
    RelL E zs (xs.map a.eval) c0
  | [], [], ys, zs, h, hz => by simp [trOs] at h; subst h; simp [evL] at hz; subst hz; simp [RelL]
  | [], _ :: _, ys, zs, h, hz => by simp [trOs] at h
  | _ :: _, [], ys, zs, h, hz => by simp [trOs] at h
  | x :: xs, h' :: hs, ys, zs, h, hz => by
    simp only [trOs] at h
    split at h
    · rename_i y ys' h1 h2
      simp only [Option.some.injEq] at h; subst h
      simp only [evL] at hz
      split at hz
      · rename_i z zs' h3 h4
        simp only [Option.some.injEq] at hz; subst hz
        simp only [List.map_cons, RelL]
        exact ⟨_, _, c0, c0, rfl, ev_rel hσ h1 h3, evL_rel hσ h2 h4, rfl⟩
      · cases hz
    · cases h
/-- the other names stay -/
def Keeps (dst : Option Tmp) (E E' : Env) : Prop := ∀ k : Key, dst ≠ some k.1 → E'.μ k = E.μ k
theorem Keeps.refl {dst : Option Tmp} {E : Env} : Keeps dst E E := fun _ _ => rfl
theorem keeps_drop {d : Nat} {E E' : Env} (h : ∀ k : Key, k.1 ≠ d → E'.μ k = (E.drop d).μ k) : Keeps (some d) E E' := fun k hk => by
  have hk' : k.1 ≠ d := fun e => hk (by rw [e])
  rw [h k hk']; simp [Env.drop, hk']
/-- what an operation must come to -/
def Comes1 (N : Nat) (E : Env) (c : Cnt) (st' : St) (a : Act) (dst : Option Tmp) : Result Next → Prop
  | .ok (.value y) w' => ∃ E' c', E'.w = w' ∧ Keeps dst E E' ∧ FRel N E' st' (a.put dst y).tmps c' ∧ Adv E c E' c'
  | .ok .skip w' => ∃ E' c', E'.w = w' ∧ Keeps dst E E' ∧ FRel N E' st' (a.put dst undef).tmps c' ∧ Adv E c E' c'
  | _ => False
/-- an operation that leaves the world alone -/
def ComesQ (N : Nat) (E : Env) (st st' : St) (dst : Option Tmp) (r : Result Next) : Prop :=
  ∃ d x y, dst = some d ∧ d < N ∧ r = .ok (.value y) E.w ∧ st' = st.put d x ∧ Rel E x y c0
theorem ComesQ.to1 {N : Nat} {E : Env} {c : Cnt} {st st' : St} {a : Act} {dst : Option Tmp} {r : Result Next} (hq : ComesQ N E st st' dst r) (h : FRel N E st a.tmps c) : Comes1 N E c st' a dst r := by
  obtain ⟨d, x, y, rfl, hd, rfl, rfl, hx⟩ := hq
  exact ⟨E, c, rfl, Keeps.refl, h.put hx hd, Adv.refl _ _⟩
theorem comes_put {N : Nat} {E : Env} {c : Cnt} {st : St} {a : Act} {d : Nat} {x : V} {y : Value} (h : FRel N E st a.tmps c) (hd : d < N) (hx : Rel E x y c0) :
    ComesQ N E st (st.put d x) (some d) (.ok (.value y) E.w) := ⟨d, x, y, rfl, hd, rfl, rfl, hx⟩
end Go.Vm
