import Derived.Test.YtehgffojgiefaaaVmF
import Derived.Laws.Cells
set_option autoImplicit false
set_option linter.unusedVariables false
set_option linter.unusedSimpArgs false
namespace Go.Vm

theorem add_none (b o n : Nat) : (⟨b, o, none⟩ : Addr).add n = ⟨b, o + n, none⟩ := by
  unfold Addr.add; split
  · rename_i h; subst h; rfl
  · rfl
theorem cell_of {w : World} {b o : Nat} {cells : Array Value} {T : TypeId} {fz : Nat × Nat} (h : w.heap[b]? = some (.cells cells T fz)) :
    w.cell? ⟨b, o, none⟩ = cells[o]? := by simp [World.cell?, h]
theorem frozen_of {w : World} {b o : Nat} {cells : Array Value} {T : TypeId} {fz : Nat × Nat} (h : w.heap[b]? = some (.cells cells T fz)) (hf : okFz fz cells.size) (ho : o < cells.size) :
    w.frozen? ⟨b, o, none⟩ = false := by
  simp only [World.frozen?, h, Bool.and_eq_false_iff, decide_eq_false_iff_not]
  unfold okFz at hf; omega
theorem seg_get {cells : Array Value} {o n j : Nat} {v : Value} (h : (seg cells o n)[j]? = some v) : cells[o + j]? = some v := by
  simp only [seg, List.getElem?_take] at h
  split at h
  · simpa using h
  · cases h
theorem run_seg {P : Program} {w : World} {b o n : Nat} {cells : Array Value} {T : TypeId} {fz : Nat × Nat} (h : w.heap[b]? = some (.cells cells T fz)) (hn : o + n ≤ cells.size) :
    (loadCells ⟨b, o, none⟩ n).run P w = .ok (seg cells o n).toArray w := by
  have hl : (seg cells o n).length = n := seg_length hn
  have := run_loadCells_list (P := P) w ⟨b, o, none⟩ (seg cells o n) (fun j v hv => by rw [add_none, cell_of h]; exact seg_get hv)
  rwa [hl] at this
theorem run_underlying {P : Program} {w : World} {t : TypeId} {d : TypeDesc} (h : P.underlying t = some d) : (underlying t).run P w = .ok d w := by
  simp [underlying, h]
theorem run_typeInfo {P : Program} {w : World} {t : TypeId} {i : TypeInfo} (h : P.info? t = some i) : (typeInfo t).run P w = .ok i w := by
  simp [typeInfo, h]
def aggD : TypeDesc → Bool
  | .struct _ | .array _ _ => true
  | _ => false
theorem run_isAgg {P : Program} {w : World} {t : TypeId} {d : TypeDesc} (h : P.underlying t = some d) : (isAgg t).run P w = .ok (aggD d) w := by
  simp only [isAgg, Sem.run_bind, run_underlying h, Result.andThen_ok]
  cases d <;> rfl
theorem run_sizeOf {P : Program} {w : World} {t : TypeId} {i : TypeInfo} (h : P.info? t = some i) : (sizeOf t).run P w = .ok i.size w := by
  simp [sizeOf, run_typeInfo h]
theorem run_loadVar {P : Program} {w : World} {t : TypeId} {d : TypeDesc} {i : TypeInfo} {b o : Nat} {cells : Array Value} {T : TypeId} {fz : Nat × Nat}
    (hu : P.underlying t = some d) (hi : P.info? t = some i) (h : w.heap[b]? = some (.cells cells T fz)) :
    (aggD d = true → o + i.size ≤ cells.size → (loadVar t ⟨b, o, none⟩).run P w = .ok (.agg (seg cells o i.size).toArray) w) ∧
    (aggD d = false → ∀ v, cells[o]? = some v → (loadVar t ⟨b, o, none⟩).run P w = .ok v w) := by
  refine ⟨fun ha hn => ?_, fun ha v hv => ?_⟩
  · simp [loadVar, run_isAgg hu, ha, run_sizeOf hi, run_seg h hn]
  · simp [loadVar, run_isAgg hu, ha, cell_of h, hv]

/-- one block is another one now, of the same size -/
structure Wrote (w : World) (b : Nat) (cells' : Array Value) (w' : World) : Prop where
  os : w'.os = w.os
  tape : w'.tape = w.tape
  output : w'.output = w.output
  size : w'.heap.size = w.heap.size
  other : ∀ b', b' ≠ b → w'.heap[b']? = w.heap[b']?
  self : ∀ cells T fz, w.heap[b]? = some (.cells cells T fz) → w'.heap[b]? = some (.cells cells' T fz) ∧ cells'.size = cells.size
theorem setCell_of {w : World} {b o : Nat} {cells : Array Value} {T : TypeId} {fz : Nat × Nat} (h : w.heap[b]? = some (.cells cells T fz)) (v : Value) :
    Wrote w b (cells.setIfInBounds o v) (w.setCell ⟨b, o, none⟩ v) := by
  refine ⟨rfl, rfl, rfl, by simp [World.setCell], fun b' hb => ?_, fun cs T' fz' h' => ?_⟩
  · simp only [World.setCell, Array.getElem?_modify]; rw [if_neg (by simpa using fun e => hb e.symm)]
  · rw [h] at h'; cases h'
    refine ⟨?_, by simp⟩
    simp [World.setCell, Array.getElem?_modify, h]
def splice (l : List Value) (o : Nat) (vs : List Value) : List Value := l.take o ++ vs ++ l.drop (o + vs.length)
theorem splice_length {l : List Value} {o : Nat} {vs : List Value} (h : o + vs.length ≤ l.length) : (splice l o vs).length = l.length := by
  simp [splice]; omega
theorem splice_cons {l : List Value} {o : Nat} {v : Value} {vs : List Value} (h : o + (vs.length + 1) ≤ l.length) : splice (l.set o v) (o + 1) vs = splice l o (v :: vs) := by
  have ho : o < l.length := by omega
  simp only [splice, List.length_cons]
  rw [List.set_eq_take_append_cons_drop, if_pos ho]
  have e1 : (l.take o ++ v :: l.drop (o + 1)).take (o + 1) = l.take o ++ [v] := by
    have hl : (l.take o ++ [v]).length = o + 1 := by simp; omega
    rw [show l.take o ++ v :: l.drop (o + 1) = (l.take o ++ [v]) ++ l.drop (o + 1) by simp, ← hl, List.take_left]
  have e2 : (l.take o ++ v :: l.drop (o + 1)).drop (o + 1 + vs.length) = l.drop (o + (vs.length + 1)) := by
    have hl : (l.take o ++ [v]).length = o + 1 := by simp; omega
    rw [show l.take o ++ v :: l.drop (o + 1) = (l.take o ++ [v]) ++ l.drop (o + 1) by simp, ← hl, List.drop_length_add_append, List.drop_drop]
    congr 1; simp; omega
  rw [e1, e2]; simp
theorem run_storeSeg {P : Program} {b o : Nat} {T : TypeId} {fz : Nat × Nat} : ∀ (vs : List Value) (i : Nat) (w : World) (cells : Array Value), w.heap[b]? = some (.cells cells T fz) →
    okFz fz cells.size → o + i + vs.length ≤ cells.size → ones vs →
    ∃ w' cells', (storeCells ⟨b, o, none⟩ vs i).run P w = .ok () w' ∧ Wrote w b cells' w' ∧ cells'.toList = splice cells.toList (o + i) vs
  | [], i, w, cells, h, hf, hn, ho => by
    refine ⟨w, cells, rfl, ⟨rfl, rfl, rfl, rfl, fun _ _ => rfl, fun cs T' fz' h' => by rw [h] at h'; cases h'; exact ⟨h, rfl⟩⟩, by simp [splice]⟩
  | v :: vs, i, w, cells, h, hf, hn, ho => by
    simp only [List.length_cons] at hn
    have hlt : o + i < cells.size := by omega
    have hw := setCell_of (o := o + i) h v
    have h1 := (hw.self _ _ _ h).1
    obtain ⟨w', cells', hr, hW, hc⟩ := run_storeSeg (P := P) (b := b) (o := o) vs (i + 1) (w.setCell ⟨b, o + i, none⟩ v) (cells.setIfInBounds (o + i) v) h1 (by simpa using hf) (by simp only [Array.size_setIfInBounds]; omega)
      (fun z hz => ho z (List.mem_cons_of_mem _ hz))
    refine ⟨w', cells', ?_, ?_, ?_⟩
    · have hv : v.oneCell' = true := by have := ho v (List.mem_cons_self); cases v <;> simp_all [Value.oneCell, Value.oneCell']
      simp only [storeCells, Sem.run_bind, add_none, run_store P w _ v .plain hv, cell_of h, Array.getElem?_eq_getElem hlt, frozen_of h hf hlt]
      simpa using hr
    · exact ⟨hW.os.trans hw.os, hW.tape.trans hw.tape, hW.output.trans hw.output, hW.size.trans hw.size, fun b' hb => (hW.other b' hb).trans (hw.other b' hb), fun cs T' fz' h' => ⟨(hW.self _ _ _ (hw.self _ _ _ h').1).1, (hW.self _ _ _ (hw.self _ _ _ h').1).2.trans (hw.self _ _ _ h').2⟩⟩
    · rw [hc, Array.toList_setIfInBounds, ← Nat.add_assoc, splice_cons (l := cells.toList) (o := o + i) (by rw [Array.length_toList]; exact hn)]

/-! ### the relation of a frame -/
structure Good (E : Env) (c : Cnt) : Prop where
  one : ∀ b, c b ≤ 1
  imm : ∀ τ b, E.I τ b → c b = 0 ∧ b < E.w.heap.size
  sub : ∀ b, E.I false b → E.I true b
  bnd : ∀ b, c b ≠ 0 → b < E.w.heap.size
def bsize (w : World) (b : Nat) : Option Nat :=
  match w.heap[b]? with
  | some (.cells cells _ _) => some cells.size
  | _ => none
structure Adv (E : Env) (c : Cnt) (E' : Env) (c' : Cnt) : Prop where
  sizes : ∀ b n, bsize E.w b = some n → bsize E'.w b = some n
  os : E'.w.os = E.w.os
  tape : E'.w.tape = E.w.tape
  output : E'.w.output = E.w.output
  size : E.w.heap.size ≤ E'.w.heap.size
  frame : ∀ b, b < E.w.heap.size → c b = 0 → E'.w.heap[b]? = E.w.heap[b]?
  sub : ∀ τ b, E.I τ b → E'.I τ b
  own : ∀ b, c' b ≠ 0 → c b ≠ 0 ∨ E.w.heap.size ≤ b
  imm : ∀ τ b, E'.I τ b → E.I τ b ∨ c b ≠ 0 ∨ E.w.heap.size ≤ b
theorem Adv.refl (E : Env) (c : Cnt) : Adv E c E c := ⟨fun _ _ h => h, rfl, rfl, rfl, Nat.le_refl _, fun _ _ _ => rfl, fun _ _ h => h, fun _ h => .inl h, fun _ _ h => .inl h⟩
theorem Adv.trans {E E' E'' : Env} {c c' c'' : Cnt} (h : Adv E c E' c') (h' : Adv E' c' E'' c'') : Adv E c E'' c'' := by
  refine ⟨fun b n hn => h'.sizes b n (h.sizes b n hn), h'.os.trans h.os, h'.tape.trans h.tape, h'.output.trans h.output, Nat.le_trans h.size h'.size, fun b hb hc => ?_, fun τ b hb => h'.sub τ b (h.sub τ b hb), fun b hb => ?_, fun τ b hb => ?_⟩
  · have : c' b = 0 := by
      cases hc' : c' b with
      | zero => rfl
      | succ n => rcases h.own b (by omega) with h1 | h1 <;> omega
    rw [h'.frame b (Nat.lt_of_lt_of_le hb h.size) this, h.frame b hb hc]
  · rcases h'.own b hb with h1 | h1
    · exact h.own b h1
    · exact .inr (Nat.le_trans h.size h1)
  · rcases h'.imm τ b hb with h1 | h1 | h1
    · exact h.imm τ b h1
    · rcases h.own b h1 with h2 | h2
      · exact .inr (.inl h2)
      · exact .inr (.inr h2)
    · exact .inr (.inr (Nat.le_trans h.size h1))
theorem Good.le {E : Env} {c c' : Cnt} (h : Good E c) (hl : cle c' c) : Good E c' :=
  ⟨fun b => Nat.le_trans (hl b) (h.one b), fun τ b hb => ⟨by have := (h.imm τ b hb).1; have := hl b; omega, (h.imm τ b hb).2⟩, h.sub, fun b hb => h.bnd b (by have := hl b; omega)⟩
theorem Adv.le {E E' : Env} {c c' c'' : Cnt} (h : Adv E c E' c') (hl : cle c'' c') : Adv E c E' c'' :=
  ⟨h.sizes, h.os, h.tape, h.output, h.size, h.frame, h.sub, fun b hb => h.own b (by have := hl b; omega), h.imm⟩
structure FRel (N : Nat) (E : Env) (st : St) (tmps : Array Value) (c : Cnt) : Prop where
  sz : tmps.size = N
  σ : SRel E st.σ tmps
  T : TRel E st.T c
  g : Good E c
theorem sRel_put {E : Env} {σ : Sl} {tmps : Array Value} {d : Nat} {x : V} {y : Value} (h : SRel E σ tmps) (hx : Rel E x y c0) (hd : d < tmps.size) :
    SRel E ((d, x) :: σ) (tmps.setIfInBounds d y) := by
  intro t z hz
  simp only [getS] at hz
  split at hz
  · rename_i he; subst he; cases hz
    exact ⟨y, by simp [hd], hx⟩
  · rename_i he
    obtain ⟨u, h1, h2⟩ := h t z hz
    exact ⟨u, by rw [Array.getElem?_setIfInBounds_ne he]; exact h1, h2⟩
theorem FRel.put {N : Nat} {E : Env} {st : St} {tmps : Array Value} {c : Cnt} (h : FRel N E st tmps c) {d : Nat} {x : V} {y : Value} (hx : Rel E x y c0) (hd : d < N) :
    FRel N E (st.put d x) (tmps.setIfInBounds d y) c :=
  ⟨by simpa using h.sz, sRel_put h.σ hx (by rw [h.sz]; exact hd), h.T, h.g⟩
end Go.Vm
