import Derived.Test.YtehgffojgiefaaaVmM
set_option autoImplicit false
set_option linter.unusedVariables false
set_option linter.unusedSimpArgs false
namespace Go.Vm

theorem foldl_splice (off : Nat) : ∀ (l : List Value) (k : Nat) (cs : Array Value), off + k + l.length ≤ cs.size →
    ((l.zipIdx k).foldl (fun cs (x : Value × Nat) => cs.setIfInBounds (off + x.2) x.1) cs).toList = splice cs.toList (off + k) l
  | [], k, cs, h => by simp [splice]
  | v :: l, k, cs, h => by
    simp only [List.length_cons] at h
    simp only [List.zipIdx_cons, List.foldl_cons]
    rw [foldl_splice off l (k + 1) _ (by simp only [Array.size_setIfInBounds]; omega), Array.toList_setIfInBounds, ← Nat.add_assoc, splice_cons (l := cs.toList) (o := off + k) (by rw [Array.length_toList]; omega)]
theorem fill_splice (off : Nat) (v : Value) (cs : Array Value) (h : off + v.cells.size ≤ cs.size) :
    (v.cells.zipIdx.foldl (fun cs (x : Value × Nat) => cs.setIfInBounds (off + x.2) x.1) cs).toList = splice cs.toList off v.cells.toList := by
  have := foldl_splice off v.cells.toList 0 cs (by rw [Array.length_toList]; omega)
  rw [Nat.add_zero] at this
  rw [← this]
  congr 1
  rw [← Array.foldl_toList, Array.toList_zipIdx]
/-- parts one behind the other -/
theorem fill_row (size : Nat) : ∀ (vs : List Value) (k : Nat) (cs : Array Value), (∀ v ∈ vs, v.cells.size = size) → (k + vs.length) * size ≤ cs.size →
    ∃ res, Instr.fill (fun i => some (i * size, size)) cs ((List.range' k vs.length).zip vs) = some res ∧
      res.toList = cs.toList.take (k * size) ++ vs.flatMap (fun v => v.cells.toList) ++ cs.toList.drop ((k + vs.length) * size)
  | [], k, cs, h, hs => ⟨cs, by simp [Instr.fill], by simp⟩
  | v :: vs, k, cs, h, hs => by
    have hv := h v (List.mem_cons_self)
    simp only [List.length_cons] at hs
    have hks : k * size + size ≤ cs.size := by
      have : (k + 1) * size ≤ (k + (vs.length + 1)) * size := Nat.mul_le_mul_right _ (by omega)
      rw [Nat.add_mul, Nat.one_mul] at this; omega
    have hf := fill_splice (k * size) v cs (by omega)
    obtain ⟨res, h1, h2⟩ := fill_row size vs (k + 1) (v.cells.zipIdx.foldl (fun cs (x : Value × Nat) => cs.setIfInBounds (k * size + x.2) x.1) cs) (fun u hu => h u (List.mem_cons_of_mem _ hu)) (by
      have hA : ∀ A : Array Value, A.size = A.toList.length := fun A => (Array.length_toList).symm
      have e1 := hA v.cells
      have e2 := hA cs
      have q1 : (splice cs.toList (k * size) v.cells.toList).length = cs.toList.length := splice_length (by omega)
      have q3 : (v.cells.zipIdx.foldl (fun cs (x : Value × Nat) => cs.setIfInBounds (k * size + x.2) x.1) cs).size = cs.size := by rw [hA, hf, q1]; exact e2.symm
      rw [q3, show k + 1 + vs.length = k + (vs.length + 1) by omega]; exact hs)
    refine ⟨res, ?_, ?_⟩
    · simp only [List.length_cons, List.range'_succ, List.zip_cons_cons, Instr.fill]
      rw [if_neg (by simp [hv]; omega)]
      exact h1
    · rw [h2, hf]
      have hvl : v.cells.toList.length = size := by rw [Array.length_toList]; exact hv
      have hcl : cs.toList.length = cs.size := Array.length_toList
      have e1 : (splice cs.toList (k * size) v.cells.toList).take ((k + 1) * size) = cs.toList.take (k * size) ++ v.cells.toList := by
        have hl : (cs.toList.take (k * size) ++ v.cells.toList).length = (k + 1) * size := by
          rw [List.length_append, List.length_take, hvl, Nat.add_mul, Nat.one_mul]; omega
        unfold splice
        rw [← hl, List.take_left]
      have e2 : (splice cs.toList (k * size) v.cells.toList).drop ((k + 1 + vs.length) * size) = cs.toList.drop ((k + (vs.length + 1)) * size) := by
        have hl : (cs.toList.take (k * size) ++ v.cells.toList).length = k * size + size := by
          rw [List.length_append, List.length_take, hvl]; omega
        have hx : (k + 1 + vs.length) * size = (k * size + size) + vs.length * size := by rw [Nat.add_mul, Nat.add_mul, Nat.one_mul]
        unfold splice
        rw [hx, ← hl, List.drop_length_add_append, List.drop_drop, hvl]
        congr 1
        rw [show k + (vs.length + 1) = k + 1 + vs.length by omega, hx]
      rw [e1, e2]; simp
theorem relR_rows {E : Env} {e : Nat} : ∀ {ys : List V} {vs : List Value}, RelL E ys vs c0 → ys.all (fun y => oneL y.cells && y.cells.length == e) = true →
    RelR E e ys (vs.flatMap fun v => v.cells.toList) c0 ∧ ∀ v ∈ vs, v.cells.size = e
  | [], vs, h, ha => by simp only [RelL] at h; rw [h.1]; exact ⟨by simp [RelR], fun v hv => by cases hv⟩
  | y :: ys, vs, h, ha => by
    simp only [RelL] at h
    obtain ⟨v, t, d1, d2, rfl, h1, h2, hc⟩ := h
    obtain ⟨rfl, rfl⟩ := cz hc.symm.symm rfl
    simp only [List.all_cons, Bool.and_eq_true, beq_iff_eq] at ha
    obtain ⟨hs, ho⟩ := rel_ones h1 ha.1.1
    obtain ⟨h3, h4⟩ := relR_rows h2 (by rw [List.all_eq_true] at *; simpa using ha.2)
    refine ⟨?_, fun u hu => ?_⟩
    · simp only [List.flatMap_cons, RelR]
      exact ⟨v, _, c0, c0, rfl, by omega, ha.1.2, ho, h1, h3, rfl⟩
    · rcases List.mem_cons.1 hu with rfl | hu
      · omega
      · exact h4 u hu
theorem mod_rows (zero : Array Value) : ∀ l : Nat, (List.range (l * zero.size)).map (fun j => zero[j % zero.size]!) = (List.replicate l zero.toList).flatten
  | 0 => by simp
  | l + 1 => by
    rw [Nat.add_mul, Nat.one_mul, List.range_add, List.map_append, mod_rows zero l, List.replicate_succ', List.flatten_append, List.map_map]
    congr 1
    simp only [List.flatten_cons, List.flatten_nil, List.append_nil]
    apply List.ext_getElem?
    intro j
    simp only [List.getElem?_map, List.getElem?_range, Function.comp_def]
    by_cases hj : j < zero.size
    · simp [hj, List.getElem?_range, Nat.mod_eq_of_lt hj]
    · simp [hj]
section
variable {P : Program} {N : Nat} {E : Env} {c : Cnt} {st st' : St} {a : Act} {d : Nat} {call : Call}
/-- a block that nobody names -/
theorem frel_junk {E : Env} {o : Obj} {w' : World} {c : Cnt} (hg : Good E c) (hw : Grew E.w o w') :
    Mono E { E with w := w' } c ∧ Good { E with w := w' } c ∧ Adv E c { E with w := w' } c := by
  have hold : ∀ b, b < E.w.heap.size → w'.heap[b]? = E.w.heap[b]? := fun b hb => by rw [hw.heap, Array.getElem?_push, if_neg (by omega)]
  have hsize : w'.heap.size = E.w.heap.size + 1 := by rw [hw.heap]; simp
  refine ⟨⟨fun τ b hb => ⟨hb, hold b (hg.imm τ b hb).2⟩, fun b hb => hold b (hg.bnd b hb), fun k l h => h⟩,
    ⟨hg.one, fun τ b hb => ⟨(hg.imm τ b hb).1, ?_⟩, hg.sub, fun b hb => ?_⟩,
    ⟨fun b n hn => ?_, hw.os, hw.tape, hw.output, ?_, fun b hb _ => hold b hb, fun _ _ h => h, fun b hb => .inl hb, fun τ b hb => .inl hb⟩⟩
  · show b < w'.heap.size
    have := (hg.imm τ b hb).2; omega
  · show b < w'.heap.size
    have := hg.bnd b hb; omega
  · rw [bsize_eq (hold b (bsize_lt hn))]; exact hn
  · show E.w.heap.size ≤ w'.heap.size
    omega
/-- a row that is new -/
theorem s_row {e : Nat} {ys : List V} {cells : Array Value} {ty : TypeId} {len cap : Nat} {w' : World}
    (hR : RelR E e ys (seg cells 0 (ys.length * e)) c0) (hle : ys.length * e ≤ cells.size) {fz : Nat × Nat} (hfz : okFz fz cells.size) (hG : Grew E.w (.cells cells ty fz) w')
    (hlen : len = ys.length) (hcap : len ≤ cap) (hroom : cap * e ≤ cells.size) (h : FRel N E st a.tmps c) (hd : d < N) :
    Comes1 N E c { σ := (d, .s (d, 0) 0 len) :: (wipe d st).σ, T := ((d, 0), e, killL d ys) :: (wipe d st).T } a (some d) (.ok (.value (.slice (some ⟨E.w.heap.size, 0, none⟩) len cap)) w') := by
  obtain ⟨c1, hσ1, hT1, hle1⟩ := wipe_rel d h.σ h.T
  by_cases h0 : cap = 0
  · have hl0 : len = 0 := by omega
    have hys : ys = [] := List.length_eq_zero_iff.1 (by omega)
    subst h0; subst hys; subst hl0
    obtain ⟨m1, g1, a1⟩ := frel_junk (E := E.drop d) ((h.g.drop d).le hle1) hG
    have hn := names_one (d := d) (j := 0) (E := { E.drop d with w := w' }) (fun i _ => drop_free E d i) (.emp (some ⟨E.w.heap.size, 0, none⟩))
    refine ⟨{ E.drop d with w := w' }.name (d, 0) (.emp (some ⟨E.w.heap.size, 0, none⟩)), c1, rfl, keeps_drop hn.hout, ⟨by simpa [Act.put] using h.sz, ?_, ?_, ?_⟩, ?_⟩
    · refine sRel_put (sRel_mono (sRel_mono hσ1 (m1.le (c0_le _))) (hn.mono _)) ?_ (by rw [h.sz]; exact hd)
      simp only [Rel]; exact ⟨by trivial, .inl ⟨some ⟨E.w.heap.size, 0, none⟩, by simp [Env.name], by trivial, by trivial, by trivial⟩⟩
    · exact ⟨c0, c1, .inl ⟨⟨some ⟨E.w.heap.size, 0, none⟩, by simp [Env.name]⟩, by simp [killL], rfl⟩, tRel_mono (tRel_mono hT1 m1) (hn.mono _), (c0_cadd _).symm⟩
    · exact good_names (E := { E.drop d with w := w' }) rfl rfl (cle_refl _) g1
    · have a2 : Adv E c1 ({ E.drop d with w := w' }.name (d, 0) (.emp (some ⟨E.w.heap.size, 0, none⟩))) c1 :=
        ⟨a1.sizes, a1.os, a1.tape, a1.output, a1.size, a1.frame, a1.sub, a1.own, a1.imm⟩
      exact adv_le a2 hle1
  obtain ⟨E', c', hw, hks, hμ, hF, hA, hc⟩ := frel_alloc (d := d) (xs := killL d ys) (tmps := a.tmps) (E := E.drop d) h.sz hσ1 hT1 (drop_free E d) (by rw [killL_length]; exact hle) (by rw [killL_length]; exact relR_drop (d := d) hR)
    ((h.g.drop d).le (by rw [c0_cadd]; exact hle1)) hfz hG
  refine ⟨E', c', hw, keeps_drop hks, ?_, adv_le (c1 := cadd c0 c1) ⟨hA.sizes, hA.os, hA.tape, hA.output, hA.size, hA.frame, hA.sub, hA.own, hA.imm⟩ (by rw [c0_cadd]; exact hle1)⟩
  refine hF.put (x := .s (d, 0) 0 len) ?_ hd
  simp only [Rel]
  exact ⟨by trivial, .inr ⟨_, 0, e, _, cap, _, hμ, hcap, by simpa using hroom, fun _ => by omega, .inr (by simp [Env.drop]), rfl⟩⟩
theorem s_mks {parts : List Operand} {hp p' : List AO} {t et : TypeId} {ei : TypeInfo} {z : Value} (h1 : trOs parts hp = some p')
    (ht : P.underlying t = some (.slice et)) (hi : P.info? et = some ei) (hzero : ei.zero = some z) (hzs : z.cells.size = ei.size) (hlim : parts.length * ei.size ≤ 2 ^ 24)
    (hs : astep call st (.mks d ei.size p') = some st') (h : FRel N E st a.tmps c) (hd : d < N) :
    Comes1 N E c st' a (some d) (Sem.run P (do pure (.value (← Instr.buildSlice t parts.length ((List.range' 0 parts.length).zip (parts.map a.eval)).toArray))) E.w) := by
  simp only [astep] at hs
  split at hs
  case h_2 => cases hs
  rename_i ys hys
  split at hs
  case isFalse => cases hs
  rename_i hall
  simp only [Option.some.injEq] at hs; subst hs
  have hL := evL_rel h.σ h1 hys
  have hl := relL_length hL
  simp only [List.length_map] at hl
  obtain ⟨hR, hsz⟩ := relR_rows hL hall
  have hRl := relR_length hR
  let start : Array Value := (Array.range (parts.length * ei.size)).map fun j => (if parts.length * ei.size = 0 then #[] else z.cells)[j % (if parts.length * ei.size = 0 then #[] else z.cells).size]!
  have hst : start.size = parts.length * ei.size := by simp [start]
  obtain ⟨res, hf, hres⟩ := fill_row ei.size (parts.map a.eval) 0 start hsz (by simp [hst])
  simp only [List.length_map, Nat.zero_add, Nat.zero_mul, List.take_zero, List.nil_append] at hf hres
  rw [List.drop_eq_nil_of_le (by rw [Array.length_toList, hst]; exact Nat.le_refl _), List.append_nil] at hres
  have hrun : Sem.run P (Instr.buildSlice t parts.length ((List.range' 0 parts.length).zip (parts.map a.eval)).toArray) E.w =
      .ok (.slice (some ⟨E.w.heap.size, 0, none⟩) parts.length parts.length) { E.w with heap := E.w.heap.push (.cells res et) } := by
    simp only [Instr.buildSlice, Sem.run_bind, run_underlying ht, run_sizeOf hi, Result.andThen_ok]
    rw [if_neg (by omega)]
    simp only [zeroValue, Sem.run_bind, run_typeInfo hi, hzero, Result.andThen_ok, Sem.run_pure]
    by_cases h0 : parts.length * ei.size = 0
    · simp only [start, if_pos h0] at hf
      simp only [h0, if_true, Sem.run_bind, Sem.run_pure, Result.andThen_ok] at hf ⊢
      rw [hf]; rfl
    · simp only [start, if_neg h0] at hf
      simp only [h0, if_false, Sem.run_bind, run_typeInfo hi, hzero, Sem.run_pure, Result.andThen_ok]
      rw [hf]; rfl
  simp only [Sem.run_bind, hrun, Result.andThen_ok, Sem.run_pure]
  have hrs : res.size = ys.length * ei.size := by rw [← Array.length_toList, hres, hRl]
  have hseg : seg res 0 (ys.length * ei.size) = (parts.map a.eval).flatMap fun v => v.cells.toList := by rw [← hrs, seg_arr, hres]
  rw [hl]
  exact s_row (fz := (0, 0)) (by rw [hseg]; exact hR) (by omega) (.inr (Nat.le_refl _)) ⟨rfl, rfl, rfl, rfl⟩ rfl (Nat.le_refl _) (by omega) h hd
end
end Go.Vm
