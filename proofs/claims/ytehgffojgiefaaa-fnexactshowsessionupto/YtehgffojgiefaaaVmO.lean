import Derived.Test.YtehgffojgiefaaaVmN
import Derived.Laws.Tables
import Derived.Laws.MakeOwn
set_option autoImplicit false
set_option linter.unusedVariables false
set_option linter.unusedSimpArgs false
namespace Go.Vm

section
variable {P : Program} {N : Nat} {E : Env} {c : Cnt} {st st' : St} {a : Act} {d : Nat} {call : Call}

/-! ### a struct of parts -/
def placesT (P : Program) (t : TypeId) : Option (List (Nat × Nat)) :=
  match P.underlying t with
  | some (.struct fields) => fields.toList.mapM (fun f => (P.info? f.type).map fun i => (f.offset, i.size))
  | _ => none
def trB (places : List (Nat × Nat)) : List (Nat × Operand) → List AO → Option (List (Nat × Nat × AO))
  | [], [] => some []
  | (i, x) :: r, h :: hs => match places[i]?, trO x h, trB places r hs with
    | some p, some y, some ys => some ((p.1, p.2, y) :: ys)
    | _, _, _ => none
  | _, _ => none
theorem relL_splice {cs ys : List V} {zs vs : List Value} {off : Nat} (h : RelL E cs zs c0) (hy : RelL E ys vs c0) (hle : off + ys.length ≤ cs.length) :
    RelL E (cs.take off ++ ys ++ cs.drop (off + ys.length)) (splice zs off vs) c0 := by
  have hl := relL_length hy
  obtain ⟨f0, f1, f2, g0, g1, g2, hq⟩ := relL_pieces h off ys.length hle
  have z0 : f0 = c0 := funext fun b => by have := congrFun hq b; simp only [c0, cadd] at this ⊢; omega
  have z2 : f2 = c0 := funext fun b => by have := congrFun hq b; simp only [c0, cadd] at this ⊢; omega
  subst z0; subst z2
  unfold splice
  rw [hl]
  exact relL_append (relL_append g0 hy) g2
theorem fill_rel {places : List (Nat × Nat)} (hσ : SRel E st.σ a.tmps) : ∀ {parts : List (Nat × Operand)} {hp : List AO} {p' : List (Nat × Nat × AO)} {cs cs' : List V} {cells : Array Value},
    trB places parts hp = some p' → buildV st.σ cs p' = some cs' → RelL E cs cells.toList c0 →
    ∃ cells', Instr.fill (places.toArray[·]?) cells (parts.map fun x => (x.1, a.eval x.2)) = some cells' ∧ RelL E cs' cells'.toList c0
  | [], [], p', cs, cs', cells, h, hb, hr => by
    simp only [trB, Option.some.injEq] at h; subst h
    simp only [buildV, Option.some.injEq] at hb; subst hb
    exact ⟨cells, rfl, hr⟩
  | [], _ :: _, p', cs, cs', cells, h, hb, hr => by simp [trB] at h
  | _ :: _, [], p', cs, cs', cells, h, hb, hr => by simp [trB] at h
  | (i, x) :: r, h' :: hs, p', cs, cs', cells, h, hb, hr => by
    simp only [trB] at h
    split at h
    case h_2 => cases h
    rename_i p y ys h1 h2 h3
    simp only [Option.some.injEq] at h; subst h
    simp only [buildV] at hb
    split at hb
    case h_2 => cases hb
    rename_i z hz
    split at hb
    case isFalse => cases hb
    rename_i hc
    obtain ⟨hnd, hlen, hle⟩ := hc
    have hx := ev_rel hσ h2 hz
    have hsz := rel_size hx (by rintro rfl; simp [V.dead] at hnd)
    have hcl := relL_length hr
    rw [Array.length_toList] at hcl
    have hfs := fill_splice p.1 (a.eval x) cells (by omega)
    have hsp := relL_splice (off := p.1) hr (rel_cells hx hsz) (by omega)
    rw [hlen, ← hfs] at hsp
    obtain ⟨cells', h4, h5⟩ := fill_rel hσ h3 hb hsp
    refine ⟨cells', ?_, h5⟩
    have hpl : places.toArray[i]? = some p := by simpa using h1
    simp only [List.map_cons, Instr.fill, hpl]
    rw [if_neg (by simp; omega)]
    exact h4
theorem s_build {parts : Array (Nat × Operand)} {hp : List AO} {p' : List (Nat × Nat × AO)} {t : TypeId} {places : List (Nat × Nat)} {it : TypeInfo} {z : Value} {hz zv : V}
    (hi : P.info? t = some it) (hzero : it.zero = some z) (hcv : cVL z.cells.toList hz.cells = some zv.cells) (hpl : placesT P t = some places) (h1 : trB places parts.toList hp = some p')
    (hs : astep call st (.build d zv p') = some st') (h : FRel N E st a.tmps c) (hd : d < N) :
    ComesQ N E st st' (some d) (Sem.run P (do pure (.value (← Instr.build t (parts.map fun (i, x) => (i, a.eval x))))) E.w) := by
  simp only [astep, Option.map_eq_some_iff] at hs
  obtain ⟨cs', hb, rfl⟩ := hs
  obtain ⟨cells', hf, hr⟩ := fill_rel h.σ h1 hb (relL_cVL hcv)
  unfold placesT at hpl
  split at hpl
  case h_2 => cases hpl
  rename_i fields hu
  have hbuilt : P.built t (parts.map fun (i, x) => (i, a.eval x)).toList = some cells' := by
    simp only [Program.built, hi, hu, hzero, hpl, Array.toList_map]
    exact hf
  simp only [Sem.run_bind, run_build E.w t _ _ hbuilt, Result.andThen_ok, Sem.run_pure]
  refine comes_put h hd ?_
  have := rel_a hr
  simpa using this

/-! ### make -/
theorem relR_replicate {z : V} {zv : Value} {e : Nat} (hz : Rel E z zv c0) (hs : zv.cells.size = e) (hl : z.cells.length = e) (ho : ones zv.cells.toList) :
    ∀ l : Nat, RelR E e (List.replicate l z) (List.replicate l zv.cells.toList).flatten c0
  | 0 => by simp [RelR]
  | l + 1 => by
    simp only [List.replicate_succ, List.flatten_cons, RelR]
    exact ⟨zv, _, c0, c0, rfl, hs, hl, ho, hz, relR_replicate hz hs hl ho l, rfl⟩
mutual
theorem killV_clB (d : Nat) : ∀ x : V, clB x = true → killV d x = x
  | .v _, _ => rfl
  | .q .., _ => rfl
  | .i .., _ => rfl
  | .o .., _ => rfl
  | .b _, _ => rfl
  | .f fn first caps, h => by
    simp only [clB, Bool.and_eq_true] at h
    simp only [killV, killL_clBL d first h.1, killL_clBL d caps h.2]
  | .p .., h => by simp [clB] at h
  | .s .., h => by simp [clB] at h
  | .n _, _ => rfl
  | .a _, h => by simp [clB] at h
  | .t _, h => by simp [clB] at h
  | .d, h => by simp [clB] at h
theorem killL_clBL (d : Nat) : ∀ xs : List V, clBL xs = true → killL d xs = xs
  | [], _ => rfl
  | x :: xs, h => by
    simp only [clBL, Bool.and_eq_true] at h
    simp only [killL, killV_clB d x h.1, killL_clBL d xs h.2]
end
theorem killV_cl {z : V} (h : clE z = true) : killV d z = z := by
  cases z <;> first | exact killV_clB d _ h | (simp only [clE] at h; simp only [killV, killL_clBL d _ h])
theorem killL_replicate {z : V} (hz : clE z = true) : ∀ l : Nat, killL d (List.replicate l z) = List.replicate l z
  | 0 => rfl
  | l + 1 => by
    have hk : killV d z = z := killV_cl hz
    simp only [List.replicate_succ, killL, hk, killL_replicate hz l]
theorem s_mk {x y : Operand} {hx hy x' y' : AO} {t et : TypeId} {ei : TypeInfo} {z : Value} {hz zv : V} (h1 : trO x hx = some x') (h2 : trO y hy = some y')
    (ht : P.underlying t = some (.slice et)) (hi : P.info? et = some ei) (hzero : ei.zero = some z) (hcv : cV z hz = some zv) (hzs : z.cells.size = ei.size)
    (hs : astep call st (.mk d ei.size zv ei.bytes x' y') = some st') (h : FRel N E st a.tmps c) (hd : d < N) :
    Comes1 N E c st' a (some d) (Sem.run P (do pure (.value (← Instr.makeSlice t (a.eval x) (a.eval y)))) E.w) := by
  simp only [astep] at hs
  split at hs
  case h_2 => cases hs
  rename_i kl l kc cp hl hc
  have hrl := ev_rel h.σ h1 hl
  have hrc := ev_rel h.σ h2 hc
  simp only [Rel] at hrl hrc
  split at hs
  case isFalse => cases hs
  rename_i hcond
  obtain ⟨h0, heq, hbytes, hlim, hlen, hone, hcl⟩ := hcond
  simp only [Option.some.injEq] at hs; subst hs
  subst heq
  simp only [lim] at hbytes hlim
  have hb2 : (ei.bytes : Int) * l ≤ 281474976710656 := by rw [Int.mul_comm]; omega
  have hrun := run_make (P := P) (w := E.w) t et ei z ht hi hzero kl kc l l h0 (Int.le_refl _) hb2 (by omega)
  rw [hrl.1, hrc.1]
  simp only [Sem.run_bind, hrun, Result.andThen_ok, Sem.run_pure]
  have hz := rel_cV (E := E) hcv
  obtain ⟨hzl, hzo⟩ := rel_ones hz hone
  have hR := relR_replicate hz hzs hlen hzo l.toNat
  have hcells : (madeCells z.cells (l.toNat * ei.size)).toList = (List.replicate l.toNat z.cells.toList).flatten := by
    rw [← hzs, madeCells, ← mod_rows]
    simp
  have hsz : (madeCells z.cells (l.toNat * ei.size)).size = l.toNat * ei.size := size_madeCells _ _
  have hseg : seg (madeCells z.cells (l.toNat * ei.size)) 0 ((List.replicate l.toNat zv).length * ei.size) = (List.replicate l.toNat z.cells.toList).flatten := by
    rw [List.length_replicate, ← hcells]
    have := seg_arr (madeCells z.cells (l.toNat * ei.size))
    rwa [hsz] at this
  have := s_row (len := l.toNat) (cap := l.toNat) (st := st) (a := a) (d := d) (fz := (0, 0)) (ty := et) (w' := E.w.alloc (.cells (madeCells z.cells (l.toNat * ei.size)) et)) (by rw [hseg]; exact hR) (by rw [List.length_replicate, hsz]; exact Nat.le_refl _) (.inr (Nat.le_refl _)) ⟨rfl, rfl, rfl, rfl⟩ (by simp) (Nat.le_refl _) (by rw [hsz]; exact Nat.le_refl _) h hd
  rw [killL_replicate hcl] at this
  exact this
end
end Go.Vm
