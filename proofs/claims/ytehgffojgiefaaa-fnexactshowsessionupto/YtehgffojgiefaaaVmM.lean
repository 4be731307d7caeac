import Derived.Test.YtehgffojgiefaaaVmL
import Derived.Deep.AppendSrc
set_option autoImplicit false
set_option linter.unusedVariables false
set_option linter.unusedSimpArgs false
namespace Go.Vm

theorem growBy_le (n : Nat) : ∀ (r c : Nat), c ≤ n + (n + 768) / 4 → Builtin.growBy n r c ≤ n + (n + 768) / 4
  | 0, c, h => h
  | r + 1, c, h => by
    simp only [Builtin.growBy]
    split
    · exact h
    · exact growBy_le n r _ (by omega)
theorem nextcap_le {n old : Nat} (h : old < n) : Builtin.nextslicecap n old ≤ 2 * n + 192 := by
  unfold Builtin.nextslicecap
  split
  · omega
  · split
    · omega
    · have := growBy_le n 4 old (by omega); omega
theorem ones' {l : List Value} (h : ones l) : ∀ u ∈ l, u.oneCell' = true := fun u hu => by have := h u hu; cases u <;> simp_all [Value.oneCell, Value.oneCell']
theorem relR_ones {E : Env} {e : Nat} : ∀ {xs : List V} {ys : List Value} {c : Cnt}, RelR E e xs ys c → ones ys
  | [], ys, c, h => by simp only [RelR] at h; rw [h.1]; intro z hz; cases hz
  | x :: xs, ys, c, h => by
    simp only [RelR] at h
    obtain ⟨y, t, c1, c2, rfl, -, -, ho, -, h2, -⟩ := h
    intro z hz
    rcases List.mem_append.1 hz with hz | hz
    · exact ho z hz
    · exact relR_ones h2 z hz
section
variable {P : Program} {N : Nat} {E : Env} {c : Cnt} {st st' : St} {a : Act} {d : Nat} {call : Call}
theorem cz {x y z : Cnt} (h : x = cadd y z) (hx : x = c0) : y = c0 ∧ z = c0 := by
  subst hx
  exact ⟨funext fun b => by have := congrFun h b; simp only [c0, cadd] at this ⊢; omega, funext fun b => by have := congrFun h b; simp only [c0, cadd] at this ⊢; omega⟩
/-- the elements of a slice, as the world has them -/
theorem elems_rel {T : Mem} {x : V} {v : Value} {e : Nat} {ys : List V} {sh : Bool} (hT : TRel E T c) (hx : Rel E x v c0) (he : elemsOf T e x = some ys) (hz : zeroBL ys = true)
    (hl : ys.all (fun y => y.cells.length == e) = true) :
    ∃ news, RelR E e ys news c0 ∧ ((v = .slice none 0 0 ∧ ys = []) ∨ ∃ A cap, v = .slice (some A) ys.length cap ∧ ∀ j u, news[j]? = some u → E.w.cell? (A.add j) = some u) ∨ (ys = [] ∧ ∃ A cap, v = .slice A 0 cap ∧ RelR E e ys [] c0 ∧ news = []) := by
  unfold elemsOf at he
  split at he
  · rename_i k lo len
    split at he
    case h_2 => cases he
    rename_i ob hg
    split at he
    case isFalse => cases he
    rename_i hh
    simp only [Option.some.injEq] at he; subst he
    simp only [Rel] at hx
    obtain ⟨-, ⟨A0, hμ, rfl, rfl, rfl⟩ | ⟨b, base, e', lim, cap, A, hμ, hcap, hroom, hpos, hA, rfl⟩⟩ := hx
    · exact ⟨[], .inr ⟨by simp, A0, 0, rfl, by simp [RelR], rfl⟩⟩
    · obtain ⟨c1, c2, ho, -, -⟩ := tRel_get hT hg
      rcases ho with ⟨⟨A0, q1⟩, -⟩ | ⟨b2, base2, lim2, cells, ty, fz, c3, q1, hw, hsz, hf, hs, hr, -⟩
      · rw [q1] at hμ; cases hμ
      · rw [q1] at hμ; cases hμ
        obtain ⟨f1, f2, h1, h2, hq⟩ := relR_take lo hr
        obtain ⟨f3, f4, h3, h4, hq'⟩ := relR_take len h2
        have h0 := relR_zero h3 hz
        subst h0
        have hm : lo * ob.1 + len * ob.1 ≤ ob.2.length * ob.1 := by rw [← Nat.add_mul]; exact Nat.mul_le_mul_right _ hh.2
        rw [seg_sub hm, hh.1] at h3
        have hlen : ((ob.2.drop lo).take len).length = len := by simp; omega
        rcases hA with hA | hA
        · have h00 : len = 0 := by omega
          subst h00
          exact ⟨[], .inr ⟨by simp, some A, cap, by simp, by simp [RelR], rfl⟩⟩
        · refine ⟨_, .inl ⟨h3, .inr ⟨A, cap, by rw [hlen], fun j u hu => ?_⟩⟩⟩
          rw [hA, add_none, cell_of hw, hh.1]
          exact seg_get hu
  · rename_i τ xs
    simp only [Option.some.injEq] at he; subst he
    simp only [Rel] at hx
    obtain ⟨-, A, cap, rfl, hcap, hR⟩ := hx
    rcases hR with rfl | ⟨b, base, e', cells, ty, fz, rfl, hI, hw, hR⟩
    · exact ⟨[], .inr ⟨rfl, A, cap, by simp, by simp [RelR], rfl⟩⟩
    · cases xs with
      | nil => exact ⟨[], .inr ⟨rfl, some ⟨b, base, none⟩, cap, by simp, by simp [RelR], rfl⟩⟩
      | cons x0 xs0 =>
        have hee : e' = e := by
          have hR' := hR
          simp only [RelR] at hR'
          obtain ⟨y, t, c1, c2, -, -, hl0, -⟩ := hR'
          simp only [List.all_cons, Bool.and_eq_true, beq_iff_eq] at hl
          omega
        subst hee
        exact ⟨_, .inl ⟨relR_mono hR (mono_cl E c0), .inr ⟨_, cap, rfl, fun j u hu => by rw [add_none, cell_of hw]; exact seg_get hu⟩⟩⟩
  · simp only [Option.some.injEq] at he; subst he
    simp only [Rel] at hx
    exact ⟨[], .inl ⟨by simp [RelR], .inl ⟨hx.1, rfl⟩⟩⟩
  · cases he
theorem src_of {v : Value} {e : Nat} {ys : List V} {tx e' : TypeId} (hk : P.underlying tx = some (.slice e')) {news : List Value} (hR : RelR E e ys news c0)
    (hv : (v = .slice none 0 0 ∧ ys = []) ∨ (∃ A cap, v = .slice (some A) ys.length cap ∧ ∀ j u, news[j]? = some u → E.w.cell? (A.add j) = some u) ∨ (ys = [] ∧ ∃ A cap, v = .slice A 0 cap)) :
    Src P e tx v ys.length news E.w := by
  have hl := relR_length hR
  have ho := ones' (relR_ones hR)
  rcases hv with ⟨rfl, rfl⟩ | ⟨A, cap, rfl, h⟩ | ⟨rfl, A, cap, rfl⟩
  · simp only [List.length_nil, Nat.zero_mul, List.length_eq_zero_iff] at hl; subst hl; exact Src.ofNil E.w hk 0
  · exact Src.ofSlice E.w hk A _ _ news hl h ho
  · simp only [List.length_nil, Nat.zero_mul, List.length_eq_zero_iff] at hl; subst hl
    cases A with
    | none => exact Src.ofNil E.w hk cap
    | some A => exact Src.ofSlice E.w hk A 0 cap [] (by simp) (fun j u h => by simp at h) (fun u h => by cases h)
theorem killL_append (d : Nat) (xs ys : List V) : killL d (xs ++ ys) = killL d xs ++ killL d ys := by induction xs <;> simp_all [killL]
theorem elems_src {T : Mem} {x : V} {v : Value} {e : Nat} {ys : List V} {tx e' : TypeId} (hk : P.underlying tx = some (.slice e')) (hT : TRel E T c) (hx : Rel E x v c0) (he : elemsOf T e x = some ys) (hz : zeroBL ys = true)
    (hl : ys.all (fun y => y.cells.length == e) = true) : ∃ news, RelR E e ys news c0 ∧ Src P e tx v ys.length news E.w := by
  obtain ⟨news, ⟨h1, h2⟩ | ⟨h1, A, cap, h2, h3, h4⟩⟩ := elems_rel (sh := true) hT hx he hz hl
  · rcases h2 with h2 | h2
    · exact ⟨news, h1, src_of hk h1 (.inl h2)⟩
    · exact ⟨news, h1, src_of hk h1 (.inr (.inl h2))⟩
  · exact ⟨[], h3, src_of hk h3 (.inr (.inr ⟨h1, A, cap, h2⟩))⟩
theorem Grew.drew {w : World} {o : Obj} : Grew w o (w.drew.alloc o) := ⟨rfl, rfl, rfl, rfl⟩
theorem s_app {x y : Operand} {hx hy x' y' : AO} {t tx ty et ex : TypeId} {ei : TypeInfo} {z : Value} (h1 : trO x hx = some x') (h2 : trO y hy = some y')
    (ht : P.underlying t = some (.slice et)) (hi : P.info? et = some ei) (hzero : ei.zero = some z) (hk : P.underlying tx = some (.slice ex)) (hb : ei.bytes ≤ 1048576) (hzs : z.cells.size = ei.size)
    (hs : astep call st (.app d ei.size ei.bytes x' y') = some st') (h : FRel N E st a.tmps c) (hd : d < N) :
    Comes1 N E c st' a (some d) (Sem.run P (do pure (.value (← Builtin.append_ #[t, tx] ty #[a.eval x, a.eval y]))) E.w) := by
  simp only [astep] at hs
  split at hs
  case h_2 => cases hs
  rename_i xv yv hxv hyv
  have hrx := ev_rel h.σ h1 hxv
  have hry := ev_rel h.σ h2 hyv
  split at hs
  case h_2 => cases hs
  rename_i ys xs T' hys hxs
  split at hs
  case isFalse => cases hs
  rename_i hcond
  simp only [Bool.and_eq_true, decide_eq_true_eq] at hcond
  obtain ⟨⟨⟨hz, hall⟩, hbytes⟩, hlim⟩ := hcond
  simp only [Option.some.injEq] at hs; subst hs
  have hall' : ys.all (fun y => y.cells.length == ei.size) = true := by
    rw [List.all_eq_true] at hall ⊢
    intro u hu; have := hall u hu; simp only [Bool.and_eq_true] at this; exact this.2
  obtain ⟨news, hnR, hsrc⟩ := elems_src (P := P) hk h.T hry hys hz hall'
  have hnl := relR_length hnR
  -- what x is, and what is left
  have hx : ∃ cx cr, TRel E T' cr ∧ cle (cadd cx cr) c ∧
      ((∃ A0, a.eval x = .slice A0 0 0 ∧ xs = [] ∧ cx = c0) ∨
       ∃ b base lim cap A cells tyb fz cxs, a.eval x = .slice (some A) xs.length cap ∧ xs.length ≤ cap ∧ base + cap * ei.size ≤ lim ∧ 0 < cap ∧ A = ⟨b, base, none⟩ ∧
         E.w.heap[b]? = some (.cells cells tyb fz) ∧ cells.size = lim ∧ okFz fz cells.size ∧ RelR E ei.size xs (seg cells base (xs.length * ei.size)) cxs ∧ cx = cadd (delta b) cxs) := by
    unfold app? at hxs
    split at hxs
    · simp only [Option.some.injEq, Prod.mk.injEq] at hxs
      obtain ⟨rfl, rfl⟩ := hxs
      simp only [Rel] at hrx
      exact ⟨c0, c, h.T, by rw [c0_cadd]; exact cle_refl _, .inl ⟨none, hrx.1, rfl, rfl⟩⟩
    · rename_i k lo len
      split at hxs
      case h_2 => cases hxs
      rename_i ob hg
      split at hxs
      case isFalse => cases hxs
      rename_i hh
      simp only [Option.some.injEq, Prod.mk.injEq] at hxs
      obtain ⟨rfl, rfl⟩ := hxs
      obtain ⟨e1, e2, ho, hrest, rfl⟩ := tRel_get h.T hg
      simp only [Rel] at hrx
      obtain ⟨-, ⟨A0, hμ, rfl, rfl, he⟩ | ⟨b, base, e', lim, cap, A, hμ, hcap, hroom, hpos, hA, he⟩⟩ := hrx
      · exact ⟨c0, e2, hrest, by rw [c0_cadd]; exact cle_right _ _, .inl ⟨A0, he, by simp, rfl⟩⟩
      by_cases hc0 : cap = 0
      · have hl0 : len = 0 := by omega
        subst hc0; subst hl0
        exact ⟨c0, e2, hrest, by rw [c0_cadd]; exact cle_right _ _, .inl ⟨some A, he, by simp, rfl⟩⟩
      replace hA := hA.resolve_left hc0
      · rcases ho with ⟨⟨A0, q1⟩, -⟩ | ⟨b2, base2, lim2, cells, tyb, fz, c3, q1, hw, hsz, hf, hsp, hr, rfl⟩
        · rw [q1] at hμ; cases hμ
        · rw [q1] at hμ; cases hμ
          obtain ⟨f1, f2, g1, g2, rfl⟩ := relR_take lo hr
          obtain ⟨f3, f4, g3, g4, rfl⟩ := relR_take len g2
          have hm : lo * ob.1 + len * ob.1 ≤ ob.2.length * ob.1 := by rw [← Nat.add_mul]; exact Nat.mul_le_mul_right _ hh.2
          rw [seg_sub hm] at g3
          have hlen : ((ob.2.drop lo).take len).length = len := by simp; omega
          refine ⟨cadd (delta b) f3, e2, hrest, ?_, .inr ⟨b, base + lo * ob.1, lim, cap, A, cells, tyb, fz, f3, by rw [hlen]; exact he, by rw [hlen]; exact hcap, ?_, by omega, hA, hw, hsz, hf, ?_, rfl⟩⟩
          · intro u; simp only [cadd]; omega
          · rw [← hh.1]; have := Nat.add_mul lo cap ob.1; omega
          · rw [hlen, ← hh.1]; exact g3
    · cases hxs
  obtain ⟨cx, cr, hT', hcle, hx⟩ := hx
  obtain ⟨c1, hσ1, hT1, hle1⟩ := wipe_rel (st := { st with T := T' }) d h.σ hT'
  have hg : Good E (cadd cx cr) := h.g.le hcle
  have hnR1 := relR_drop (d := d) hnR
  have hcc : cle (cadd cx c1) c := fun u => by have := hcle u; have := hle1 u; simp only [cadd] at *; omega
  -- a new row
  have hgrow : ∀ (A : Option Addr) (cap : Nat) (olds : List Value) (cxs : Cnt), a.eval x = .slice A xs.length cap → cap < xs.length + ys.length → RelR E ei.size xs olds cxs → cle cxs cx →
      (Builtin.firstCells ei.size xs.length (.slice A xs.length cap)).run P E.w.drew = .ok olds.toArray E.w.drew →
      Comes1 N E c { σ := (d, .s (d, 0) 0 (xs.length + ys.length)) :: (wipe d { st with T := T' }).σ, T := ((d, 0), ei.size, killL d (xs ++ ys)) :: (wipe d { st with T := T' }).T } a (some d)
        (Sem.run P (do pure (.value (← Builtin.append_ #[t, tx] ty #[a.eval x, a.eval y]))) E.w) := by
    intro A cap olds cxs he hcap hR hcxs hfirst
    have hnc := nextcap_le hcap
    have hrun := run_append_grow_src (P := P) E.w t tx ty et ei z ht hi hzero A xs.length cap olds hfirst (a.eval y) ys.length news hsrc hcap
      (by simp only [lim] at hlim; omega)
      (by
        simp only [lim] at hbytes
        have h1 : Builtin.nextslicecap (xs.length + ys.length) cap * ei.bytes ≤ (2 * (xs.length + ys.length) + 192) * ei.bytes := Nat.mul_le_mul_right _ hnc
        have h2 : (2 * (xs.length + ys.length) + 192) * ei.bytes = 2 * ((xs.length + ys.length) * ei.bytes) + 192 * ei.bytes := by rw [Nat.add_mul, Nat.mul_assoc]
        omega)
    rw [he]
    simp only [Sem.run_bind, hrun, Result.andThen_ok, Sem.run_pure]
    have hge := grownCap_ge E.w (xs.length + ys.length) cap et
    have hol := relR_length hR
    have hRR := relR_append (relR_drop (d := d) hR) hnR1
    rw [← killL_append, cadd_c0] at hRR
    have hseg : seg ((olds ++ news).toArray ++ Builtin.zeroCells z.cells (grownCap E.w (xs.length + ys.length) cap et - (xs.length + ys.length))) 0 ((killL d (xs ++ ys)).length * ei.size) = olds ++ news := by
      have hl : (olds ++ news).length = (killL d (xs ++ ys)).length * ei.size := by rw [killL_length, List.length_append, List.length_append, hol, hnl, Nat.add_mul]
      simp only [seg, List.drop_zero, Array.toList_append, ← hl, List.take_left]
    rw [← hseg] at hRR
    have hfit : (killL d (xs ++ ys)).length * ei.size ≤ ((olds ++ news).toArray ++ Builtin.zeroCells z.cells (grownCap E.w (xs.length + ys.length) cap et - (xs.length + ys.length))).size := by
      simp only [Array.size_append, List.size_toArray, List.length_append, hol, hnl, killL_length, Nat.add_mul]; omega
    obtain ⟨E', c', hw, hks, hμ, hF, hA, hc⟩ := frel_alloc (d := d) (tmps := a.tmps) (ty := et) (fz := (0, 0)) (E := E.drop d) h.sz hσ1 hT1 (drop_free E d) hfit hRR
      ((hg.drop d).le fun u => by have := hcxs u; have := hle1 u; simp only [cadd] at *; omega) (.inr (Nat.le_refl _)) Grew.drew
    refine ⟨E', c', hw, keeps_drop hks, ?_, adv_le (c1 := cadd cxs c1) ⟨hA.sizes, hA.os, hA.tape, hA.output, hA.size, hA.frame, hA.sub, hA.own, hA.imm⟩ fun u => by have := hcc u; have := hcxs u; simp only [cadd] at *; omega⟩
    refine hF.put (x := .s (d, 0) 0 (xs.length + ys.length)) ?_ hd
    simp only [Rel]
    refine ⟨by trivial, .inr ⟨_, 0, ei.size, _, grownCap E.w (xs.length + ys.length) cap et, _, hμ, hge, ?_, fun _ => by omega, .inr (by simp [Env.drop]), rfl⟩⟩
    simp only [Array.size_append, List.size_toArray, List.length_append, hol, hnl, Builtin.zeroCells, Array.size_map, Array.size_range, hzs]
    rw [← Nat.add_mul, ← Nat.add_mul, Nat.zero_add, Nat.zero_add, show xs.length + ys.length + (grownCap E.w (xs.length + ys.length) cap et - (xs.length + ys.length)) = grownCap E.w (xs.length + ys.length) cap et by omega]
    exact Nat.le_refl _
  rcases hx with ⟨A0, he, rfl, rfl⟩ | ⟨b, base, lim0, cap, A, cells, tyb, fz, cxs, he, hcap, hroom, hpos, hA, hw, hsz, hf, hr, rfl⟩
  · -- nil
    by_cases hn : ys = []
    · subst hn
      have hrun : Sem.run P (Builtin.append_ #[t, tx] ty #[a.eval x, a.eval y]) E.w = .ok (.slice A0 0 0) E.w := by
        have hnews : news = [] := by simpa using hnl
        have hl := hsrc.len E.w
        have hc := hsrc.cells
        rw [hnews] at hc
        simp only [List.length_nil] at hl hc
        rw [he]
        cases A0 <;> simp [Builtin.append_, run_underlying ht, run_underlying hk, sizeOf, typeInfo, hi, hl, hc, storeCells]
      simp only [Sem.run_bind, hrun, Result.andThen_ok, Sem.run_pure]
      have hn := names_one (d := d) (j := 0) (E := E.drop d) (fun i _ => drop_free E d i) (.emp A0)
      refine ⟨(E.drop d).name (d, 0) (.emp A0), c1, rfl, keeps_drop hn.hout, ⟨by simpa [Act.put] using h.sz, ?_, ?_, ?_⟩, ?_⟩
      · refine sRel_put (sRel_mono hσ1 (hn.mono _)) ?_ (by rw [h.sz]; exact hd)
        simp only [Rel]; exact ⟨by trivial, .inl ⟨A0, by simp [Env.name], by trivial, by simp, by trivial⟩⟩
      · exact ⟨c0, c1, .inl ⟨⟨A0, by simp [Env.name]⟩, by simp [killL], rfl⟩, tRel_mono hT1 (hn.mono _), (c0_cadd _).symm⟩
      · exact good_names (E := E.drop d) rfl rfl (fun u => by have := hcc u; simp only [cadd, c0] at this; omega) (h.g.drop d)
      · exact adv_names (E := E) rfl rfl (fun u => by have := hcc u; simp only [cadd, c0] at this; omega)
    · have hpos : 0 < ys.length := List.length_pos_iff.2 hn
      refine hgrow A0 0 [] c0 he (by simpa using hpos) (by simp [RelR]) (c0_le _) ?_
      cases A0 with
      | none => exact run_firstCells_none E.w.drew ei.size 0 0 0
      | some A1 => exact run_firstCells_some E.w.drew ei.size 0 A1 0 0 [] (by simp) (fun j v h => by simp at h)
  · by_cases hc : xs.length + ys.length ≤ cap
    · -- there is room
      have hxl : xs.length * ei.size + ys.length * ei.size ≤ cap * ei.size := by rw [← Nat.add_mul]; exact Nat.mul_le_mul_right _ hc
      have hstore : ∃ w' cells', (storeCells (A.add (xs.length * ei.size)) news).run P E.w = .ok () w' ∧ Wrote E.w b cells' w' ∧ cells'.toList = splice cells.toList (base + xs.length * ei.size) news := by
        · rw [hA, add_none]
          have := run_storeSeg (P := P) (b := b) (o := base + xs.length * ei.size) news 0 E.w cells hw hf (by rw [hnl]; omega) (relR_ones hnR)
          simpa using this
      obtain ⟨w', cells', hrs, hW, hc'⟩ := hstore
      have hrun : Sem.run P (Builtin.append_ #[t, tx] ty #[a.eval x, a.eval y]) E.w = .ok (.slice (some A) (xs.length + ys.length) cap) w' := by
        rw [he]
        simp [Builtin.append_, run_underlying ht, run_underlying hk, sizeOf, typeInfo, hi, hsrc.len, hc, hsrc.cells, hrs]
      simp only [Sem.run_bind, hrun, Result.andThen_ok, Sem.run_pure]
      have hg1 : Good (E.drop d) (cadd (cadd (delta b) cxs) c1) := (h.g.drop d).le hcc
      obtain ⟨hmono, hσ', hgood, hadv⟩ := frel_write (N := N) (T' := []) hσ1 hg1 hW
      have hn := names_one (d := d) (j := 0) (E := { E.drop d with w := w' }) (fun i _ => drop_free E d i) (.at b base ei.size lim0)
      have hcl : cells.toList.length = cells.size := Array.length_toList
      have hnewcells : cells'.size = cells.size := by
        rw [← Array.length_toList, hc', splice_length (by rw [hnl, hcl]; omega), hcl]
      have hRR := relR_append (relR_mono (relR_drop (d := d) hr) (hmono cxs (cle_left _ _))) (relR_mono hnR1 (hmono c0 (c0_le _)))
      rw [← killL_append, cadd_c0] at hRR
      have hseg : seg cells base (xs.length * ei.size) ++ news = seg cells' base ((killL d (xs ++ ys)).length * ei.size) := by
        have hlen : (killL d (xs ++ ys)).length * ei.size = xs.length * ei.size + ys.length * ei.size := by rw [killL_length, List.length_append, Nat.add_mul]
        have q := seg_splice (cells := cells) (cells' := cells') (base := base) (n := xs.length * ei.size + ys.length * ei.size) (o := xs.length * ei.size) (vs := news) hc' (by omega) (by omega)
        rw [hlen, q]
        have hsl : (seg cells base (xs.length * ei.size + ys.length * ei.size)).length = xs.length * ei.size + ys.length * ei.size := seg_length (by omega)
        have e1 : (seg cells base (xs.length * ei.size + ys.length * ei.size)).take (xs.length * ei.size) = seg cells base (xs.length * ei.size) := by
          rw [seg_full]; congr 1; omega
        simp only [splice, e1]
        rw [List.drop_eq_nil_of_le (by omega), List.append_nil]
      rw [hseg] at hRR
      refine ⟨{ E.drop d with w := w' }.name (d, 0) (.at b base ei.size lim0), cadd (cadd (delta b) cxs) c1, rfl, keeps_drop hn.hout, ⟨by simpa [Act.put] using h.sz, ?_, ?_, ?_⟩, ?_⟩
      · refine sRel_put (sRel_mono hσ' (hn.mono _)) ?_ (by rw [h.sz]; exact hd)
        simp only [Rel]
        exact ⟨by trivial, .inr ⟨b, base, ei.size, lim0, cap, A, by simp [Env.name], hc, by simpa using hroom, fun _ => hpos, by simpa using Or.inr hA, rfl⟩⟩
      · refine ⟨cadd (delta b) cxs, c1, .inr ⟨b, base, lim0, cells', tyb, fz, cxs, by simp [Env.name], (hW.self _ _ _ hw).1, by omega, by rw [hnewcells]; exact hf, ?_, relR_mono hRR (hn.mono _), rfl⟩, tRel_mono (tRel_mono hT1 (hmono c1 (cle_right _ _))) (hn.mono _), rfl⟩
        show base + (killL d (xs ++ ys)).length * ei.size ≤ lim0
        rw [killL_length, List.length_append, Nat.add_mul]; omega
      · exact good_names (E := { E.drop d with w := w' }) rfl rfl (cle_refl _) hgood
      · have hadv' : Adv E (cadd (cadd (delta b) cxs) c1) ({ E.drop d with w := w' }.name (d, 0) (.at b base ei.size lim0)) (cadd (cadd (delta b) cxs) c1) :=
          ⟨hadv.sizes, hadv.os, hadv.tape, hadv.output, hadv.size, hadv.frame, hadv.sub, hadv.own, hadv.imm⟩
        exact adv_le hadv' hcc
    · refine hgrow (some A) cap _ cxs he (by omega) hr (cle_right _ _) ?_
      have hsl : (seg cells base (xs.length * ei.size)).length = xs.length * ei.size := by
        apply seg_length
        have : xs.length * ei.size ≤ cap * ei.size := Nat.mul_le_mul_right _ hcap
        omega
      · exact run_firstCells_some E.w.drew ei.size xs.length A xs.length cap _ hsl (fun j v hv => by
          rw [hA, add_none]
          have := cell_of (o := base + j) hw
          have h3 : E.w.drew.cell? ⟨b, base + j, none⟩ = E.w.cell? ⟨b, base + j, none⟩ := rfl
          rw [h3, this]; exact seg_get hv)
end
end Go.Vm
