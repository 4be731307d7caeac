import Derived.Test.YtehgffojgiefaaaT03
import Derived.ChangeArms
import Derived.ProofKit
import Derived.OpenShut
import Derived.Test.YtehgffojgiefaaaT06
import Derived.Test.YtehgffojgiefaaaRows
import Derived.JoinedCond

set_option autoImplicit false
set_option linter.unusedVariables false
set_option linter.unusedSimpArgs false
namespace Go.Vm
open Go.RowKit (Below)

/-! ### what can be read as data is a value -/
def wrapT (P : Program) (e : TypeId) (zs : List V) : V :=
  match P.underlying e with
  | some (.struct _) => .a zs
  | _ => zs.headD .d
mutual
def Shp (P : Program) : Nat → TypeId → List V → Prop
  | 0, _, _ => False
  | n + 1, t, xs => match P.underlying t with
    | some .bool => ∃ b, xs = [B b]
    | some (.int k) => ∃ m, xs = [.v (.int k m)] ∧ (Lit.int k m).wf = true
    | some .string => ∃ l, xs = [S l]
    | some (.slice e) => ∃ ys : List V, xs = [.i false ys] ∧ ∀ y ∈ ys, ∃ zs, Shp P n e zs ∧ y = wrapT P e zs
    | some (.struct fs) => ∃ parts : List (List V), xs = parts.flatten ∧ ShpF P n (fs.toList.map (·.type)) parts
    | _ => False
def ShpF (P : Program) : Nat → List TypeId → List (List V) → Prop
  | _, [], [] => True
  | n, t :: ts, p :: ps => Shp P n t p ∧ ShpF P n ts ps
  | _, _, _ => False
end
mutual
def bulkV : V → Nat
  | .v (.string s) => s.size + 1
  | .i _ xs => bulkVs xs + 1
  | .o _ xs => bulkVs xs + 1
  | .a xs => bulkVs xs
  | _ => 1
def bulkVs : List V → Nat
  | [] => 0
  | x :: xs => bulkV x + bulkVs xs
end
theorem bulkVs_append : ∀ (xs ys : List V), bulkVs (xs ++ ys) = bulkVs xs + bulkVs ys
  | [], ys => by simp [bulkVs]
  | x :: xs, ys => by simp [bulkVs, bulkVs_append xs ys, Nat.add_assoc]
mutual
def bulkD {H : Type} : DataW H → Nat
  | .lit (.string bytes) => bytes.length + 1
  | .lit _ => 1
  | .nil => 1
  | .ptr d => bulkD d + 1
  | .slice elems spare => bulkDs elems + bulkDs spare + 1
  | .agg parts => bulkDs parts + 1
  | _ => 1
def bulkDs {H : Type} : List (DataW H) → Nat
  | [] => 0
  | d :: r => bulkD d + bulkDs r
end
def offs (P : Program) : Nat → List Field → Bool
  | _, [] => true
  | n, f :: fs => decide (f.offset = n) && offs P (n + P.cellsOf f.type) fs
def fsum (P : Program) : List Field → Nat
  | [] => 0
  | f :: fs => P.cellsOf f.type + fsum P fs
def okTy (P : Program) (S : List TypeId) (t : TypeId) : Bool :=
  match P.underlying t with
  | some .bool | some (.int _) | some .string => decide (P.cellsOf t = 1)
  | some (.slice e) => decide (P.cellsOf t = 1) && S.contains e && decide (0 < P.cellsOf e)
  | some (.struct fs) => offs P 0 fs.toList && decide (fsum P fs.toList = P.cellsOf t) && fs.toList.all fun f => S.contains f.type
  | _ => false
def env0 (w : World) : Env := { w, I := fun _ b => b < w.heap.size, μ := fun _ => none }
def isSt (P : Program) (t : TypeId) : Bool := match P.underlying t with | some (.struct _) => true | _ => false
/-- the value of which these are the cells -/
def valT (P : Program) (t : TypeId) (cs : List Value) : Value :=
  match P.underlying t with
  | some (.struct _) => .agg cs.toArray
  | _ => cs.headD undef

section
variable {H : Type} {enc : TypeId × Value → H} {P : Program} {w : World} {St : List TypeId}
theorem cells_seg {a : Addr} {n : Nat} {cs : List Value} (h : w.cells? 0 a n = some cs) (hn : 0 < n) :
    a.spot = none ∧ ∃ cells T fz, w.heap[a.block]? = some (.cells cells T fz) ∧ cs = seg cells a.off n ∧ a.off + n ≤ cells.size ∧ a.block < w.heap.size := by
  unfold World.cells? at h
  rw [if_pos (Nat.zero_le _)] at h
  have hl : cs.length = n := by simpa using mapM_some_length h
  have hg : ∀ i, i < n → w.cell? (a.add i) = cs[i]? := fun i hi => mapM_some_get h i i (by simp [hi])
  have h0 := hg 0 hn
  have hc0 : cs[0]? = some cs[0] := List.getElem?_eq_getElem (by omega)
  rw [hc0] at h0
  simp only [Addr.add, if_true, World.cell?] at h0
  split at h0
  case h_2 => cases h0
  rename_i cells T fz hw
  split at h0
  · cases h0
  rename_i hsp
  have hsp' : a.spot = none := by simpa using hsp
  refine ⟨hsp', cells, T, fz, hw, ?_, ?_, (Array.getElem?_eq_some_iff.1 hw).1⟩
  · apply List.ext_getElem?
    intro i
    by_cases hi : i < n
    · have := hg i hi
      rw [← this]
      have e1 : (a.add i).block = a.block ∧ (a.add i).off = a.off + i ∧ (a.add i).spot = none := by
        unfold Addr.add
        split
        · subst i; exact ⟨rfl, rfl, hsp'⟩
        · exact ⟨rfl, rfl, rfl⟩
      simp only [World.cell?, e1.1, hw, e1.2.1, e1.2.2]
      simp only [seg, List.getElem?_take, hi, if_true, List.getElem?_drop, Array.getElem?_toList]
      simp
    · rw [List.getElem?_eq_none (by omega)]
      simp [seg, List.getElem?_take, hi]
  · have h1 := hg (n - 1) (by omega)
    have e1 : (a.add (n - 1)).block = a.block ∧ (a.add (n - 1)).off = a.off + (n - 1) ∧ (a.add (n - 1)).spot = none := by
      unfold Addr.add
      split
      · rename_i h; rw [h]; exact ⟨rfl, rfl, hsp'⟩
      · exact ⟨rfl, rfl, rfl⟩
    simp only [World.cell?, e1.1, hw, e1.2.1, e1.2.2] at h1
    have hcn : cs[n - 1]? = some cs[n - 1] := List.getElem?_eq_getElem (by omega)
    rw [hcn] at h1
    have : a.off + (n - 1) < cells.size := by
      simp only [Option.isSome_none, Bool.false_eq_true, if_false] at h1
      exact (Array.getElem?_eq_some_iff.1 h1).1
    omega

theorem env0_cl : (env0 w).cl = env0 w := rfl
theorem rel_wrap {t : TypeId} {xs : List V} {cs : List Value} (h : RelL (env0 w) xs cs c0) (hst : isSt P t = true ∨ (xs.length = 1 ∧ ones cs)) :
    Rel (env0 w) (wrapT P t xs) (valT P t cs) c0 ∧ (ones cs → (wrapT P t xs).cells.length = xs.length ∨ (wrapT P t xs).isA = true) := by
  unfold wrapT valT
  unfold isSt at hst
  split at hst
  · rename_i fs hu
    refine ⟨?_, fun _ => .inr ?_⟩
    · simp only [Rel]; exact ⟨cs.toArray, rfl, by simpa using h⟩
    · rfl
  · rename_i hns
    rcases hst with hst | ⟨hst, hon⟩
    · cases hst
    match xs, hst with
    | [x], _ =>
      obtain ⟨y, rfl, hr⟩ := relL_one' h
      refine ⟨by simpa using hr, fun _ => ?_⟩
      by_cases hx : (V.isA x) = true
      · exact .inr (by simpa using hx)
      · left
        cases x <;> first | rfl | exact absurd rfl hx

/-- the reading, by its fuel -/
def Rd (P : Program) (w : World) (H : Type) (enc : TypeId × Value → H) (n : Nat) (t : TypeId) (cs : List Value) (d : DataW H) : Prop :=
  ∃ xs, RelL (env0 w) xs cs c0 ∧ Shp P n t xs ∧ bulkVs xs ≤ bulkD d ∧ cs.length = P.cellsOf t ∧ ones cs ∧ (isSt P t = false → ∃ x, xs = [x] ∧ x.isA = false)

theorem one_str (s : ByteArray) : ones [Value.string s] := by intro z hz; simp at hz; subst hz; rfl
theorem S_data (s : ByteArray) : V.v (.string s) = S s.data.toList := by simp [S]

theorem fields_rd {n : Nat} (IH : ∀ t cs d ps, t ∈ St → DataW.trod enc P w 0 (fun _ => true) true n t cs = some (d, ps) → Rd P w H enc n t cs d) (cs : List Value) :
    ∀ (fs : List Field) (off : Nat) (xs : List (DataW H × List MemPlace)), offs P off fs = true → off + fsum P fs = cs.length → (fs.all fun f => St.contains f.type) = true →
      xs.length = fs.length → (∀ (i : Nat) (f : Field), fs[i]? = some f → DataW.trod enc P w 0 (fun _ => true) true n f.type ((cs.drop f.offset).take (P.cellsOf f.type)) = xs[i]?) →
      ∃ parts, RelL (env0 w) parts.flatten (cs.drop off) c0 ∧ ShpF P n (fs.map (·.type)) parts ∧ bulkVs parts.flatten ≤ bulkDs (xs.map (·.1)) ∧ ones (cs.drop off)
  | [], off, xs, _, hs, _, hl, _ => by
    have : xs = [] := by simpa using hl
    subst this
    have hd : cs.drop off = [] := List.drop_eq_nil_of_le (by simp only [fsum] at hs; omega)
    rw [hd]
    exact ⟨[], by simp [RelL], by simp [ShpF], by simp [bulkVs], by intro z hz; cases hz⟩
  | f :: fs, off, [], _, _, _, hl, _ => by simp at hl
  | f :: fs, off, x :: xs, ho, hs, ha, hl, hg => by
    simp only [offs, Bool.and_eq_true, decide_eq_true_eq] at ho
    simp only [List.all_cons, Bool.and_eq_true] at ha
    simp only [fsum] at hs
    have h0 := hg 0 f rfl
    rw [ho.1] at h0
    simp only [List.getElem?_cons_zero] at h0
    obtain ⟨ys, hr, hsh, hb, hlen, hon, -⟩ := IH f.type _ x.1 x.2 (by simpa using ha.1) h0
    obtain ⟨parts, hr', hsh', hb', hon'⟩ := fields_rd IH cs fs (off + P.cellsOf f.type) xs ho.2 (by omega) ha.2 (by simpa using hl) (fun i f' hf' => by simpa using hg (i + 1) f' (by simpa using hf'))
    have hsplit : cs.drop off = (cs.drop off).take (P.cellsOf f.type) ++ cs.drop (off + P.cellsOf f.type) := by
      rw [← List.drop_drop, List.take_append_drop]
    refine ⟨ys :: parts, ?_, ?_, ?_, ?_⟩
    · rw [hsplit, List.flatten_cons]
      have := relL_append hr hr'
      rwa [cadd_c0] at this
    · simp only [List.map_cons, ShpF]; exact ⟨hsh, hsh'⟩
    · simp only [List.flatten_cons, bulkVs_append, List.map_cons, bulkDs]; omega
    · rw [hsplit]
      intro z hz
      rcases List.mem_append.1 hz with h | h
      · exact hon z h
      · exact hon' z h

theorem elems_rd {n e : Nat} (he : e ∈ St) (hpos : 0 < P.cellsOf e) (IH : ∀ t cs d ps, t ∈ St → DataW.trod enc P w 0 (fun _ => true) true n t cs = some (d, ps) → Rd P w H enc n t cs d)
    (a : Addr) (cells : Array Value) :
    ∀ (elems : List (DataW H × List MemPlace)) (off : Nat), (∀ i, i < elems.length → ((w.cells? 0 ⟨a.block, a.off + (off + i) * P.cellsOf e, none⟩ (P.cellsOf e)).bind (DataW.trod enc P w 0 (fun _ => true) true n e)) = elems[i]?) →
      (∃ T fz, w.heap[a.block]? = some (.cells cells T fz)) →
      ∃ ys, ys.length = elems.length ∧ RelR (env0 w) (P.cellsOf e) ys (seg cells (a.off + off * P.cellsOf e) (elems.length * P.cellsOf e)) c0 ∧ (∀ y ∈ ys, ∃ zs, Shp P n e zs ∧ y = wrapT P e zs) ∧ bulkVs ys ≤ bulkDs (elems.map (·.1))
  | [], off, _, _ => ⟨[], rfl, by simp [RelR, seg], by simp, by simp [bulkVs]⟩
  | x :: elems, off, hg, hw => by
    have h0 := hg 0 (by simp)
    simp only [Nat.add_zero, List.getElem?_cons_zero, Option.bind_eq_some_iff] at h0
    obtain ⟨cs, hcs, hx⟩ := h0
    obtain ⟨xs, hr, hsh, hb, hlen, hon, hns⟩ := IH e cs x.1 x.2 he hx
    obtain ⟨ys, hyl, hyr, hys, hyb⟩ := elems_rd he hpos IH a cells elems (off + 1) (fun i hi => by
      have := hg (i + 1) (by simp; omega)
      rw [show off + 1 + i = off + (i + 1) by omega]; simpa using this) hw
    obtain ⟨T, fz, hw'⟩ := hw
    obtain ⟨-, cells', T', fz', hw'', hseg, hle, -⟩ := cells_seg hcs hpos
    simp only [hw'] at hw''
    obtain ⟨rfl, rfl, rfl⟩ : cells = cells' ∧ T = T' ∧ fz = fz' := by simpa using hw''
    have hst : isSt P e = true ∨ (xs.length = 1 ∧ ones cs) := by
      cases hi : isSt P e
      · obtain ⟨x', hx', -⟩ := hns hi; exact .inr ⟨by simp [hx'], hon⟩
      · exact .inl rfl
    have hrel := (rel_wrap (P := P) (t := e) hr hst).1
    have hlx := relL_length hr
    have hval : (valT P e cs).cells.toList = cs ∧ (wrapT P e xs).cells.length = P.cellsOf e ∧ bulkV (wrapT P e xs) ≤ bulkVs xs := by
      unfold valT wrapT
      cases hi : isSt P e
      · obtain ⟨x', rfl, hxa⟩ := hns hi
        obtain ⟨y, rfl, hr1⟩ := relL_one' hr
        have hy : y.oneCell = true := hon y (by simp)
        unfold isSt at hi
        split at hi
        · cases hi
        · rename_i hq
          refine ⟨?_, ?_, ?_⟩
          · simp only [List.headD_cons]; cases y <;> first | rfl | (simp [Value.oneCell] at hy)
          · simp only [List.headD_cons]; rw [← hlen, List.length_singleton]; cases x' <;> first | rfl | (simp [V.isA] at hxa)
          · simp [bulkVs]
      · unfold isSt at hi
        split at hi
        · refine ⟨by simp [Value.cells], ?_, ?_⟩
          · simp only [V.cells]; omega
          · simp [bulkV]
        · cases hi
    refine ⟨wrapT P e xs :: ys, by simp [hyl], ?_, ?_, ?_⟩
    · simp only [RelR]
      refine ⟨valT P e cs, seg cells (a.off + (off + 1) * P.cellsOf e) (elems.length * P.cellsOf e), c0, c0, ?_, ?_, hval.2.1, ?_, hrel, hyr, rfl⟩
      · rw [hval.1, hseg]
        simp only [seg, List.length_cons]
        have e1 : (elems.length + 1) * P.cellsOf e = P.cellsOf e + elems.length * P.cellsOf e := by rw [Nat.add_mul]; omega
        have e2 : a.off + (off + 1) * P.cellsOf e = a.off + off * P.cellsOf e + P.cellsOf e := by rw [Nat.add_mul]; omega
        rw [e1, List.take_add, e2, List.drop_drop]
      · have hq : (valT P e cs).cells.size = cs.length := by rw [← Array.length_toList, hval.1]
        rw [hq, hlen]
      · rw [hval.1]; exact hon
    · intro y hy
      rcases List.mem_cons.1 hy with rfl | hy
      · exact ⟨xs, hsh, rfl⟩
      · exact hys y hy
    · simp only [bulkVs, List.map_cons, bulkDs]; have := hval.2.2; omega

theorem trod_rd (hS : ∀ t ∈ St, okTy P St t = true) : ∀ (n : Nat) (t : TypeId) (cs : List Value) (d : DataW H) (ps : List MemPlace), t ∈ St →
    DataW.trod enc P w 0 (fun _ => true) true n t cs = some (d, ps) → Rd P w H enc n t cs d
  | 0, t, cs, d, ps, _, h => by simp [DataW.trod] at h
  | n + 1, t, cs, d, ps, ht, h => by
    have IH := trod_rd hS n
    have hok := hS t ht
    unfold okTy at hok
    split at hok
    · rename_i hu
      obtain ⟨b, rfl, hx⟩ := DataW.trod_bool hu h
      refine ⟨[B b], ?_, ?_, ?_, ?_, ?_, fun _ => ⟨_, rfl, rfl⟩⟩
      · exact relL_one (by simp [B, Rel, aggB])
      · simp only [Shp, hu]; exact ⟨b, rfl⟩
      · simp only [Prod.mk.injEq] at hx; rw [hx.1]; simp [bulkVs, bulkV, B, bulkD]
      · simpa using (of_decide_eq_true hok).symm
      · intro z hz; simp at hz; subst hz; rfl
    · rename_i k hu
      obtain ⟨m, rfl, hx, hwf⟩ := DataW.trod_int hu h
      refine ⟨[.v (.int k m)], ?_, ?_, ?_, ?_, ?_, fun _ => ⟨_, rfl, rfl⟩⟩
      · exact relL_one (by simp [Rel, aggB])
      · simp only [Shp, hu]; exact ⟨m, rfl, hwf⟩
      · simp only [Prod.mk.injEq] at hx; rw [hx.1]; simp [bulkVs, bulkV, bulkD]
      · simpa using (of_decide_eq_true hok).symm
      · intro z hz; simp at hz; subst hz; rfl
    · rename_i hu
      obtain ⟨s, rfl, hx, -⟩ := DataW.trod_string hu h
      refine ⟨[.v (.string s)], ?_, ?_, ?_, ?_, ?_, fun _ => ⟨_, rfl, rfl⟩⟩
      · exact relL_one (by simp [Rel, aggB])
      · simp only [Shp, hu]; exact ⟨s.data.toList, by rw [S_data]⟩
      · simp only [Prod.mk.injEq] at hx; rw [hx.1]; show s.data.size + 1 + 0 ≤ s.data.toList.length + 1; simp
      · simpa using (of_decide_eq_true hok).symm
      · exact one_str s
    · rename_i e hu
      simp only [Bool.and_eq_true, decide_eq_true_eq, List.contains_iff_mem] at hok
      obtain ⟨⟨hc1, heS⟩, hpos⟩ := hok
      rcases DataW.trod_slice hu h with ⟨rfl, hx⟩ | ⟨a, len, cap, elems, rest, m, hm, rfl, hx, -, hle, -, hel, hg, -, -⟩
      · refine ⟨[.i false []], ?_, ?_, ?_, ?_, ?_, fun _ => ⟨_, rfl, rfl⟩⟩
        · exact relL_one (by simp only [Rel]; exact ⟨by trivial, none, 0, rfl, Nat.le_refl _, .inl trivial⟩)
        · simp only [Shp, hu]; exact ⟨[], rfl, by simp⟩
        · simp only [Prod.mk.injEq] at hx; rw [hx.1]; simp [bulkVs, bulkV, bulkD]
        · simpa using hc1.symm
        · intro z hz; simp at hz; subst hz; rfl
      · have hmn : m = n := by omega
        subst hmn
        by_cases hz : len = 0
        · subst hz
          refine ⟨[.i false []], ?_, ?_, ?_, ?_, ?_, fun _ => ⟨_, rfl, rfl⟩⟩
          · exact relL_one (by simp only [Rel]; exact ⟨by trivial, some a, cap, rfl, Nat.zero_le _, .inl trivial⟩)
          · simp only [Shp, hu]; exact ⟨[], rfl, by simp⟩
          · simp only [Prod.mk.injEq] at hx; rw [hx.1]; simp [bulkVs, bulkV, bulkD]
          · simpa using hc1.symm
          · intro z hz; simp at hz; subst hz; rfl
        · have h0 := hg 0 (by omega)
          have he0 : elems[0]? = some elems[0] := List.getElem?_eq_getElem (by omega)
          rw [he0, Option.bind_eq_some_iff] at h0
          obtain ⟨cs0, hcs0, -⟩ := h0
          have ha0 : a.add (0 * P.cellsOf e) = a := by simp [Addr.add]
          rw [ha0] at hcs0
          obtain ⟨hsp, cells, T, fz, hw, -, -, hlt⟩ := cells_seg hcs0 hpos
          have ha : a = ⟨a.block, a.off, none⟩ := by obtain ⟨b, o, s⟩ := a; simp only at hsp; subst hsp; rfl
          obtain ⟨ys, hyl, hyr, hys, hyb⟩ := elems_rd heS hpos IH a cells elems 0 (fun i hi => by
            have := hg i (by omega)
            rw [← this]
            congr 2
            rw [Nat.zero_add]
            unfold Addr.add
            split
            · rename_i hq; rw [hq, Nat.add_zero]; exact ha.symm
            · rfl) ⟨T, fz, hw⟩
          simp only [Nat.zero_mul, Nat.add_zero] at hyr
          refine ⟨[.i false ys], ?_, ?_, ?_, ?_, ?_, fun _ => ⟨_, rfl, rfl⟩⟩
          · refine relL_one ?_
            simp only [Rel]
            refine ⟨by trivial, some a, cap, by rw [hyl, hel], by omega, .inr ⟨a.block, a.off, P.cellsOf e, cells, T, fz, by rw [← ha], hlt, hw, ?_⟩⟩
            rw [hyl]; exact hyr
          · simp only [Shp, hu]; exact ⟨ys, rfl, hys⟩
          · simp only [Prod.mk.injEq] at hx; rw [hx.1]; simp only [bulkVs, bulkV, bulkD]; omega
          · simpa using hc1.symm
          · intro z hz; simp at hz; subst hz; rfl
    · rename_i fs hu
      simp only [Bool.and_eq_true, decide_eq_true_eq] at hok
      obtain ⟨xs, m, hm, hx, hlen, hxl, hg⟩ := DataW.trod_struct hu h
      have hmn : m = n := by omega
      subst hmn
      obtain ⟨parts, h1, h2, h3, h4⟩ := fields_rd IH cs fs.toList 0 xs hok.1.1 (by rw [hlen, ← hok.1.2]; omega) hok.2 (by simpa using hxl) (fun i f hf => hg i f (by simpa using hf))
      refine ⟨parts.flatten, by simpa using h1, ?_, ?_, hlen, by simpa using h4, fun hi => ?_⟩
      · simp only [Shp, hu]; exact ⟨parts, rfl, h2⟩
      · simp only [Prod.mk.injEq] at hx; rw [hx.1]; simp only [bulkD]; omega
      · unfold isSt at hi; rw [hu] at hi; cases hi
    · cases hok

/-! ### a law -/
theorem post_law {f : Func} {s : ChangeSpec} {apart fresh handsOn : Bool} {W W' : World} {args : Array Value} {v : Value} {ds gs : List (DataW H)} {before pa pv : List MemPlace}
    (hW : DataW.Whole enc P f.params.toList s.vars apart W args.toList ds gs before)
    (hres : ∀ (b : Nat) (sp : Nat → Bool) (hd : Bool), DataW.TrodAll enc P W' b sp hd f.resultTypes.toList (v.resultList f.resultTypes.size) (s.fn H (ds ++ gs)).results [])
    (hargs : ∀ sp : Nat → Bool, (∀ p ∈ before, sp p.block = true) → DataW.TrodAll enc P W' 0 sp true f.params.toList args.toList (s.fn H (ds ++ gs)).args pa)
    (hvars : ∀ sp : Nat → Bool, (∀ p ∈ before, sp p.block = true) → DataW.TrodVars enc P W' sp s.vars (s.fn H (ds ++ gs)).vars pv)
    (hps : before = pa ++ pv) (hk : W.keptBut W' (· ∈ before)) :
    s.post enc P f apart fresh handsOn false W args v W' := by
  have hold : ∀ p ∈ before, (fun b => decide (b < W.heap.size)) p.block = true := fun p hp => by simpa using hW.lt p hp
  refine ⟨ds, gs, before, [], pa, pv, hW, hres _ _ _, hargs _ hold, hvars _ hold, World.keptBut_mono (fun p hp => ⟨hp, ?_⟩) hk, fun h => by cases h⟩
  rw [hps, List.mem_append] at hp
  exact Or.inr hp

theorem below_kept {W W' : World} (h : Below W.heap.size W W') (may : MemPlace → Prop) : W.keptBut W' may := by
  refine ⟨h.os, h.output, fun i hi => ?_⟩
  rw [h.block i hi]
  have hx : W.heap[i]? = some W.heap[i] := Array.getElem?_eq_getElem hi
  rw [hx]
  cases W.heap[i] with
  | cells c t fr => exact ⟨rfl, rfl, rfl, fun _ _ => rfl⟩
  | map es clock => exact .inr ⟨rfl, rfl⟩
  | _ => first | rfl | trivial
theorem trodAll_stays (hl : laidOutB P = true) {W W' : World} (hb : Below W.heap.size W W') : ∀ {ts : List TypeId} {vs : List Value} {ds : List (DataW H)} {ps : List MemPlace}, (ts.all fun t => P.readableRec t && decide (t < P.types.size)) = true →
    DataW.TrodAll enc P W 0 (fun _ => true) true ts vs ds ps → (∀ p ∈ ps, p.block < W.heap.size) → ∀ sp : Nat → Bool, (∀ p ∈ ps, sp p.block = true) → DataW.TrodAll enc P W' 0 sp true ts vs ds ps
  | [], [], [], ps, _, h, _, _, _ => h
  | t :: ts, v :: vs, d :: ds, ps, hr, h, hlt, sp, hsp => by
    simp only [List.all_cons, Bool.and_eq_true, decide_eq_true_eq] at hr
    obtain ⟨p, q, h1, h2, rfl⟩ := h
    refine ⟨p, q, ?_, ?_, rfl⟩
    · exact WideElems.Trod_stays hl hr.1.1 hr.1.2 h1 (fun x hx => hb.same (hlt x (List.mem_append_left _ hx))) (fun x hx => hsp x (List.mem_append_left _ hx))
    · exact trodAll_stays hl hb hr.2 h2 (fun x hx => hlt x (List.mem_append_right _ hx)) sp (fun x hx => hsp x (List.mem_append_right _ hx))
  | [], _ :: _, _, _, _, h, _, _, _ => h.elim
  | [], [], _ :: _, _, _, h, _, _, _ => h.elim
  | _ :: _, [], _, _, _, h, _, _, _ => h.elim
  | _ :: _, _ :: _, [], _, _, h, _, _, _ => h.elim

theorem relL_c0 {E : Env} : ∀ {xs : List V} {vs : List Value}, (∀ p ∈ xs.zip vs, Rel E p.1 p.2 c0) → xs.length = vs.length → RelL E xs vs c0
  | [], [], _, _ => by simp [RelL]
  | x :: xs, v :: vs, h, hl => by
    simp only [RelL]
    exact ⟨v, vs, c0, c0, rfl, h (x, v) (by simp), relL_c0 (fun p hp => h p (by simp [hp])) (by simpa using hl), rfl⟩
  | [], _ :: _, _, h => by simp at h
  | _ :: _, [], _, h => by simp at h
theorem good0 (w : World) : Good (env0 w) c0 := ⟨fun _ => Nat.zero_le _, fun _ _ h => ⟨rfl, h⟩, fun _ h => h, fun _ h => absurd rfl h⟩

/-- what the machine answers, the program answers -/
theorem law_calls {prog : Nat → Option AE} (hK : Known P prog) {f : FuncId} {xs : List V} {vs : List Value} {outs : List V} {fn : Func} (hfn : P.funcs[f]? = some fn) (hb : fn.body.isSome = true) (hn : (fn.name == "runtime.NumGoroutine") = false)
    (h : cw prog f xs = some (B true, outs)) (hr : RelL (env0 w) xs vs c0) :
    Calls P f vs.toArray w fun e w' => e = .returned (.bool true) ∧ Below w.heap.size w w' := by
  obtain ⟨n, hn'⟩ := cw_some.1 h
  have hc := acall_ok hK n f xs (B true) outs hn' (env0 w) vs c0 (by rw [env0_cl]; exact hr) (good0 w)
  obtain ⟨code, hcode⟩ := Option.isSome_iff_exists.1 hb
  have hne : fn.name ≠ "runtime.NumGoroutine" := by simpa using hn
  have hcf : (callFunc f vs.toArray).run P w = .ok (.enter f vs.toArray) w := by
    simp [callFunc, hfn, hne, hcode]
  rw [show (env0 w).w = w from rfl, hcf] at hc
  refine hc.2.mono ?_
  rintro e w' ⟨y, rfl, E', cr, co, rfl, hy, -, -, hA⟩
  refine ⟨?_, hA.os, hA.tape, hA.output, hA.size, fun b hb => hA.frame b hb rfl⟩
  simp only [B, Rel] at hy
  rw [hy.1]

/-! a parameter of a type of data -/
theorem ok_lone {base : Nat} {t : TypeId} {v : Value} (hok : okTy P St t = true) (h : Value.okWide P w .any base t v) :
    (isSt P t = true → ∃ cs, v = .agg cs) ∧ (isSt P t = false → v.cells.toList = [v]) := by
  unfold okTy at hok
  unfold Value.okWide at h
  unfold isSt
  cases hu : P.underlying t with
  | none => rw [hu] at hok; cases hok
  | some u =>
    rw [hu] at hok
    simp only [hu] at h ⊢
    cases u <;> first | cases hok | skip
    all_goals first
      | (obtain ⟨cs, rfl, -⟩ := h; exact ⟨fun _ => ⟨cs, rfl⟩, fun h => (by cases h)⟩)
      | skip
    all_goals refine ⟨fun h => (by cases h), fun _ => ?_⟩
    all_goals cases v <;> first | rfl | skip
    all_goals exfalso; unfold Cell.okWide at h; rw [hu] at h; simp only at h; unfold Cell.ok at h; rw [hu] at h; exact h
theorem arg_rd (hS : ∀ t ∈ St, okTy P St t = true) {base : Nat} {t : TypeId} {v : Value} {d : DataW H} {ps : List MemPlace} (ht : t ∈ St) (hv : Value.okWide P w .any base t v) (h : DataW.Trod enc P w 0 (fun _ => true) true t v d ps) :
    ∃ n xs, Rel (env0 w) (wrapT P t xs) v c0 ∧ Shp P n t xs ∧ bulkVs xs ≤ bulkD d := by
  obtain ⟨n, h⟩ := h
  obtain ⟨xs, hr, hsh, hb, hlen, hon, hx⟩ := trod_rd hS n t v.cells.toList d ps ht h
  refine ⟨n, xs, ?_, hsh, hb⟩
  have hst : isSt P t = true ∨ (xs.length = 1 ∧ ones v.cells.toList) := by
    cases hi : isSt P t
    · obtain ⟨x', hx', -⟩ := hx hi; exact .inr ⟨by simp [hx'], hon⟩
    · exact .inl rfl
  have h1 := (rel_wrap (P := P) (t := t) hr hst).1
  have hl := ok_lone (hS t ht) hv
  have : valT P t v.cells.toList = v := by
    unfold valT
    unfold isSt at hl
    split
    · rename_i fs hu
      simp only [hu] at hl
      obtain ⟨cs, rfl⟩ := hl.1 trivial
      simp [Value.cells]
    · rename_i hq
      have h2 : v.cells.toList = [v] := hl.2 (by
        split
        · rename_i fs hu; exact absurd hu (hq fs)
        · rfl)
      rw [h2]; rfl
  rwa [this] at h1

theorem law_contract {prog : Nat → Option AE} (hK : Known P prog) (hl : laidOutB P = true) {f : FuncId} {fn : Func} (hfn : P.funcs[f]? = some fn) (hb : fn.body.isSome = true) (hn : (fn.name == "runtime.NumGoroutine") = false)
    {tb : TypeId} (hres : fn.resultTypes = #[tb]) (htb : P.underlying tb = some .bool) (hread : (fn.params.toList.all fun t => P.readableRec t && decide (t < P.types.size)) = true)
    {s : ChangeSpec} (hvars : s.vars = []) {apart fresh handsOn : Bool} {W : World} {args : Array Value} {ds gs : List (DataW H)} {before : List MemPlace}
    (hW : DataW.Whole enc P fn.params.toList s.vars apart W args.toList ds gs before) (hspec : gs = [] → s.fn H (ds ++ gs) = { results := [.lit (.bool true)], args := ds })
    (hH : ∃ xs outs, RelL (env0 W) xs args.toList c0 ∧ cw prog f xs = some (B true, outs)) :
    Calls P f args W fun e W' => ∃ v, e = .returned v ∧ s.post enc P fn apart fresh handsOn false W args v W' := by
  obtain ⟨xs, outs, hr, hc⟩ := hH
  have hlt := hW.lt
  have hW' := hW
  obtain ⟨p, q, hA, hV, rfl, hfz, hnd⟩ := hW
  rw [hvars] at hV
  obtain ⟨rfl, rfl⟩ : gs = [] ∧ q = [] := by
    cases gs with
    | nil => exact ⟨rfl, hV⟩
    | cons => exact hV.elim
  have hsp := hspec rfl
  have hcall := law_calls hK hfn hb hn hc hr
  rw [Array.toArray_toList] at hcall
  refine hcall.mono ?_
  rintro e W' ⟨rfl, hbel⟩
  refine ⟨_, rfl, post_law (pa := p) (pv := []) hW' ?_ ?_ ?_ rfl (below_kept hbel _)⟩
  · intro b sp hd
    rw [hsp, hres]
    exact ChangeShapes.trodAll_mk1 (RowKit.shut_bool htb true)
  · intro sp hsp'
    rw [hsp]
    exact trodAll_stays hl hbel hread hA (fun x hx => hlt x (by simpa using hx)) sp (fun x hx => hsp' x (by simpa using hx))
  · intro sp _
    rw [hsp, hvars]
    rfl

/-! shapes -/
theorem shpF_cons {n : Nat} {t : TypeId} {ts : List TypeId} {parts : List (List V)} (h : ShpF P n (t :: ts) parts) : ∃ p ps, parts = p :: ps ∧ Shp P n t p ∧ ShpF P n ts ps := by
  cases parts with
  | nil => simp [ShpF] at h
  | cons p ps => simp only [ShpF] at h; exact ⟨p, ps, rfl, h.1, h.2⟩
theorem shpF_nil {n : Nat} {parts : List (List V)} (h : ShpF P n [] parts) : parts = [] := by
  cases parts with
  | nil => rfl
  | cons p ps => simp [ShpF] at h
theorem shp_int {n : Nat} {t : TypeId} {xs : List V} (hu : P.underlying t = some (.int .i64)) (h : Shp P n t xs) : ∃ k, xs = [I k] ∧ inI k := by
  cases n with
  | zero => simp [Shp] at h
  | succ n =>
    simp only [Shp, hu] at h
    obtain ⟨m, rfl, hw⟩ := h
    refine ⟨m, rfl, ?_⟩
    simp only [Lit.wf, IntKind.min, IntKind.max, IntKind.signed, IntKind.bits, Bool.and_eq_true, decide_eq_true_eq] at hw
    unfold inI
    simp at hw
    omega
theorem shp_bool {n : Nat} {t : TypeId} {xs : List V} (hu : P.underlying t = some .bool) (h : Shp P n t xs) : ∃ b, xs = [B b] := by
  cases n with
  | zero => simp [Shp] at h
  | succ n => simp only [Shp, hu] at h; exact h
theorem shp_str {n : Nat} {t : TypeId} {xs : List V} (hu : P.underlying t = some .string) (h : Shp P n t xs) : ∃ l, xs = [S l] := by
  cases n with
  | zero => simp [Shp] at h
  | succ n => simp only [Shp, hu] at h; exact h
theorem shp_slice {n : Nat} {t e : TypeId} {xs : List V} (hu : P.underlying t = some (.slice e)) (h : Shp P n t xs) : ∃ m ys, n = m + 1 ∧ xs = [.i false ys] ∧ ∀ y ∈ ys, ∃ zs, Shp P m e zs ∧ y = wrapT P e zs := by
  cases n with
  | zero => simp [Shp] at h
  | succ n => simp only [Shp, hu] at h; obtain ⟨ys, h1, h2⟩ := h; exact ⟨n, ys, rfl, h1, h2⟩
theorem shp_struct {n : Nat} {t : TypeId} {fs : Array Field} {xs : List V} (hu : P.underlying t = some (.struct fs)) (h : Shp P n t xs) : ∃ m parts, n = m + 1 ∧ xs = parts.flatten ∧ ShpF P m (fs.toList.map (·.type)) parts := by
  cases n with
  | zero => simp [Shp] at h
  | succ n => simp only [Shp, hu] at h; obtain ⟨ps, h1, h2⟩ := h; exact ⟨n, ps, rfl, h1, h2⟩
theorem wrap_struct {e : TypeId} {fs : Array Field} {zs : List V} (hu : P.underlying e = some (.struct fs)) : wrapT P e zs = .a zs := by simp [wrapT, hu]
theorem wrap_int {e : TypeId} {k : IntKind} {z : V} (hu : P.underlying e = some (.int k)) : wrapT P e [z] = z := by simp [wrapT, hu]
theorem wrap_str {e : TypeId} {z : V} (hu : P.underlying e = some .string) : wrapT P e [z] = z := by simp [wrapT, hu]
theorem bulk_S (l : List UInt8) : bulkV (S l) = l.length + 1 := by simp [S, bulkV, ByteArray.size]
theorem bulk_mem : ∀ {ys : List V} {y : V}, y ∈ ys → bulkV y ≤ bulkVs ys
  | x :: xs, y, h => by
    simp only [bulkVs]
    rcases List.mem_cons.1 h with rfl | h
    · omega
    · have := bulk_mem h; omega
theorem bulk_len : ∀ {ys : List V}, (∀ y ∈ ys, 1 ≤ bulkV y) → ys.length ≤ bulkVs ys
  | [], _ => Nat.zero_le _
  | x :: xs, h => by
    simp only [bulkVs, List.length_cons]
    have := bulk_len (ys := xs) fun y hy => h y (by simp [hy])
    have := h x (by simp)
    omega
/-- a row of readable things is a row of data -/
theorem rows_of {α : Type} {R : α → V → Prop} {W : α → Prop} : ∀ {ys : List V}, (∀ y ∈ ys, ∃ t, R t y ∧ W t) → ∃ ts, RL R ts ys ∧ ∀ t ∈ ts, W t
  | [], _ => ⟨[], rfl, by simp⟩
  | y :: ys, h => by
    obtain ⟨t, h1, h2⟩ := h y (by simp)
    obtain ⟨ts, h3, h4⟩ := rows_of (ys := ys) fun z hz => h z (by simp [hz])
    refine ⟨t :: ts, by simp only [RL]; exact ⟨y, ys, rfl, h1, h3⟩, fun u hu => ?_⟩
    rcases List.mem_cons.1 hu with rfl | hu
    · exact h2
    · exact h4 u hu
/-- the types of a program's terms -/
structure TyTerm (P : Program) (tT tS ti ts : TypeId) : Prop where
  hT : ∃ fs, P.underlying tT = some (.struct fs) ∧ fs.toList.map (·.type) = [ti, ts, ti, tS]
  hS : P.underlying tS = some (.slice tT)
  hi : P.underlying ti = some (.int .i64)
  hs : P.underlying ts = some .string
theorem rows_nT : ∀ {us : List Tm} {ys : List V}, RL (fun t y => (BT t y ∧ WT t) ∧ nT t ≤ bulkV y) us ys → RL BT us ys ∧ (∀ u ∈ us, WT u) ∧ nTs us ≤ bulkVs ys
  | [], ys, h => ⟨h, by simp, by simp [nTs]⟩
  | u :: us, ys, h => by
    simp only [RL] at h
    obtain ⟨v, vs', rfl, ⟨⟨h1, h2⟩, h3⟩, h4⟩ := h
    obtain ⟨g1, g2, g3⟩ := rows_nT h4
    refine ⟨by simp only [RL]; exact ⟨v, vs', rfl, h1, g1⟩, fun x hx => ?_, by simp only [nTs, bulkVs]; omega⟩
    rcases List.mem_cons.1 hx with rfl | hx
    · exact h2
    · exact g2 x hx
theorem shp_term {tT tS ti ts : TypeId} (hty : TyTerm P tT tS ti ts) : ∀ (n : Nat) (xs : List V), Shp P n tT xs → bulkVs xs ≤ Lm → 1 ≤ bulkVs xs ∧ ∃ t, (BT t (.a xs) ∧ WT t) ∧ nT t ≤ bulkVs xs := by
  intro n
  induction n using Nat.strongRecOn with
  | _ n ih =>
    intro xs h hb
    obtain ⟨fs, hu, hfs⟩ := hty.hT
    obtain ⟨m, parts, rfl, rfl, hp⟩ := shp_struct hu h
    rw [hfs] at hp
    obtain ⟨p0, r0, rfl, h0, hp⟩ := shpF_cons hp
    obtain ⟨p1, r1, rfl, h1, hp⟩ := shpF_cons hp
    obtain ⟨p2, r2, rfl, h2, hp⟩ := shpF_cons hp
    obtain ⟨p3, r3, rfl, h3, hp⟩ := shpF_cons hp
    obtain rfl := shpF_nil hp
    obtain ⟨k, rfl, hk⟩ := shp_int hty.hi h0
    obtain ⟨s, rfl⟩ := shp_str hty.hs h1
    obtain ⟨u, rfl, hu'⟩ := shp_int hty.hi h2
    obtain ⟨m', ys, rfl, rfl, hys⟩ := shp_slice hty.hS h3
    simp only [List.flatten_cons, List.flatten_nil, List.cons_append, List.nil_append, bulkVs, bulk_S] at hb ⊢
    have e1 : bulkV (I k) = 1 := rfl
    have e2 : bulkV (I u) = 1 := rfl
    have e3 : bulkV (.i false ys) = bulkVs ys + 1 := by simp [bulkV]
    rw [e1, e2, e3] at hb ⊢
    have hall : ∀ y ∈ ys, 1 ≤ bulkV y ∧ ∃ t, ((BT t y ∧ WT t) ∧ nT t ≤ bulkV y) ∧ True := by
      intro y hy
      obtain ⟨zs, hz, rfl⟩ := hys y hy
      have hle := bulk_mem hy
      rw [wrap_struct hu] at hle ⊢
      have e4 : bulkV (.a zs) = bulkVs zs := by simp [bulkV]
      rw [e4] at hle ⊢
      obtain ⟨g1, t, g2⟩ := ih m' (by omega) zs hz (by omega)
      exact ⟨g1, t, g2, trivial⟩
    obtain ⟨us, hr, -⟩ := rows_of (R := fun t y => (BT t y ∧ WT t) ∧ nT t ≤ bulkV y) (W := fun _ => True) fun y hy => (hall y hy).2
    have hlen := bulk_len fun y hy => (hall y hy).1
    obtain ⟨hr, hw, hn⟩ := rows_nT hr
    have hl := RL_length hr
    refine ⟨by omega, .mk k s u us, ⟨BT_mk.2 ⟨false, ys, rfl, hr⟩, WT_mk hk (by omega) hu' (by omega) hw⟩, by simp only [nT]; omega⟩

/-! readers -/
def RdC (P : Program) (t : TypeId) {α : Type} (Rc : α → List V → Prop) (W : α → Prop) : Prop :=
  ∀ n xs, Shp P n t xs → bulkVs xs ≤ Lm → 1 ≤ bulkVs xs ∧ ∃ x, Rc x xs ∧ W x
def cI (n : Int) (xs : List V) : Prop := xs = [I n]
def cB (b : Bool) (xs : List V) : Prop := xs = [B b]
def cS (s : Str) (xs : List V) : Prop := xs = [S s]
def cA {α : Type} (R : α → V → Prop) (x : α) (xs : List V) : Prop := R x (.a xs)
def cL {α : Type} (R : α → V → Prop) (l : List α) (xs : List V) : Prop := ∃ vs, xs = [.i false vs] ∧ RL R l vs
def wL {α : Type} (W : α → Prop) (l : List α) : Prop := l.length ≤ Lm ∧ ∀ x ∈ l, W x
theorem rd_int {t : TypeId} (hu : P.underlying t = some (.int .i64)) : RdC P t cI inI := fun n xs h hb => by
  obtain ⟨k, rfl, hk⟩ := shp_int hu h; exact ⟨by simp [bulkVs, bulkV, I], k, rfl, hk⟩
theorem rd_bool {t : TypeId} (hu : P.underlying t = some .bool) : RdC P t cB (fun _ => True) := fun n xs h hb => by
  obtain ⟨k, rfl⟩ := shp_bool hu h; exact ⟨by simp [bulkVs, bulkV, B], k, rfl, trivial⟩
theorem rd_str {t : TypeId} (hu : P.underlying t = some .string) : RdC P t cS (fun s => s.length ≤ Lm) := fun n xs h hb => by
  obtain ⟨k, rfl⟩ := shp_str hu h
  simp only [bulkVs, bulk_S] at hb ⊢
  exact ⟨by omega, k, rfl, by omega⟩
theorem rd_term {tT tS ti ts : TypeId} (hty : TyTerm P tT tS ti ts) : RdC P tT (cA BT) wTm := fun n xs h hb => by
  obtain ⟨h1, t, ⟨h2, h3⟩, h4⟩ := shp_term hty n xs h hb
  exact ⟨h1, t, h2, h3, by omega⟩
theorem bulk_wrap {e : TypeId} : ∀ (zs : List V), (isSt P e = false → ∃ z, zs = [z]) → bulkV (wrapT P e zs) = bulkVs zs := by
  intro zs hz
  unfold wrapT
  unfold isSt at hz
  split
  · simp [bulkV]
  · rename_i hq
    obtain ⟨z, rfl⟩ := hz (by split; (rename_i fs hu; exact absurd hu (hq fs)); rfl)
    simp [bulkVs]
theorem rd_list {α : Type} {Rc : α → List V → Prop} {R : α → V → Prop} {W : α → Prop} {tl te : TypeId} (hu : P.underlying tl = some (.slice te)) (he : RdC P te Rc W) (hw : ∀ x zs, Rc x zs → R x (wrapT P te zs) ∧ (isSt P te = false → ∃ z, zs = [z])) :
    RdC P tl (cL R) (wL W) := fun n xs h hb => by
  obtain ⟨m, ys, rfl, rfl, hys⟩ := shp_slice hu h
  have e3 : bulkVs [V.i false ys] = bulkVs ys + 1 := by simp [bulkV, bulkVs]
  rw [e3] at hb ⊢
  have hall : ∀ y ∈ ys, 1 ≤ bulkV y ∧ ∃ t, R t y ∧ W t := by
    intro y hy
    obtain ⟨zs, hz, rfl⟩ := hys y hy
    have hle := bulk_mem hy
    obtain ⟨x0, hx0⟩ : ∃ x, Rc x zs ∧ W x ∧ 1 ≤ bulkVs zs := by
      by_cases hbz : bulkVs zs ≤ Lm
      · obtain ⟨h1, x, h2, h3⟩ := he m zs hz hbz; exact ⟨x, h2, h3, h1⟩
      · exfalso
        apply hbz
        cases hst : isSt P te
        · have : ∃ z, zs = [z] := by
            unfold isSt at hst
            cases m with
            | zero => simp [Shp] at hz
            | succ m =>
              simp only [Shp] at hz
              split at hz
              · obtain ⟨b, rfl⟩ := hz; exact ⟨_, rfl⟩
              · obtain ⟨b, rfl, -⟩ := hz; exact ⟨_, rfl⟩
              · obtain ⟨b, rfl⟩ := hz; exact ⟨_, rfl⟩
              · obtain ⟨b, rfl, -⟩ := hz; exact ⟨_, rfl⟩
              · rename_i fs hu'; rw [hu'] at hst; cases hst
              · exact hz.elim
          have := bulk_wrap (P := P) (e := te) zs (fun _ => this)
          omega
        · have := bulk_wrap (P := P) (e := te) zs (fun h => by rw [hst] at h; cases h)
          omega
    obtain ⟨h1, h2⟩ := hw x0 zs hx0.1
    rw [bulk_wrap zs h2]
    exact ⟨hx0.2.2, x0, h1, hx0.2.1⟩
  obtain ⟨us, hr, hws⟩ := rows_of (R := R) (W := W) fun y hy => (hall y hy).2
  have hlen := bulk_len fun y hy => (hall y hy).1
  have hl := RL_length hr
  exact ⟨by omega, us, ⟨ys, rfl, hr⟩, by omega, hws⟩
theorem wrap_A {α : Type} {R : α → V → Prop} {te : TypeId} (hu : ∃ fs, P.underlying te = some (.struct fs)) : ∀ (x : α) (zs : List V), cA R x zs → R x (wrapT P te zs) ∧ (isSt P te = false → ∃ z, zs = [z]) := fun x zs h => by
  obtain ⟨fs, hu⟩ := hu
  rw [wrap_struct hu]
  exact ⟨h, fun hs => by unfold isSt at hs; rw [hu] at hs; cases hs⟩
theorem wrap_S {te : TypeId} (hu : P.underlying te = some .string) : ∀ (x : Str) (zs : List V), cS x zs → RS x (wrapT P te zs) ∧ (isSt P te = false → ∃ z, zs = [z]) := fun x zs h => by
  unfold cS at h; subst h
  rw [wrap_str hu]
  exact ⟨rfl, fun _ => ⟨_, rfl⟩⟩
theorem wrap_I {te : TypeId} (hu : P.underlying te = some (.int .i64)) : ∀ (x : Int) (zs : List V), cI x zs → RI x (wrapT P te zs) ∧ (isSt P te = false → ∃ z, zs = [z]) := fun x zs h => by
  unfold cI at h; subst h
  rw [wrap_int hu]
  exact ⟨rfl, fun _ => ⟨_, rfl⟩⟩
theorem RL_S {l : List Str} {vs : List V} (h : RL RS l vs) : vs = l.map S := RL_fun (fun _ _ h => h) h
theorem RL_I {l : List Int} {vs : List V} (h : RL RI l vs) : vs = l.map I := RL_fun (fun _ _ h => h) h
theorem bulk_app_le {xs ys : List V} : bulkVs xs ≤ bulkVs (xs ++ ys) := by rw [bulkVs_append]; omega
end
end Go.Vm

set_option autoImplicit false
set_option maxRecDepth 100000
set_option linter.unusedSimpArgs false
set_option linter.unusedVariables false
namespace Go.Vm
section
variable {P : Program}
theorem rd_Cl {tX t0 t1 t2 : TypeId} (hu : ∃ fs, P.underlying tX = some (.struct fs) ∧ fs.toList.map (·.type) = [t0, t1, t2]) (h0 : RdC P t0 (cA BT) wTm) (h1 : RdC P t1 (cA BT) wTm) (h2 : RdC P t2 cS wS) : RdC P tX (cA bCl) wCl := fun n xs h hb => by
  obtain ⟨fs, hu, hfs⟩ := hu
  obtain ⟨m, parts, rfl, rfl, hp⟩ := shp_struct hu h
  rw [hfs] at hp
  obtain ⟨p0, r0, rfl, s0, hp⟩ := shpF_cons hp
  obtain ⟨p1, r1, rfl, s1, hp⟩ := shpF_cons hp
  obtain ⟨p2, r2, rfl, s2, hp⟩ := shpF_cons hp
  obtain rfl := shpF_nil hp
  simp only [List.flatten_cons, List.flatten_nil, List.append_nil, bulkVs_append] at hb ⊢
  obtain ⟨b0, x0, c0, w0⟩ := h0 m p0 s0 (by omega)
  obtain ⟨b1, x1, c1, w1⟩ := h1 m p1 s1 (by omega)
  obtain ⟨b2, x2, c2, w2⟩ := h2 m p2 s2 (by omega)
  obtain ⟨τ0, vs0, e0, g0⟩ := BT_shape c0
  obtain rfl := V.a.inj e0
  obtain ⟨τ1, vs1, e1, g1⟩ := BT_shape c1
  obtain rfl := V.a.inj e1
  obtain rfl := c2
  exact ⟨by omega, ⟨x0, x1, x2⟩, ⟨τ0, vs0, τ1, vs1, rfl, g0, g1⟩, w0, w1, w2⟩
theorem rd_Db {tX t0 t1 : TypeId} (hu : ∃ fs, P.underlying tX = some (.struct fs) ∧ fs.toList.map (·.type) = [t0, t1]) (h0 : RdC P t0 (cL bCl) (wL wCl)) (h1 : RdC P t1 (cL RS) (wL wS)) : RdC P tX (cA bDb) wDb := fun n xs h hb => by
  obtain ⟨fs, hu, hfs⟩ := hu
  obtain ⟨m, parts, rfl, rfl, hp⟩ := shp_struct hu h
  rw [hfs] at hp
  obtain ⟨p0, r0, rfl, s0, hp⟩ := shpF_cons hp
  obtain ⟨p1, r1, rfl, s1, hp⟩ := shpF_cons hp
  obtain rfl := shpF_nil hp
  simp only [List.flatten_cons, List.flatten_nil, List.append_nil, bulkVs_append] at hb ⊢
  obtain ⟨b0, x0, c0, w0⟩ := h0 m p0 s0 (by omega)
  obtain ⟨b1, x1, c1, w1⟩ := h1 m p1 s1 (by omega)
  obtain ⟨vs0, rfl, g0⟩ := c0
  obtain ⟨vs1, rfl, g1⟩ := c1
  obtain rfl := RL_S g1
  exact ⟨by omega, ⟨x0, x1⟩, ⟨false, vs0, false, rfl, g0⟩, w0, w1⟩
theorem rd_Fl {tX t0 t1 : TypeId} (hu : ∃ fs, P.underlying tX = some (.struct fs) ∧ fs.toList.map (·.type) = [t0, t1]) (h0 : RdC P t0 cS wS) (h1 : RdC P t1 cS wS) : RdC P tX (cA bFl) wFl := fun n xs h hb => by
  obtain ⟨fs, hu, hfs⟩ := hu
  obtain ⟨m, parts, rfl, rfl, hp⟩ := shp_struct hu h
  rw [hfs] at hp
  obtain ⟨p0, r0, rfl, s0, hp⟩ := shpF_cons hp
  obtain ⟨p1, r1, rfl, s1, hp⟩ := shpF_cons hp
  obtain rfl := shpF_nil hp
  simp only [List.flatten_cons, List.flatten_nil, List.append_nil, bulkVs_append] at hb ⊢
  obtain ⟨b0, x0, c0, w0⟩ := h0 m p0 s0 (by omega)
  obtain ⟨b1, x1, c1, w1⟩ := h1 m p1 s1 (by omega)
  obtain rfl := c0
  obtain rfl := c1
  exact ⟨by omega, ⟨x0, x1⟩, rfl, w0, w1⟩
theorem rd_Se {tX t0 t1 t2 t3 : TypeId} (hu : ∃ fs, P.underlying tX = some (.struct fs) ∧ fs.toList.map (·.type) = [t0, t1, t2, t3]) (h0 : RdC P t0 (cL bFl) (wL wFl)) (h1 : RdC P t1 (cA bDb) wDb) (h2 : RdC P t2 (cL RS) (wL wS)) (h3 : RdC P t3 cS wS) : RdC P tX (cA bSe) wSe := fun n xs h hb => by
  obtain ⟨fs, hu, hfs⟩ := hu
  obtain ⟨m, parts, rfl, rfl, hp⟩ := shp_struct hu h
  rw [hfs] at hp
  obtain ⟨p0, r0, rfl, s0, hp⟩ := shpF_cons hp
  obtain ⟨p1, r1, rfl, s1, hp⟩ := shpF_cons hp
  obtain ⟨p2, r2, rfl, s2, hp⟩ := shpF_cons hp
  obtain ⟨p3, r3, rfl, s3, hp⟩ := shpF_cons hp
  obtain rfl := shpF_nil hp
  simp only [List.flatten_cons, List.flatten_nil, List.append_nil, bulkVs_append] at hb ⊢
  obtain ⟨b0, x0, c0, w0⟩ := h0 m p0 s0 (by omega)
  obtain ⟨b1, x1, c1, w1⟩ := h1 m p1 s1 (by omega)
  obtain ⟨b2, x2, c2, w2⟩ := h2 m p2 s2 (by omega)
  obtain ⟨b3, x3, c3, w3⟩ := h3 m p3 s3 (by omega)
  obtain ⟨vs0, rfl, g0⟩ := c0
  obtain ⟨τ0_1, vs0_1, τ1_1, e1, g1_0⟩ := c1
  obtain rfl := V.a.inj e1
  obtain ⟨vs2, rfl, g2⟩ := c2
  obtain rfl := RL_S g2
  obtain rfl := c3
  exact ⟨by omega, ⟨x0, x1, x2, x3⟩, ⟨false, vs0, τ0_1, vs0_1, τ1_1, false, rfl, g0, g1_0⟩, w0, w1, w2, w3⟩
end
end Go.Vm

set_option autoImplicit false
set_option maxRecDepth 100000
set_option linter.unusedVariables false
set_option linter.unusedSimpArgs false
namespace Go.Proofs.Ytehgffojgiefaaa
open Go.Vm Go.RowKit Go.ChangeShapes
theorem Try.own : ownKnob Try.prog.godebug = none := by kernel_rfl
theorem Try.laidOut : laidOutB Try.prog = true := by kernel_rfl
def St : List TypeId := [3, 9, 22, 24, 34, 43, 44, 45, 47, 49, 104]
theorem St_ok : ∀ t ∈ St, okTy Try.prog St t = true := by
  have h : St.all (okTy Try.prog St) = true := by kernel_rfl
  exact fun t ht => List.all_eq_true.1 h t ht
mutual
theorem bulk_eq {H : Type} : ∀ (d : DataW H), bulkD d ≤ Rows.uptoBulk d
  | .lit (.string b) => by simp [bulkD, Rows.uptoBulk]
  | .lit (.bool b) => by simp [bulkD, Rows.uptoBulk]
  | .lit (.int k b) => by simp [bulkD, Rows.uptoBulk]
  | .lit (.float k b) => by simp [bulkD, Rows.uptoBulk]
  | .lit .nil => by simp [bulkD, Rows.uptoBulk]
  | .nil => by simp [bulkD, Rows.uptoBulk]
  | .ptr d => by simp only [bulkD, Rows.uptoBulk]; have := bulk_eq d; omega
  | .slice es sp => by simp only [bulkD, Rows.uptoBulk]; have := bulks_eq es; have := bulks_eq sp; omega
  | .agg ps => by simp only [bulkD, Rows.uptoBulk]; have := bulks_eq ps; omega
  | .iface t d => by simp only [bulkD, Rows.uptoBulk]; omega
  | .map es => by simp only [bulkD, Rows.uptoBulk]; omega
  | .held h => by simp [bulkD, Rows.uptoBulk]
theorem bulks_eq {H : Type} : ∀ (ds : List (DataW H)), bulkDs ds ≤ Rows.uptoBulkAll ds
  | [] => by simp [bulkDs, Rows.uptoBulkAll]
  | d :: ds => by simp only [bulkDs, Rows.uptoBulkAll]; have := bulk_eq d; have := bulks_eq ds; omega
end
theorem small_le {H : Type} {ds : List (DataW H)} (h : Rows.uptoSmall H ds = true) : bulkDs ds ≤ 1048576 := Nat.le_trans (bulks_eq ds) (of_decide_eq_true h)
end Go.Proofs.Ytehgffojgiefaaa
