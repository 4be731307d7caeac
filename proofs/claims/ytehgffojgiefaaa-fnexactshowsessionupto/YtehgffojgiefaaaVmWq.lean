import Derived.Test.YtehgffojgiefaaaVmWo
import Derived.Laws.Strings
set_option autoImplicit false
set_option linter.unusedVariables false
set_option linter.unusedSimpArgs false
namespace Go.Vm
section
variable {prog : Nat → Option AE} {st : St} {σ : Sl} {T : Mem} {call : Call} {a b : Int} {x y : List UInt8}
@[go_sem] theorem bin_add : binV .add (I a) (I b) = some (I (w64 (a + b))) := rfl
@[go_sem] theorem bin_sub : binV .sub (I a) (I b) = some (I (w64 (a - b))) := rfl
@[go_sem] theorem bin_mul : binV .mul (I a) (I b) = some (I (w64 (a * b))) := rfl
@[go_sem] theorem bin_lss : binV .lss (I a) (I b) = some (B (decide (a < b))) := rfl
@[go_sem] theorem bin_leq : binV .leq (I a) (I b) = some (B (decide (a ≤ b))) := rfl
@[go_sem] theorem bin_gtr : binV .gtr (I a) (I b) = some (B (decide (b < a))) := rfl
@[go_sem] theorem bin_geq : binV .geq (I a) (I b) = some (B (decide (b ≤ a))) := rfl
@[go_sem] theorem bin_eql : binV .eql (I a) (I b) = some (B (decide (a = b))) := by
  have : (a == b) = decide (a = b) := by rw [Bool.eq_iff_iff]; simp
  exact congrArg (fun t => some (B t)) this
@[go_sem] theorem bin_neq : binV .neq (I a) (I b) = some (B (decide (a ≠ b))) := by
  have : (a != b) = decide (a ≠ b) := by rw [Bool.eq_iff_iff]; simp
  exact congrArg (fun t => some (B t)) this
@[go_sem] theorem bin8_lss : binV .lss (U8 a) (U8 b) = some (B (decide (a < b))) := rfl
@[go_sem] theorem bin8_leq : binV .leq (U8 a) (U8 b) = some (B (decide (a ≤ b))) := rfl
@[go_sem] theorem bin8_gtr : binV .gtr (U8 a) (U8 b) = some (B (decide (b < a))) := rfl
@[go_sem] theorem bin8_geq : binV .geq (U8 a) (U8 b) = some (B (decide (b ≤ a))) := rfl
@[go_sem] theorem bin8_add : binV .add (U8 a) (U8 b) = some (U8 (IntKind.u8.wrap (a + b))) := rfl
@[go_sem] theorem bin8_eql : binV .eql (U8 a) (U8 b) = some (B (decide (a = b))) := by
  have : (a == b) = decide (a = b) := by rw [Bool.eq_iff_iff]; simp
  exact congrArg (fun t => some (B t)) this
@[go_sem] theorem bin8_neq : binV .neq (U8 a) (U8 b) = some (B (decide (a ≠ b))) := by
  have : (a != b) = decide (a ≠ b) := by rw [Bool.eq_iff_iff]; simp
  exact congrArg (fun t => some (B t)) this
theorem toList_S : (ByteArray.mk x.toArray).toList = x := by rw [ByteArray.toList_eq]
@[go_sem] theorem binS_eql : binV .eql (S x) (S y) = some (B (decide (x = y))) := by
  have : (Op.stringOp .eql ⟨x.toArray⟩ ⟨y.toArray⟩).val? = some (.bool (decide (x = y))) := by
    simp only [Op.stringOp, toList_S]
    have : (x == y) = decide (x = y) := by rw [Bool.eq_iff_iff]; simp
    rw [this]; rfl
  exact congrArg (Option.map V.v) this
@[go_sem] theorem binS_neq : binV .neq (S x) (S y) = some (B (decide (x ≠ y))) := by
  have : (Op.stringOp .neq ⟨x.toArray⟩ ⟨y.toArray⟩).val? = some (.bool (decide (x ≠ y))) := by
    simp only [Op.stringOp, toList_S]
    have : (!x == y) = decide (x ≠ y) := by rw [Bool.eq_iff_iff]; simp
    rw [this]; rfl
  exact congrArg (Option.map V.v) this
@[go_sem] theorem binS_lss : binV .lss (S x) (S y) = some (B (Op.bytesLess x y)) := by
  have : (Op.stringOp .lss ⟨x.toArray⟩ ⟨y.toArray⟩).val? = some (.bool (Op.bytesLess x y)) := by
    simp only [Op.stringOp, toList_S]; rfl
  exact congrArg (Option.map V.v) this
@[go_sem] theorem binS_gtr : binV .gtr (S x) (S y) = some (B (!(Op.bytesLess x y || decide (x = y)))) := by
  have : (Op.stringOp .gtr ⟨x.toArray⟩ ⟨y.toArray⟩).val? = some (.bool (!(Op.bytesLess x y || decide (x = y)))) := by
    simp only [Op.stringOp, toList_S]
    have : (x == y) = decide (x = y) := by rw [Bool.eq_iff_iff]; simp
    rw [this]; rfl
  exact congrArg (Option.map V.v) this
theorem binS_add (h : x.length + y.length ≤ 9223372036854775807) : binV .add (S x) (S y) = some (S (x ++ y)) := by
  have : (Op.stringOp .add ⟨x.toArray⟩ ⟨y.toArray⟩).val? = some (.string ⟨(x ++ y).toArray⟩) := by
    simp only [Op.stringOp, ByteArray.size, List.size_toArray]
    rw [if_neg (by simp [IntKind.max, IntKind.signed, IntKind.bits]; omega)]
    have : (ByteArray.mk x.toArray ++ ByteArray.mk y.toArray) = ⟨(x ++ y).toArray⟩ := by
      apply ByteArray.ext
      simp
    rw [this]; rfl
  exact congrArg (Option.map V.v) this
theorem bin_quo (h : b ≠ 0) : binV .quo (I a) (I b) = some (I (w64 (a.tdiv b))) := by
  have : (Op.intDiv .quo .i64 a b).val? = some (.int .i64 (w64 (a.tdiv b))) := by
    simp only [Op.intDiv, if_neg h]; rfl
  exact congrArg (Option.map V.v) this
theorem bin_rem (h : b ≠ 0) : binV .rem (I a) (I b) = some (I (a.tmod b)) := by
  have : (Op.intDiv .rem .i64 a b).val? = some (.int .i64 (a.tmod b)) := by
    simp only [Op.intDiv, if_neg h]; rfl
  exact congrArg (Option.map V.v) this
@[go_sem] theorem eqv_B {p q : Bool} : eqV 0 (B p) (B q) = some (p == q) := rfl
@[go_sem] theorem eqv_nn {e e' : Nat} : eqV 2 (.n e) (.n e') = some true := rfl
@[go_sem] theorem eqv_in {e : Nat} {τ : Bool} {z : V} {zs : List V} : eqV 2 (.i τ (z :: zs)) (.n e) = some false := rfl
@[go_sem] theorem map_some' {α β : Type} {f : α → β} {z : α} : (some z).map f = some (f z) := rfl

/-! loads and stores -/
def ldO (ob : Option Ob) (idx : Nat) (agg : Bool) (size off : Nat) : Option V :=
  match ob with
  | some ob => bindV ob.2[idx]? fun x => loadE agg size x off
  | none => none
@[go_sem] theorem ldO_some {e idx size off : Nat} {xs : List V} {agg : Bool} : ldO (some (e, xs)) idx agg size off = bindV xs[idx]? fun x => loadE agg size x off := rfl
@[go_sem] theorem load_p {k : Key} {idx off size : Nat} {agg : Bool} : loadP T agg size (.p k idx off) = ldO (getK T k) idx agg size off := by
  simp only [loadP, ldO]
  cases getK T k with
  | none => rfl
  | some ob => simp only; cases ob.2[idx]? <;> rfl
@[go_sem] theorem load_q {τ : Bool} {xs : List V} {idx off size : Nat} {agg : Bool} : loadP T agg size (.q τ xs idx off) = bindV xs[idx]? fun x => loadE agg size x off := by
  simp only [loadP]; cases xs[idx]? <;> rfl
@[go_sem] theorem loadE_a {n : Nat} {cs : List V} {off : Nat} : loadE true n (.a cs) off = if off = 0 ∧ cs.length = n then some (.a cs) else if off + n ≤ cs.length then some (.a ((cs.drop off).take n)) else none := by
  unfold loadE
  simp only [V.cells, V.isA, if_true]
  by_cases h : off = 0 ∧ cs.length = n
  · simp only [h.1, h.2, and_self, if_true]
  · rw [if_neg h, if_neg (fun h' => h ⟨h'.1, h'.2.1⟩)]; by_cases h2 : off + n ≤ cs.length <;> simp only [h2, if_true, if_false]
@[go_sem] theorem loadE_c {n : Nat} {cs : List V} {off : Nat} : loadE false n (.a cs) off = cs[off]? := rfl
@[go_sem] theorem loadE_I {n : Nat} {off : Nat} : loadE false n (I a) 0 = some (I a) := rfl
@[go_sem] theorem loadE_S {n : Nat} {off : Nat} : loadE false n (S x) 0 = some (S x) := rfl
@[go_sem] theorem loadE_B {n : Nat} {p : Bool} : loadE false n (B p) 0 = some (B p) := rfl
@[go_sem] theorem loadE_U8 {n : Nat} : loadE false n (U8 a) 0 = some (U8 a) := rfl
@[go_sem] theorem loadE_i {n : Nat} {τ : Bool} {xs : List V} : loadE false n (.i τ xs) 0 = some (.i τ xs) := rfl
@[go_sem] theorem loadE_s {n : Nat} {k : Key} {lo len : Nat} : loadE false n (.s k lo len) 0 = some (.s k lo len) := rfl
@[go_sem] theorem loadE_o {n e : Nat} {xs : List V} : loadE false n (.o e xs) 0 = some (.o e xs) := rfl
@[go_sem] theorem loadE_n {n e : Nat} : loadE false n (.n e) 0 = some (.n e) := rfl
@[go_sem] theorem loadE_f {n : Nat} {fn : Fn} {xs ys : List V} : loadE false n (.f fn xs ys) 0 = some (.f fn xs ys) := rfl
def stO (T : Mem) (k : Key) (ob : Option Ob) (idx off : Nat) (y : V) : Option Mem :=
  match ob with
  | some ob => match ob.2[idx]? with
    | some x => match storeE x off y with
      | some x' => some ((k, ob.1, ob.2.set idx x') :: delK T k)
      | none => none
    | none => none
  | none => none
@[go_sem] theorem store_p {k : Key} {idx off : Nat} {y : V} : storeP T (.p k idx off) y = stO T k (getK T k) idx off y := rfl
@[go_sem] theorem stO_some {k : Key} {idx off e : Nat} {xs : List V} {y : V} : stO T k (some (e, xs)) idx off y = bindV xs[idx]? fun x => bindV (storeE x off y) fun x' => some ((k, e, xs.set idx x') :: delK T k) := by
  simp only [stO]
  cases xs[idx]? with
  | none => rfl
  | some x => simp only [bindV]; cases storeE x off y <;> rfl
attribute [go_sem] storeE
@[go_sem] theorem el_0 {z : V} {zs : List V} : (z :: zs)[0]? = some z := rfl
@[go_sem] theorem el_s {z : V} {zs : List V} {n : Nat} : (z :: zs)[n + 1]? = zs[n]? := by simp
@[go_sem] theorem set_0 {z z' : V} {zs : List V} : (z :: zs).set 0 z' = z' :: zs := rfl
@[go_sem] theorem set_s {z z' : V} {zs : List V} {n : Nat} : (z :: zs).set (n + 1) z' = z :: zs.set n z' := rfl
attribute [go_sem] List.length_cons List.length_nil List.take_zero List.take_succ_cons List.drop_zero List.drop_succ_cons List.nil_append List.cons_append List.append_nil List.length_append

/-! places of a slice -/
def ixO (k : Key) (lo len e : Nat) (i : Int) (ob : Option Ob) : Option V :=
  match ob with
  | some ob => if ob.1 = e ∧ lo + len ≤ ob.2.length then (idx? i len).map fun j => .p k (lo + j) 0 else none
  | none => none
@[go_sem] theorem addr_s {k : Key} {lo len e : Nat} {i : Int} : addrIx T e (.s k lo len) i = ixO k lo len e i (getK T k) := rfl
theorem ixO_some {k : Key} {len e : Nat} {xs : List V} {i : Nat} (h : i < len) (hl : len ≤ xs.length) : ixO k 0 len e (i : Int) (some (e, xs)) = some (.p k i 0) := by
  simp only [ixO, idx?]
  rw [if_pos ⟨trivial, by omega⟩, if_pos ⟨by omega, by omega⟩]
  simp
theorem addr_i {τ : Bool} {xs : List V} {e : Nat} {i : Nat} {z : V} (h : xs[i]? = some z) (hz : z.cells.length = e) : addrIx T e (.i τ xs) (i : Int) = some (.q τ xs i 0) := by
  have hl : i < xs.length := (List.getElem?_eq_some_iff.1 h).1
  simp only [addrIx, idx?]
  rw [if_pos ⟨by omega, by omega⟩]
  simp only [Int.toNat_natCast, h, Option.getD_some, hz, if_true]
def elO (e lo len : Nat) (ob : Option Ob) : Option (List V) :=
  match ob with
  | some ob => if ob.1 = e ∧ lo + len ≤ ob.2.length then some ((ob.2.drop lo).take len) else none
  | none => none
@[go_sem] theorem elems_s {k : Key} {lo len e : Nat} : elemsOf T e (.s k lo len) = elO e lo len (getK T k) := rfl
@[go_sem] theorem elO_some {e e' lo len : Nat} {xs : List V} : elO e lo len (some (e', xs)) = if e' = e ∧ lo + len ≤ xs.length then some ((xs.drop lo).take len) else none := rfl
@[go_sem] theorem elems_i {e : Nat} {τ : Bool} {xs : List V} : elemsOf T e (.i τ xs) = some xs := rfl
@[go_sem] theorem elems_n {e e' : Nat} : elemsOf T e (.n e') = some [] := rfl

/-! append -/
def apO (e lo len : Nat) (T' : Mem) (ob : Option Ob) : Option (List V × Mem) :=
  match ob with
  | some ob => if ob.1 = e ∧ lo + len ≤ ob.2.length then some ((ob.2.drop lo).take len, T') else none
  | none => none
@[go_sem] theorem app_n {e e' : Nat} : app? T e (.n e') = some ([], T) := rfl
@[go_sem] theorem app_s {k : Key} {lo len e : Nat} : app? T e (.s k lo len) = apO e lo len (delK T k) (getK T k) := rfl
@[go_sem] theorem apO_some {e e' lo len : Nat} {xs : List V} : apO e lo len T (some (e', xs)) = if e' = e ∧ lo + len ≤ xs.length then some ((xs.drop lo).take len, T) else none := rfl
def bindP {α : Type} (r : Option (List V × Mem)) (k : List V → Mem → Option α) : Option α :=
  match r with
  | some (xs, T) => k xs T
  | none => none
@[congr] theorem bindP_congr {α : Type} {r r' : Option (List V × Mem)} {k : List V → Mem → Option α} (h : r = r') : bindP r k = bindP r' k := by rw [h]
@[go_sem] theorem bindP_some {α : Type} {xs : List V} {k : List V → Mem → Option α} : bindP (some (xs, T)) k = k xs T := rfl
@[go_sem] theorem g_app {d e bytes : Nat} {x y : AO} : gstep call ⟨σ, T⟩ (.app d e bytes x y) = bindV (ev σ x) fun x => bindV (ev σ y) fun y => bindLs (elemsOf T e y) fun ys => bindP (app? T e x) fun xs T' =>
    guardB (zeroBL ys && allOne e ys && decide ((xs.length + ys.length) * bytes ≤ lim) && decide (xs.length + ys.length ≤ lim))
      (some ⟨(d, .s (d, 0) 0 (xs.length + ys.length)) :: killS d σ, ((d, 0), e, killL d (xs ++ ys)) :: wT d T'⟩) := by
  simp only [gstep, astep, allOne_eq]
  cases ev σ x with
  | none => rfl
  | some x => cases ev σ y with
    | none => rfl
    | some y =>
      simp only [bindV]
      cases elemsOf T e y with
      | none => rfl
      | some ys => cases app? T e x <;> rfl
theorem lim_val : lim = 1099511627776 := rfl

/-! a region that draws its order -/
def dstIs (d : Option Nat) (k : Nat) : Bool :=
  match d with
  | none => false
  | some d => decide (d = k)
@[go_sem] theorem dstIs_none {k : Nat} : dstIs none k = false := rfl
@[go_sem] theorem dstIs_some {d k : Nat} : dstIs (some d) k = decide (d = k) := rfl
def dstK {α : Type} (o : Option Nat) (x : α) (k : Nat → α) : α :=
  match o with
  | none => x
  | some d => k d
@[congr] theorem dstK_congr {α : Type} {o o' : Option Nat} {x : α} {k : Nat → α} (h : o = o') : dstK o x k = dstK o' x k := by rw [h]
@[go_sem] theorem dstK_some {α : Type} {d : Nat} {x : α} {k : Nat → α} : dstK (some d) x k = k d := rfl
@[go_sem] theorem dstK_none {α : Type} {x : α} {k : Nat → α} : dstK none x k = x := rfl
@[go_sem] theorem arunD_nil : arunD call [] [] st = some st := rfl
@[go_sem] theorem arunD_cons {p : Dp} {ps : List Dp} {i : AI} {is : List AI} : arunD call (p :: ps) (i :: is) st = bindS (stepD call p i st) fun st => arunD call ps is st := by
  simp only [arunD]; cases stepD call p i st <;> rfl
@[go_sem] theorem stepD_mk {p : Dp} {i : AI} : stepD call p i ⟨σ, T⟩ = bindS (gstep call ⟨pickS σ (usesI i), pickK T p.ks⟩ i) fun st' => dstK (dstI i) (some ⟨σ, memD p none st'.T T⟩)
    (fun d => bindV (getS st'.σ d) fun x => some ⟨(d, x) :: σ, memD p (some d) st'.T T⟩) := by
  unfold stepD dstK
  simp only
  cases gstep call ⟨pickS σ (usesI i), pickK T p.ks⟩ i with
  | none => rfl
  | some st' =>
    simp only [bindS]
    cases dstI i with
    | none => rfl
    | some d => simp only; cases getS st'.σ d <;> rfl
attribute [go_sem] usesL usesB filtT nodupK
@[go_sem] theorem alloc_nil : allocD [] [] = [] := rfl
@[go_sem] theorem alloc_cons {k : Nat} {ks : List Key} {ps : List Dp} {i : AI} {is : List AI} : allocD (⟨k, ks⟩ :: ps) (i :: is) = if k = 0 then allocD ps is else dstK (dstI i) (allocD ps is) fun d => d :: allocD ps is := by
  simp only [allocD]; cases dstI i <;> rfl
@[go_sem] theorem own_mk {k : Nat} {ks : List Key} {d : Option Nat} {x : Key} : Dp.own ⟨k, ks⟩ d x = ((decide (k = 1) && hasK x ks) || (!decide (k = 0) && dstIs d x.1)) := by
  have h1 : ∀ ks : List Key, ks.contains x = hasK x ks := by
    intro ks
    induction ks with
    | nil => rfl
    | cons u r ih =>
      simp only [List.contains_cons, hasK, ih]
      by_cases h : u = x
      · subst h; simp
      · have : (x == u) = false := by simpa using fun h' => h h'.symm
        simp [h, this]
  simp only [Dp.own, h1]
  have h2 : (d == some x.1) = dstIs d x.1 := by
    cases d with
    | none => rfl
    | some d => simp only [dstIs]; by_cases h : d = x.1 <;> simp [h]
  rw [h2]
  have h3 : (k == 1) = decide (k = 1) := by rw [Bool.eq_iff_iff]; simp
  have h4 : (k != 0) = !decide (k = 0) := by rw [Bool.eq_iff_iff]; simp
  rw [h3, h4]
@[go_sem] theorem wipeL_nil : wipeL [] st = st := rfl
@[go_sem] theorem usesO_t {n : Nat} : usesO (.t n) = [n] := rfl
@[go_sem] theorem usesO_c {z : V} : usesO (.c z) = [] := rfl
@[go_sem] theorem usesOO_n : usesOO none = [] := rfl
@[go_sem] theorem usesOO_s {z : AO} : usesOO (some z) = usesO z := rfl
@[go_sem] theorem dst_mv {d : Nat} {x : AO} : dstI (.mv d x) = some d := rfl
@[go_sem] theorem uses_mv {d : Nat} {x : AO} : usesI (.mv d x) = usesO x := rfl
@[go_sem] theorem dst_pick {d : Nat} {x : AO} {y : AO} {z : AO} : dstI (.pick d x y z) = some d := rfl
@[go_sem] theorem uses_pick {d : Nat} {x : AO} {y : AO} {z : AO} : usesI (.pick d x y z) = usesO x ++ (usesO y ++ usesO z) := rfl
@[go_sem] theorem dst_new {d : Nat} {x : AO} : dstI (.new d x) = some d := rfl
@[go_sem] theorem uses_new {d : Nat} {x : AO} : usesI (.new d x) = usesO x := rfl
@[go_sem] theorem dst_build {d : Nat} {v : V} {bs : List (Nat × Nat × AO)} : dstI (.build d v bs) = some d := rfl
@[go_sem] theorem uses_build {d : Nat} {v : V} {bs : List (Nat × Nat × AO)} : usesI (.build d v bs) = usesB bs := rfl
@[go_sem] theorem dst_mks {d : Nat} {e : Nat} {xs : List AO} : dstI (.mks d e xs) = some d := rfl
@[go_sem] theorem uses_mks {d : Nat} {e : Nat} {xs : List AO} : usesI (.mks d e xs) = usesL xs := rfl
@[go_sem] theorem dst_mk {d : Nat} {e : Nat} {v : V} {n : Nat} {x : AO} {y : AO} : dstI (.mk d e v n x y) = some d := rfl
@[go_sem] theorem uses_mk {d : Nat} {e : Nat} {v : V} {n : Nat} {x : AO} {y : AO} : usesI (.mk d e v n x y) = usesO x ++ usesO y := rfl
@[go_sem] theorem dst_ld {d : Nat} {p : Bool} {n : Nat} {x : AO} : dstI (.ld d p n x) = some d := rfl
@[go_sem] theorem uses_ld {d : Nat} {p : Bool} {n : Nat} {x : AO} : usesI (.ld d p n x) = usesO x := rfl
@[go_sem] theorem dst_ldq {d : Nat} {p : Bool} {n : Nat} {x : AO} : dstI (.ldq d p n x) = some d := rfl
@[go_sem] theorem uses_ldq {d : Nat} {p : Bool} {n : Nat} {x : AO} : usesI (.ldq d p n x) = usesO x := rfl
@[go_sem] theorem dst_nilc {d : Nat} {x : AO} : dstI (.nilc d x) = some d := rfl
@[go_sem] theorem uses_nilc {d : Nat} {x : AO} : usesI (.nilc d x) = usesO x := rfl
@[go_sem] theorem dst_bin {d : Nat} {op : BinOp} {x : AO} {y : AO} : dstI (.bin d op x y) = some d := rfl
@[go_sem] theorem uses_bin {d : Nat} {op : BinOp} {x : AO} {y : AO} : usesI (.bin d op x y) = usesO x ++ usesO y := rfl
@[go_sem] theorem dst_eqs {d : Nat} {n : Nat} {p : Bool} {x : AO} {y : AO} : dstI (.eqs d n p x y) = some d := rfl
@[go_sem] theorem uses_eqs {d : Nat} {n : Nat} {p : Bool} {x : AO} {y : AO} : usesI (.eqs d n p x y) = usesO x ++ usesO y := rfl
@[go_sem] theorem dst_un {d : Nat} {uo : UnOp} {x : AO} : dstI (.un d uo x) = some d := rfl
@[go_sem] theorem uses_un {d : Nat} {uo : UnOp} {x : AO} : usesI (.un d uo x) = usesO x := rfl
@[go_sem] theorem dst_sl {d : Nat} {e : Nat} {x : AO} {ox : Option AO} {oy : Option AO} : dstI (.sl d e x ox oy) = some d := rfl
@[go_sem] theorem uses_sl {d : Nat} {e : Nat} {x : AO} {ox : Option AO} {oy : Option AO} : usesI (.sl d e x ox oy) = usesO x ++ (usesOO ox ++ usesOO oy) := rfl
@[go_sem] theorem dst_ssl {d : Nat} {x : AO} {ox : Option AO} {oy : Option AO} : dstI (.ssl d x ox oy) = some d := rfl
@[go_sem] theorem uses_ssl {d : Nat} {x : AO} {ox : Option AO} {oy : Option AO} : usesI (.ssl d x ox oy) = usesO x ++ (usesOO ox ++ usesOO oy) := rfl
@[go_sem] theorem dst_slen {d : Nat} {x : AO} : dstI (.slen d x) = some d := rfl
@[go_sem] theorem uses_slen {d : Nat} {x : AO} : usesI (.slen d x) = usesO x := rfl
@[go_sem] theorem dst_fa {d : Nat} {x : AO} {n : Nat} : dstI (.fa d x n) = some d := rfl
@[go_sem] theorem uses_fa {d : Nat} {x : AO} {n : Nat} : usesI (.fa d x n) = usesO x := rfl
@[go_sem] theorem dst_fld {d : Nat} {p : Bool} {n : Nat} {x : AO} {m : Nat} : dstI (.fld d p n x m) = some d := rfl
@[go_sem] theorem uses_fld {d : Nat} {p : Bool} {n : Nat} {x : AO} {m : Nat} : usesI (.fld d p n x m) = usesO x := rfl
@[go_sem] theorem dst_ia {d : Nat} {e : Nat} {x : AO} {y : AO} : dstI (.ia d e x y) = some d := rfl
@[go_sem] theorem uses_ia {d : Nat} {e : Nat} {x : AO} {y : AO} : usesI (.ia d e x y) = usesO x ++ usesO y := rfl
@[go_sem] theorem dst_ix {d : Nat} {x : AO} {y : AO} : dstI (.ix d x y) = some d := rfl
@[go_sem] theorem uses_ix {d : Nat} {x : AO} {y : AO} : usesI (.ix d x y) = usesO x ++ usesO y := rfl
@[go_sem] theorem dst_ext {d : Nat} {x : AO} {n : Nat} : dstI (.ext d x n) = some d := rfl
@[go_sem] theorem uses_ext {d : Nat} {x : AO} {n : Nat} : usesI (.ext d x n) = usesO x := rfl
@[go_sem] theorem dst_fun {d : Nat} {fn : Fn} {xs : List AO} {ys : List AO} : dstI (.fun d fn xs ys) = some d := rfl
@[go_sem] theorem uses_fun {d : Nat} {fn : Fn} {xs : List AO} {ys : List AO} : usesI (.fun d fn xs ys) = usesL xs ++ usesL ys := rfl
@[go_sem] theorem dst_app {d : Nat} {e : Nat} {n : Nat} {x : AO} {y : AO} : dstI (.app d e n x y) = some d := rfl
@[go_sem] theorem uses_app {d : Nat} {e : Nat} {n : Nat} {x : AO} {y : AO} : usesI (.app d e n x y) = usesO x ++ usesO y := rfl
@[go_sem] theorem dst_len {d : Nat} {x : AO} : dstI (.len d x) = some d := rfl
@[go_sem] theorem uses_len {d : Nat} {x : AO} : usesI (.len d x) = usesO x := rfl
@[go_sem] theorem dst_mx {d : Nat} {p : Bool} {xs : List AO} : dstI (.mx d p xs) = some d := rfl
@[go_sem] theorem uses_mx {d : Nat} {p : Bool} {xs : List AO} : usesI (.mx d p xs) = usesL xs := rfl
@[go_sem] theorem dst_int {d : Nat} {ik : IntKind} {x : AO} : dstI (.int d ik x) = some d := rfl
@[go_sem] theorem uses_int {d : Nat} {ik : IntKind} {x : AO} : usesI (.int d ik x) = usesO x := rfl
@[go_sem] theorem dst_str {d : Nat} {x : AO} : dstI (.str d x) = some d := rfl
@[go_sem] theorem uses_str {d : Nat} {x : AO} : usesI (.str d x) = usesO x := rfl
@[go_sem] theorem dst_byt {d : Nat} {x : AO} : dstI (.byt d x) = some d := rfl
@[go_sem] theorem uses_byt {d : Nat} {x : AO} : usesI (.byt d x) = usesO x := rfl
@[go_sem] theorem dst_st {n : Nat} {x y : AO} : dstI (.st n x y) = none := rfl
@[go_sem] theorem uses_st {n : Nat} {x y : AO} : usesI (.st n x y) = usesO x ++ usesO y := rfl
@[go_sem] theorem dst_call {o : Option Nat} {x : AO} {xs : List AO} {m : Md} : dstI (.call o x xs m) = o := rfl
@[go_sem] theorem uses_call {o : Option Nat} {x : AO} {xs : List AO} {m : Md} : usesI (.call o x xs m) = usesO x ++ usesL xs := rfl
@[go_sem] theorem dst_gd {n : Nat} {p : Bool} {o : Option Nat} {i : AI} : dstI (.gd n p o i) = o := rfl
@[go_sem] theorem uses_gd {n : Nat} {p : Bool} {o : Option Nat} {i : AI} : usesI (.gd n p o i) = n :: usesI i := rfl
@[go_sem] theorem memD_mk {k : Nat} {ks : List Key} {d : Option Nat} {T' : Mem} : memD ⟨k, ks⟩ d T' T = if k = 0 then T else filtT (Dp.own ⟨k, ks⟩ d) T' ++ filtT (fun x => !Dp.own ⟨k, ks⟩ d x) T := rfl
@[go_sem] theorem wipeL_mk {ds : List Nat} {d : Nat} : wipeL (d :: ds) ⟨σ, T⟩ = wipeL ds ⟨killS d σ, wT d T⟩ := rfl
def pruneK (σ : Sl) (T : Mem) (ks : List Key) : St := ⟨σ, pickT (retireSL (outK ks T).reverse (retireSL (outK ks T) T)) ks⟩
@[go_sem] theorem pruneK_nil {ks : List Key} : pruneK σ [] ks = ⟨σ, []⟩ := by
  have : pickT [] ks = [] := by
    induction ks with
    | nil => rfl
    | cons k ks ih => simp only [pickT, getK, ih]
  simp only [pruneK, outK, List.reverse_nil, retireSL, this]
@[go_sem] theorem pruneK_cons {ks : List Key} {ob : Key × Ob} : pruneK σ (ob :: T) ks = ⟨σ, pickT (retireSL (outK ks (ob :: T)).reverse (retireSL (outK ks (ob :: T)) (ob :: T))) ks⟩ := rfl
@[go_sem] theorem prune_mk {ls : List Nat} {ks : List Key} : prune ls ks ⟨σ, T⟩ = pruneK (pickS σ ls) T (dirS (pickS σ ls)) := rfl
attribute [go_sem] dirV dirL dirS hasK outK retireSL List.reverse_cons List.reverse_nil
@[go_sem] theorem dirV_I {n : Int} : dirV (I n) = [] := rfl
@[go_sem] theorem dirV_B {b : Bool} : dirV (B b) = [] := rfl
@[go_sem] theorem dirV_S {l : List UInt8} : dirV (S l) = [] := rfl
@[go_sem] theorem dirV_U8 {n : Int} : dirV (U8 n) = [] := rfl
@[go_sem] theorem dirV_U32 {n : Int} : dirV (U32 n) = [] := rfl
@[go_sem] theorem dirV_Fc {g : Nat} : dirV (Fc g) = [] := rfl
@[go_sem] theorem dirV_undef : dirV undefV = [] := rfl
def retireK (T : Mem) (k : Key) (ob : Option Ob) : Mem :=
  match ob with
  | none => T
  | some ob => pickB (clEs ob.2) (repT k ob (delK T k)) T
@[go_sem] theorem retireS_def {k : Key} : retireS T k = retireK T k (getK T k) := by
  unfold retireS retireK pickB; cases getK T k <;> rfl
@[go_sem] theorem retireK_none {k : Key} : retireK T k none = T := rfl
@[go_sem] theorem retireK_some {k : Key} {ob : Ob} : retireK T k (some ob) = pickB (clEs ob.2) (repT k ob (delK T k)) T := rfl

/-! loops -/
structure Lp where
  ls : List Nat
  ks : List Key
  body : AC
def lpC (l : Lp) : AC := .loop l.ls l.ks l.body
noncomputable def lw (prog : Nat → Option AE) (l : Lp) (s : St) : Option (AX × St) := bindN (xw prog l.body s) fun st' => xw prog (lpC l) st'
@[go_sem] theorem wx_lp {l : Lp} : xw prog (lpC l) st = lw prog l (prune l.ls l.ks st) := by
  unfold lw lpC; exact wx_loop
theorem lw_eq (l : Lp) (s : St) : lw prog l s = bindN (xw prog l.body s) fun st' => lw prog l (prune l.ls l.ks st') := by
  unfold lw
  congr 1
  funext st'
  rw [wx_lp]; rfl

/-! the results -/
def resK (T : Mem) (k : Key) (agg : Bool) (size : Nat) (ob : Option Ob) : Option (V × Mem) :=
  match ob with
  | some (_, [x]) => (loadE agg size x 0).bind fun y => if x.cells.length = y.cells.length then some (y, delK T k) else none
  | _ => none
def bindR {α : Type} (r : Option (V × Mem)) (k : V → Mem → Option α) : Option α :=
  match r with
  | some (x, T) => k x T
  | none => none
@[congr] theorem bindR_congr {α : Type} {r r' : Option (V × Mem)} {k : V → Mem → Option α} (h : r = r') : bindR r k = bindR r' k := by rw [h]
@[go_sem] theorem bindR_some {α : Type} {z : V} {k : V → Mem → Option α} : bindR (some (z, T)) k = k z T := rfl
@[go_sem] theorem resV_tmp {t : Nat} : resV ⟨σ, T⟩ (.tmp t) = bindV (getS σ t) fun x => some (x, T) := by
  simp only [resV]; cases getS σ t <;> rfl
def ptrK (x : V) (k : Key → Option (V × Mem)) : Option (V × Mem) :=
  match x with
  | .p k' 0 0 => k k'
  | _ => none
@[go_sem] theorem ptrK_p {k' : Key} {k : Key → Option (V × Mem)} : ptrK (.p k' 0 0) k = k k' := rfl
@[go_sem] theorem resV_cell {t size : Nat} {agg : Bool} : resV ⟨σ, T⟩ (.cell t agg size) = bindV (getS σ t) fun x => ptrK x fun k => resK T k agg size (getK T k) := by
  simp only [resV]
  cases getS σ t with
  | none => rfl
  | some x =>
    cases x <;> first | rfl | skip
    rename_i k idx off
    cases idx with
    | succ => rfl
    | zero => cases off with
      | succ => rfl
      | zero =>
        simp only [bindV, ptrK, resK]
        cases getK T k with
        | none => rfl
        | some ob => obtain ⟨e, xs⟩ := ob; rcases xs with _ | ⟨x, _ | ⟨y, r⟩⟩ <;> rfl
@[go_sem] theorem resK_some {k : Key} {agg : Bool} {e size : Nat} {z : V} : resK T k agg size (some (e, [z])) = bindV (loadE agg size z 0) fun y => if z.cells.length = y.cells.length then some (y, delK T k) else none := by
  simp only [resK]; cases loadE agg size z 0 <;> rfl
@[go_sem] theorem resL_nil : resL σ T [] = some ([], T) := rfl
@[go_sem] theorem resL_cons {r : AR} {rs : List AR} : resL σ T (r :: rs) = bindR (resV ⟨σ, T⟩ r) fun x T' => bindP (resL σ T' rs) fun xs T'' => some (x :: xs, T'') := by
  simp only [resL]
  cases resV ⟨σ, T⟩ r with
  | none => rfl
  | some xT => obtain ⟨x, T'⟩ := xT; simp only [bindR]; cases resL σ T' rs <;> rfl
@[go_sem] theorem one?_1 {z : V} : one? [z] = z := rfl
@[go_sem] theorem one?_2 {z z' : V} {zs : List V} : one? (z :: z' :: zs) = .t (z :: z' :: zs) := rfl
@[go_sem] theorem one?_0 : one? [] = .t [] := rfl
attribute [go_sem] openArgs slotsFrom bring_mk Option.some_beq_none Option.some_beq_some Option.none_beq_some
attribute [go_sem] Bool.true_and Bool.and_true Bool.false_and Bool.and_false Bool.not_true Bool.not_false Bool.or_true Bool.true_or Bool.or_false Bool.false_or if_true if_false
  decide_true decide_false decide_eq_true_eq ne_eq not_true_eq_false not_false_eq_true and_self and_true true_and and_false false_and beq_self_eq_true Bool.not_eq_eq_eq_not Bool.false_eq_true decide_not ite_not Bool.not_not
  eq_self Prod.mk.injEq List.contains_nil List.contains_cons Option.isNone_none Option.isNone_some
end
end Go.Vm
