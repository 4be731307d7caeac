import Derived.Test.YtehgffojgiefaaaVmWk
set_option autoImplicit false
set_option linter.unusedVariables false
set_option linter.unusedSimpArgs false
namespace Go.Vm
section
variable {prog : Nat → Option AE} {st : St} {σ : Sl} {T : Mem} {call : Call}
@[go_sem] theorem a_mv {d : Nat} {x : AO} : astep call ⟨σ, T⟩ (.mv d x) = gstep call ⟨σ, T⟩ (.mv d x) := rfl
@[go_sem] theorem a_pick {d : Nat} {x : AO} {y : AO} {z : AO} : astep call ⟨σ, T⟩ (.pick d x y z) = gstep call ⟨σ, T⟩ (.pick d x y z) := rfl
@[go_sem] theorem a_new {d : Nat} {x : AO} : astep call ⟨σ, T⟩ (.new d x) = gstep call ⟨σ, T⟩ (.new d x) := rfl
@[go_sem] theorem a_build {d : Nat} {v : V} {bs : List (Nat × Nat × AO)} : astep call ⟨σ, T⟩ (.build d v bs) = gstep call ⟨σ, T⟩ (.build d v bs) := rfl
@[go_sem] theorem a_mks {d : Nat} {e : Nat} {xs : List AO} : astep call ⟨σ, T⟩ (.mks d e xs) = gstep call ⟨σ, T⟩ (.mks d e xs) := rfl
@[go_sem] theorem a_mk {d : Nat} {e : Nat} {v : V} {n : Nat} {x : AO} {y : AO} : astep call ⟨σ, T⟩ (.mk d e v n x y) = gstep call ⟨σ, T⟩ (.mk d e v n x y) := rfl
@[go_sem] theorem a_ld {d : Nat} {p : Bool} {n : Nat} {x : AO} : astep call ⟨σ, T⟩ (.ld d p n x) = gstep call ⟨σ, T⟩ (.ld d p n x) := rfl
@[go_sem] theorem a_ldq {d : Nat} {p : Bool} {n : Nat} {x : AO} : astep call ⟨σ, T⟩ (.ldq d p n x) = gstep call ⟨σ, T⟩ (.ldq d p n x) := rfl
@[go_sem] theorem a_nilc {d : Nat} {x : AO} : astep call ⟨σ, T⟩ (.nilc d x) = gstep call ⟨σ, T⟩ (.nilc d x) := rfl
@[go_sem] theorem a_bin {d : Nat} {op : BinOp} {x : AO} {y : AO} : astep call ⟨σ, T⟩ (.bin d op x y) = gstep call ⟨σ, T⟩ (.bin d op x y) := rfl
@[go_sem] theorem a_eqs {d : Nat} {n : Nat} {p : Bool} {x : AO} {y : AO} : astep call ⟨σ, T⟩ (.eqs d n p x y) = gstep call ⟨σ, T⟩ (.eqs d n p x y) := rfl
@[go_sem] theorem a_un {d : Nat} {uo : UnOp} {x : AO} : astep call ⟨σ, T⟩ (.un d uo x) = gstep call ⟨σ, T⟩ (.un d uo x) := rfl
@[go_sem] theorem a_sl {d : Nat} {e : Nat} {x : AO} {ox : Option AO} {oy : Option AO} : astep call ⟨σ, T⟩ (.sl d e x ox oy) = gstep call ⟨σ, T⟩ (.sl d e x ox oy) := rfl
@[go_sem] theorem a_ssl {d : Nat} {x : AO} {ox : Option AO} {oy : Option AO} : astep call ⟨σ, T⟩ (.ssl d x ox oy) = gstep call ⟨σ, T⟩ (.ssl d x ox oy) := rfl
@[go_sem] theorem a_slen {d : Nat} {x : AO} : astep call ⟨σ, T⟩ (.slen d x) = gstep call ⟨σ, T⟩ (.slen d x) := rfl
@[go_sem] theorem a_fa {d : Nat} {x : AO} {n : Nat} : astep call ⟨σ, T⟩ (.fa d x n) = gstep call ⟨σ, T⟩ (.fa d x n) := rfl
@[go_sem] theorem a_fld {d : Nat} {p : Bool} {n : Nat} {x : AO} {m : Nat} : astep call ⟨σ, T⟩ (.fld d p n x m) = gstep call ⟨σ, T⟩ (.fld d p n x m) := rfl
@[go_sem] theorem a_ia {d : Nat} {e : Nat} {x : AO} {y : AO} : astep call ⟨σ, T⟩ (.ia d e x y) = gstep call ⟨σ, T⟩ (.ia d e x y) := rfl
@[go_sem] theorem a_ix {d : Nat} {x : AO} {y : AO} : astep call ⟨σ, T⟩ (.ix d x y) = gstep call ⟨σ, T⟩ (.ix d x y) := rfl
@[go_sem] theorem a_ext {d : Nat} {x : AO} {n : Nat} : astep call ⟨σ, T⟩ (.ext d x n) = gstep call ⟨σ, T⟩ (.ext d x n) := rfl
@[go_sem] theorem a_fun {d : Nat} {fn : Fn} {xs : List AO} {ys : List AO} : astep call ⟨σ, T⟩ (.fun d fn xs ys) = gstep call ⟨σ, T⟩ (.fun d fn xs ys) := rfl
@[go_sem] theorem a_app {d : Nat} {e : Nat} {n : Nat} {x : AO} {y : AO} : astep call ⟨σ, T⟩ (.app d e n x y) = gstep call ⟨σ, T⟩ (.app d e n x y) := rfl
@[go_sem] theorem a_len {d : Nat} {x : AO} : astep call ⟨σ, T⟩ (.len d x) = gstep call ⟨σ, T⟩ (.len d x) := rfl
@[go_sem] theorem a_mx {d : Nat} {p : Bool} {xs : List AO} : astep call ⟨σ, T⟩ (.mx d p xs) = gstep call ⟨σ, T⟩ (.mx d p xs) := rfl
@[go_sem] theorem a_int {d : Nat} {ik : IntKind} {x : AO} : astep call ⟨σ, T⟩ (.int d ik x) = gstep call ⟨σ, T⟩ (.int d ik x) := rfl
@[go_sem] theorem a_str {d : Nat} {x : AO} : astep call ⟨σ, T⟩ (.str d x) = gstep call ⟨σ, T⟩ (.str d x) := rfl
@[go_sem] theorem a_byt {d : Nat} {x : AO} : astep call ⟨σ, T⟩ (.byt d x) = gstep call ⟨σ, T⟩ (.byt d x) := rfl
@[go_sem] theorem a_st {n : Nat} {x : AO} {y : AO} : astep call ⟨σ, T⟩ (.st n x y) = gstep call ⟨σ, T⟩ (.st n x y) := rfl
@[go_sem] theorem a_call {o : Option Nat} {x : AO} {xs : List AO} {md : Md} : astep call ⟨σ, T⟩ (.call o x xs md) = gstep call ⟨σ, T⟩ (.call o x xs md) := rfl
@[go_sem] theorem g_pick {d : Nat} {c x y : AO} : gstep call ⟨σ, T⟩ (.pick d c x y) = selK (ev σ c) (bindV (ev σ x) fun y => some ⟨(d, y) :: σ, T⟩) (bindV (ev σ y) fun y => some ⟨(d, y) :: σ, T⟩) none := by
  simp only [gstep, astep, selK]
  split
  · rename_i h; rw [h]; cases ev σ x <;> rfl
  · rename_i h; rw [h]; cases ev σ y <;> rfl
  · rename_i h1 h2; split
    · rename_i h; exact absurd h h1
    · rename_i h; exact absurd h h2
    · rfl
@[go_sem] theorem g_new {d : Nat} {x : AO} : gstep call ⟨σ, T⟩ (.new d x) = bindV (ev σ x) fun y => guardB (oneL y.cells) (some ⟨(d, .p (d, 0) 0 0) :: killS d σ, ((d, 0), y.cells.length, [killV d y]) :: wT d T⟩) := by
  simp only [gstep, astep]; cases ev σ x <;> rfl
def buildK : List V → List (Nat × Nat × V) → Option (List V)
  | z, [] => some z
  | z, (off, size, y) :: r => guardB (!y.dead && decide (y.cells.length = size ∧ off + size ≤ z.length)) (buildK (z.take off ++ y.cells ++ z.drop (off + size)) r)
@[go_sem] theorem buildV_nil {z : List V} : buildV σ z [] = some z := rfl
@[go_sem] theorem buildV_cons {z : List V} {off size : Nat} {x : AO} {r : List (Nat × Nat × AO)} : buildV σ z ((off, size, x) :: r) =
    bindV (ev σ x) fun y => guardB (!y.dead && decide (y.cells.length = size) && decide (off + size ≤ z.length)) (buildV σ (z.take off ++ y.cells ++ z.drop (off + size)) r) := by
  simp only [buildV]
  cases ev σ x with
  | none => rfl
  | some y =>
    simp only [bindV, guardB]
    congr 1
    simp [and_assoc]
@[go_sem] theorem g_build {d : Nat} {z : V} {parts : List (Nat × Nat × AO)} : gstep call ⟨σ, T⟩ (.build d z parts) = bindLs (buildV σ z.cells parts) fun cs => some ⟨(d, .a cs) :: σ, T⟩ := by
  simp only [gstep, astep]; cases buildV σ z.cells parts <;> rfl
def allOne (e : Nat) : List V → Bool
  | [] => true
  | y :: ys => oneL y.cells && (y.cells.length == e) && allOne e ys
theorem allOne_eq (e : Nat) : ∀ (ys : List V), allOne e ys = ys.all fun y => oneL y.cells && y.cells.length == e
  | [] => rfl
  | y :: ys => by simp only [allOne, List.all_cons, allOne_eq e ys]
attribute [go_sem] allOne
@[go_sem] theorem g_mks {d e : Nat} {parts : List AO} : gstep call ⟨σ, T⟩ (.mks d e parts) = bindLs (evL σ parts) fun ys =>
    guardB (allOne e ys) (some ⟨(d, .s (d, 0) 0 ys.length) :: killS d σ, ((d, 0), e, killL d ys) :: wT d T⟩) := by
  simp only [gstep, astep, allOne_eq]; cases evL σ parts <;> rfl
def mkK (e bytes : Nat) (z l c : V) (d : Nat) (σ : Sl) (T : Mem) : Option St :=
  match l, c with
  | .v (.int _ l), .v (.int _ c) =>
      if 0 ≤ l ∧ l = c ∧ l * bytes ≤ lim ∧ l ≤ lim ∧ z.cells.length = e ∧ oneL z.cells ∧ clE z then
        some { σ := (d, .s (d, 0) 0 l.toNat) :: (wipe d ⟨σ, T⟩).σ, T := ((d, 0), e, List.replicate l.toNat z) :: (wipe d ⟨σ, T⟩).T }
      else none
  | _, _ => none
@[go_sem] theorem g_mk {d e bytes : Nat} {z : V} {l c : AO} : gstep call ⟨σ, T⟩ (.mk d e z bytes l c) = bindV (ev σ l) fun l => bindV (ev σ c) fun c => mkK e bytes z l c d σ T := by
  simp only [gstep, astep, mkK]
  cases ev σ l with
  | none => rfl
  | some l => cases ev σ c with
    | none => cases l <;> first | rfl | (rename_i v; cases v <;> rfl)
    | some c => cases l <;> first | rfl | (rename_i v; cases v <;> first | rfl | (cases c <;> first | rfl | (rename_i v; cases v <;> rfl)))
theorem mkK_nat {e bytes : Nat} {z : V} {n d : Nat} (h1 : n * bytes ≤ lim) (h2 : n ≤ lim) (hz : z.cells.length = e) (ho : oneL z.cells = true) (hc : clE z = true) :
    mkK e bytes z (I n) (I n) d σ T = some ⟨(d, .s (d, 0) 0 n) :: killS d σ, ((d, 0), e, List.replicate n z) :: wT d T⟩ := by
  simp only [mkK, I]
  rw [if_pos ⟨by omega, trivial, by exact_mod_cast h1, by exact_mod_cast h2, hz, ho, hc⟩]
  simp [wipe_mk]
@[go_sem] theorem g_ld {d size : Nat} {agg : Bool} {a : AO} : gstep call ⟨σ, T⟩ (.ld d agg size a) = bindV (ev σ a) fun p => bindV (loadP T agg size p) fun y =>
    pickB (zeroB y) (some ⟨(d, y) :: σ, T⟩) (bindV (loadP (wT d T) agg size p) fun y' => bindM (storeP (wT d T) p (open1 d 0 y').1) fun T' => some ⟨(d, (open1 d 0 y').1) :: killS d σ, (open1 d 0 y').2.2 ++ T'⟩) := by
  simp only [gstep, astep]
  cases ev σ a with
  | none => rfl
  | some p =>
    simp only [bindV]
    cases loadP T agg size p with
    | none => rfl
    | some y =>
      simp only [pickB]
      cases h : zeroB y
      · simp only [Bool.not_false, Bool.false_eq_true, if_true, if_false, wipe_mk]
        cases loadP (wT d T) agg size p with
        | none => rfl
        | some y' =>
          simp only
          cases storeP (wT d T) p (open1 d 0 y').1 <;> rfl
      · simp [St.put]
@[go_sem] theorem g_ldq {d size : Nat} {agg : Bool} {a : AO} : gstep call ⟨σ, T⟩ (.ldq d agg size a) = bindV (ev σ a) fun p => bindV (loadP T agg size p) fun y => guardB (zeroB y) (some ⟨(d, y) :: σ, T⟩) := by
  simp only [gstep, astep]
  cases ev σ a with
  | none => rfl
  | some p => simp only [bindV]; cases loadP T agg size p <;> rfl
@[go_sem] theorem g_st {size : Nat} {a x : AO} : gstep call ⟨σ, T⟩ (.st size a x) = bindV (ev σ a) fun p => bindV (ev σ x) fun y =>
    guardB (decide (y.cells.length = size) && oneL y.cells) (bindM (storeP T p y) fun T' => some ⟨σ, T'⟩) := by
  simp only [gstep, astep]
  cases ev σ a with
  | none => rfl
  | some p => cases ev σ x with
    | none => rfl
    | some y =>
      simp only [bindV, guardB, Bool.and_eq_true, decide_eq_true_eq]
      congr 1
      cases storeP T p y <;> rfl
def nilK (d : Nat) (σ : Sl) (T : Mem) : V → Option St
  | .p k idx off => some ⟨(d, .p k idx off) :: σ, T⟩
  | .q τ xs idx off => some ⟨(d, .q τ xs idx off) :: σ, T⟩
  | .f (.func g) first caps => some ⟨(d, .f (.func g) first caps) :: σ, T⟩
  | _ => none
@[go_sem] theorem nilK_p {d : Nat} {k : Key} {i o : Nat} : nilK d σ T (.p k i o) = some ⟨(d, .p k i o) :: σ, T⟩ := rfl
@[go_sem] theorem nilK_q {d : Nat} {τ : Bool} {xs : List V} {i o : Nat} : nilK d σ T (.q τ xs i o) = some ⟨(d, .q τ xs i o) :: σ, T⟩ := rfl
@[go_sem] theorem nilK_f {d g : Nat} {xs ys : List V} : nilK d σ T (.f (.func g) xs ys) = some ⟨(d, .f (.func g) xs ys) :: σ, T⟩ := rfl
@[go_sem] theorem nilK_Fc {d g : Nat} : nilK d σ T (Fc g) = some ⟨(d, Fc g) :: σ, T⟩ := rfl
@[go_sem] theorem g_nilc {d : Nat} {x : AO} : gstep call ⟨σ, T⟩ (.nilc d x) = bindV (ev σ x) fun y => nilK d σ T y := by
  simp only [gstep, astep]
  cases ev σ x with
  | none => rfl
  | some y => cases y <;> first | rfl | (rename_i f _ _; cases f <;> rfl)
@[go_sem] theorem g_bin {d : Nat} {op : BinOp} {x y : AO} : gstep call ⟨σ, T⟩ (.bin d op x y) = bindV (ev σ x) fun x => bindV (ev σ y) fun y => bindV (binV op x y) fun z => some ⟨(d, z) :: σ, T⟩ := by
  simp only [gstep, astep]
  cases ev σ x with
  | none => rfl
  | some x => cases ev σ y with
    | none => rfl
    | some y => simp only [bindV]; cases binV op x y <;> rfl
def eqB (k : Nat) (x y : V) : Option V := (eqV k x y).map B
@[go_sem] theorem g_eqs {d k : Nat} {neg : Bool} {x y : AO} : gstep call ⟨σ, T⟩ (.eqs d k neg x y) = bindV (ev σ x) fun x => bindV (ev σ y) fun y => bindV ((eqV k x y).map fun r => B (r != neg)) fun z => some ⟨(d, z) :: σ, T⟩ := by
  simp only [gstep, astep]
  cases ev σ x with
  | none => rfl
  | some x => cases ev σ y with
    | none => rfl
    | some y => simp only [bindV]; cases eqV k x y <;> rfl
def unV (op : UnOp) : V → Option V
  | .v x => (Op.unary op x).val?.map .v
  | _ => none
@[go_sem] theorem g_un {d : Nat} {op : UnOp} {x : AO} : gstep call ⟨σ, T⟩ (.un d op x) = bindV (ev σ x) fun x => bindV (unV op x) fun z => some ⟨(d, z) :: σ, T⟩ := by
  simp only [gstep, astep]
  cases ev σ x with
  | none => rfl
  | some x => cases x <;> first | rfl | (simp only [bindV, unV, Option.map_map]; rename_i v; cases (Op.unary op v).val? <;> rfl)
@[go_sem] theorem un_not {b : Bool} : unV .not (B b) = some (B (!b)) := rfl
@[go_sem] theorem un_neg {n : Int} : unV .neg (I n) = some (I (w64 (0 - n))) := rfl
def bindO {α : Type} (r : Option (Option V)) (k : Option V → Option α) : Option α :=
  match r with
  | some y => k y
  | none => none
@[congr] theorem bindO_congr {α : Type} {r r' : Option (Option V)} {k : Option V → Option α} (h : r = r') : bindO r k = bindO r' k := by rw [h]
@[go_sem] theorem bindO_some {α : Type} {x : Option V} {k : Option V → Option α} : bindO (some x) k = k x := rfl
@[go_sem] theorem evO_some' {x : AO} : evO σ (some x) = bindV (ev σ x) fun y => some (some y) := by
  simp only [evO]; cases ev σ x <;> rfl
@[go_sem] theorem g_sl {d e : Nat} {x : AO} {lo hi : Option AO} : gstep call ⟨σ, T⟩ (.sl d e x lo hi) = bindV (ev σ x) fun x => bindO (evO σ lo) fun lo => bindO (evO σ hi) fun hi => bindV (sliceV T e x lo hi) fun z => some ⟨(d, z) :: σ, T⟩ := by
  simp only [gstep, astep]
  cases ev σ x with
  | none => rfl
  | some x => cases evO σ lo with
    | none => rfl
    | some lo => cases evO σ hi with
      | none => rfl
      | some hi => simp only [bindV, bindO]; cases sliceV T e x lo hi <;> rfl
def sslV (x : V) (lo hi : Option V) : Option V :=
  match x with
  | .v (.string s) => match bound? 0 lo, bound? s.size hi with
      | some l, some h => if l ≤ h ∧ h ≤ s.size then some (.v (.string (s.extract l h))) else none
      | _, _ => none
  | _ => none
@[go_sem] theorem g_ssl {d : Nat} {x : AO} {lo hi : Option AO} : gstep call ⟨σ, T⟩ (.ssl d x lo hi) = bindV (ev σ x) fun x => bindO (evO σ lo) fun lo => bindO (evO σ hi) fun hi => bindV (sslV x lo hi) fun z => some ⟨(d, z) :: σ, T⟩ := by
  simp only [gstep, astep]
  cases ev σ x with
  | none => rfl
  | some x => cases evO σ lo with
    | none => cases x <;> first | rfl | (rename_i v; cases v <;> rfl)
    | some lo => cases evO σ hi with
      | none => cases x <;> first | rfl | (rename_i v; cases v <;> rfl)
      | some hi =>
        simp only [bindV, bindO, sslV]
        cases x <;> first | rfl | (rename_i v; cases v <;> first | rfl | skip)
        rename_i s
        simp only
        cases bound? 0 lo with
        | none => rfl
        | some l => cases bound? s.size hi with
          | none => rfl
          | some h => simp only; split <;> rfl
def bound1 (d : Nat) : Option V → Option Int
  | none => some d
  | some (.v (.int _ i)) => some i
  | _ => none
@[go_sem] theorem bound1_none {d : Nat} : bound1 d none = some d := rfl
@[go_sem] theorem bound1_I {d : Nat} {i : Int} : bound1 d (some (I i)) = some i := rfl
theorem ssl_S {l : List UInt8} {lo hi : Option V} {a b : Int} (h1 : bound1 0 lo = some a) (h2 : bound1 l.length hi = some b) (h3 : 0 ≤ a) (h4 : a ≤ b) (h5 : b ≤ l.length) :
    sslV (S l) lo hi = some (S ((l.take b.toNat).drop a.toNat)) := by
  have e1 : bound? 0 lo = some a.toNat := by
    unfold bound? ; unfold bound1 at h1; split at h1
    · simp only [Option.some.injEq] at h1; subst h1; simp
    · simp only [Option.some.injEq] at h1; subst h1; simp [h3]
    · cases h1
  have e2 : bound? l.length hi = some b.toNat := by
    unfold bound?; unfold bound1 at h2; split at h2
    · simp only [Option.some.injEq] at h2; subst h2; simp
    · simp only [Option.some.injEq] at h2; subst h2; show (if _ then _ else _) = _; rw [if_pos (by omega)]
    · cases h2
  have hs : (ByteArray.mk l.toArray).size = l.length := by simp [ByteArray.size]
  simp only [sslV, S, hs, e1, e2]
  rw [if_pos ⟨by omega, by omega⟩]
  congr 3
  apply ByteArray.ext
  apply Array.ext'
  simp only [ByteArray.data_extract, List.extract_toArray, List.toList_toArray, List.extract_eq_take_drop]
  rw [List.drop_take]
def slenV : V → Option V
  | .v (.string s) => some (.v (.int .i64 s.size))
  | _ => none
@[go_sem] theorem g_slen {d : Nat} {x : AO} : gstep call ⟨σ, T⟩ (.slen d x) = bindV (ev σ x) fun x => bindV (slenV x) fun z => some ⟨(d, z) :: σ, T⟩ := by
  simp only [gstep, astep]
  cases ev σ x with
  | none => rfl
  | some x => cases x <;> first | rfl | (rename_i v; cases v <;> rfl)
@[go_sem] theorem slen_S {l : List UInt8} : slenV (S l) = some (I l.length) := by simp [slenV, S, I, ByteArray.size]
def faV (off : Nat) : V → Option V
  | .p k idx o => some (.p k idx (o + off))
  | .q τ xs idx o => some (.q τ xs idx (o + off))
  | _ => none
@[go_sem] theorem faV_p {off : Nat} {k : Key} {i o : Nat} : faV off (.p k i o) = some (.p k i (o + off)) := rfl
@[go_sem] theorem faV_q {off : Nat} {τ : Bool} {xs : List V} {i o : Nat} : faV off (.q τ xs i o) = some (.q τ xs i (o + off)) := rfl
@[go_sem] theorem g_fa {d off : Nat} {x : AO} : gstep call ⟨σ, T⟩ (.fa d x off) = bindV (ev σ x) fun x => bindV (faV off x) fun z => some ⟨(d, z) :: σ, T⟩ := by
  simp only [gstep, astep]
  cases ev σ x with
  | none => rfl
  | some x => cases x <;> rfl
def fldV (agg : Bool) (size off : Nat) : V → Option V
  | .a cs => loadE agg size (.a cs) off
  | _ => none
@[go_sem] theorem fldV_a {agg : Bool} {size off : Nat} {cs : List V} : fldV agg size off (.a cs) = loadE agg size (.a cs) off := rfl
@[go_sem] theorem g_fld {d size off : Nat} {agg : Bool} {x : AO} : gstep call ⟨σ, T⟩ (.fld d agg size x off) = bindV (ev σ x) fun x => bindV (fldV agg size off x) fun z => some ⟨(d, z) :: σ, T⟩ := by
  simp only [gstep, astep]
  cases ev σ x with
  | none => rfl
  | some x => cases x <;> first | rfl | (simp only [bindV, fldV]; rename_i cs; cases loadE agg size (.a cs) off <;> rfl)
def iaV (T : Mem) (e : Nat) (x i : V) : Option V :=
  match i with
  | .v (.int _ i) => addrIx T e x i
  | _ => none
@[go_sem] theorem iaV_I {e : Nat} {x : V} {i : Int} : iaV T e x (I i) = addrIx T e x i := rfl
@[go_sem] theorem g_ia {d e : Nat} {x i : AO} : gstep call ⟨σ, T⟩ (.ia d e x i) = bindV (ev σ x) fun x => bindV (ev σ i) fun i => bindV (iaV T e x i) fun z => some ⟨(d, z) :: σ, T⟩ := by
  simp only [gstep, astep]
  cases ev σ x with
  | none => rfl
  | some x => cases ev σ i with
    | none => rfl
    | some i => cases i <;> first | rfl | (rename_i v; cases v <;> first | rfl | (simp only [bindV, iaV]; rename_i j; cases addrIx T e x j <;> rfl))
def ixV : V → V → Option V
  | .v (.string s), .v (.int _ i) => (idx? i s.size).map fun j => byteV (s.data[j]?.getD 0)
  | _, _ => none
@[go_sem] theorem g_ix {d : Nat} {x i : AO} : gstep call ⟨σ, T⟩ (.ix d x i) = bindV (ev σ x) fun x => bindV (ev σ i) fun i => bindV (ixV x i) fun z => some ⟨(d, z) :: σ, T⟩ := by
  simp only [gstep, astep]
  cases ev σ x with
  | none => rfl
  | some x => cases ev σ i with
    | none => cases x <;> first | rfl | (rename_i v; cases v <;> rfl)
    | some i =>
      cases x <;> first | rfl | (rename_i v; cases v <;> first | rfl | skip)
      rename_i s
      cases i <;> first | rfl | (rename_i v; cases v <;> first | rfl | (simp only [bindV, ixV]; rename_i j; cases idx? j s.size <;> rfl))
theorem ix_S {l : List UInt8} {i : Int} {c : UInt8} (h0 : 0 ≤ i) (h : l[i.toNat]? = some c) : ixV (S l) (I i) = some (U8 c.toNat) := by
  have hl : i.toNat < l.length := (List.getElem?_eq_some_iff.1 h).1
  have hs : (ByteArray.mk l.toArray).size = l.length := by simp [ByteArray.size]
  simp only [ixV, S, I, hs, idx?]
  rw [if_pos ⟨h0, by omega⟩]
  simp [h, byteV, U8]
def extV (i : Nat) : V → Option V
  | .t vs => vs[i]?
  | _ => none
@[go_sem] theorem extV_t {i : Nat} {vs : List V} : extV i (.t vs) = vs[i]? := rfl
@[go_sem] theorem g_ext {d i : Nat} {x : AO} : gstep call ⟨σ, T⟩ (.ext d x i) = bindV (ev σ x) fun x => bindV (extV i x) fun z => some ⟨(d, z) :: σ, T⟩ := by
  simp only [gstep, astep]
  cases ev σ x with
  | none => rfl
  | some x => cases x <;> first | rfl | (simp only [bindV, extV]; rename_i vs; cases vs[i]? <;> rfl)
@[go_sem] theorem g_fun {d : Nat} {fn : Fn} {first caps : List AO} : gstep call ⟨σ, T⟩ (.fun d fn first caps) = bindLs (evL σ first) fun a => bindLs (evL σ caps) fun b => some ⟨(d, .f fn a b) :: σ, T⟩ := by
  simp only [gstep, astep]
  cases evL σ first with
  | none => rfl
  | some a => cases evL σ caps <;> rfl
def lenK (x : V) : Option V := (lenV x).map fun n => I n
@[go_sem] theorem lenK_s {k : Key} {lo len : Nat} : lenK (.s k lo len) = some (I len) := rfl
@[go_sem] theorem lenK_i {τ : Bool} {xs : List V} : lenK (.i τ xs) = some (I xs.length) := rfl
@[go_sem] theorem lenK_n {e : Nat} : lenK (.n e) = some (I 0) := rfl
@[go_sem] theorem g_len {d : Nat} {x : AO} : gstep call ⟨σ, T⟩ (.len d x) = bindV (ev σ x) fun x => bindV (lenK x) fun z => some ⟨(d, z) :: σ, T⟩ := by
  simp only [gstep, astep]
  cases ev σ x with
  | none => rfl
  | some x => simp only [bindV, lenK]; cases lenV x <;> rfl
def mxV (max : Bool) : List V → Option V
  | [.v (.int k a), .v (.int _ b)] => some (.v (.int k (if max then (if b > a then b else a) else (if b < a then b else a))))
  | _ => none
@[go_sem] theorem g_mx {d : Nat} {max : Bool} {args : List AO} : gstep call ⟨σ, T⟩ (.mx d max args) = bindLs (evL σ args) fun xs => bindV (mxV max xs) fun z => some ⟨(d, z) :: σ, T⟩ := by
  simp only [gstep, astep]
  cases evL σ args with
  | none => rfl
  | some xs =>
    rcases xs with _ | ⟨x, _ | ⟨y, _ | ⟨z, r⟩⟩⟩
    · rfl
    · cases x <;> first | rfl | (rename_i v; cases v <;> rfl)
    · cases x <;> first | rfl | (rename_i v; cases v <;> first | rfl | (cases y <;> first | rfl | (rename_i v; cases v <;> rfl)))
    · cases x <;> first | rfl | (rename_i v; cases v <;> first | rfl | (cases y <;> first | rfl | (rename_i v; cases v <;> rfl)))
@[go_sem] theorem mx_max {a b : Int} : mxV true [I a, I b] = some (I (if b > a then b else a)) := rfl
@[go_sem] theorem mx_min {a b : Int} : mxV false [I a, I b] = some (I (if b < a then b else a)) := rfl
def intK (k : IntKind) : V → Option V
  | .v (.int _ n) => some (.v (.int k (k.wrap n)))
  | _ => none
@[go_sem] theorem g_int {d : Nat} {k : IntKind} {x : AO} : gstep call ⟨σ, T⟩ (.int d k x) = bindV (ev σ x) fun x => bindV (intK k x) fun z => some ⟨(d, z) :: σ, T⟩ := by
  simp only [gstep, astep]
  cases ev σ x with
  | none => rfl
  | some x => cases x <;> first | rfl | (rename_i v; cases v <;> rfl)
@[go_sem] theorem intK_u8 {n : Int} : intK .i64 (U8 n) = some (I (w64 n)) := rfl
@[go_sem] theorem intK_I8 {n : Int} : intK .u8 (I n) = some (U8 (IntKind.u8.wrap n)) := rfl
def strK (xs : Option (List V)) : Option V :=
  match xs with
  | some xs => (bytesOf xs).map fun l => S l
  | none => none
@[go_sem] theorem g_str {d : Nat} {x : AO} : gstep call ⟨σ, T⟩ (.str d x) = bindV (ev σ x) fun x => bindV (strK (elemsOf T 1 x)) fun z => some ⟨(d, z) :: σ, T⟩ := by
  simp only [gstep, astep]
  cases ev σ x with
  | none => rfl
  | some x =>
    simp only [bindV]
    cases elemsOf T 1 x with
    | none => rfl
    | some xs => simp only [strK]; cases bytesOf xs <;> rfl
@[go_sem] theorem strK_some {xs : List V} : strK (some xs) = (bytesOf xs).map fun l => S l := rfl

/-! calls -/
def calK {α : Type} (f : V) (k : Nat → List V → List V → Option α) : Option α :=
  match f with
  | .f (.func g) first caps => k g first caps
  | _ => none
@[congr] theorem calK_congr {α : Type} {f f' : V} {k : Nat → List V → List V → Option α} (h : f = f') : calK f k = calK f' k := by rw [h]
@[go_sem] theorem calK_Fc {α : Type} {g : Nat} {k : Nat → List V → List V → Option α} : calK (Fc g) k = k g [] [] := rfl
@[go_sem] theorem calK_f {α : Type} {g : Nat} {a b : List V} {k : Nat → List V → List V → Option α} : calK (.f (.func g) a b) k = k g a b := rfl
@[go_sem] theorem g_call_ro {d : Option Nat} {f : AO} {args : List AO} {fz : Bool} : gstep (cw prog) ⟨σ, T⟩ (.call d f args (.ro fz)) = bindV (ev σ f) fun fv => bindLs (evL σ args) fun xs =>
    calK fv fun g first caps => bindV (cr prog g (snapArgs T (first ++ xs ++ caps))) fun r => guardB (noTag r) (some (bringO d (fzV fz r) ⟨σ, T⟩)) := by
  simp only [gstep, astep]
  cases ev σ f with
  | none => rfl
  | some fv =>
    cases evL σ args with
    | none => simp only [bindV, bindLs]; cases callee fv <;> rfl
    | some xs =>
      simp only [bindV, bindLs]
      cases fv with
      | f fn first caps =>
        cases fn <;> first | rfl | skip
        simp only [callee, calK, doCall]
        unfold cr
        rename_i g
        cases cw prog g (snapArgs T (first ++ xs ++ caps)) with
        | none => rfl
        | some r => obtain ⟨r, o⟩ := r; rfl
      | _ => rfl
theorem bring_mk {d : Nat} {x : V} : bring d x ⟨σ, T⟩ = pickB (zeroB x) ⟨(d, x) :: σ, T⟩ ⟨(d, (openV d x).1) :: killS d σ, (openV d x).2 ++ wT d T⟩ := by
  unfold bring pickB
  cases h : zeroB x <;> simp [wipe_mk, St.put]
end
end Go.Vm
