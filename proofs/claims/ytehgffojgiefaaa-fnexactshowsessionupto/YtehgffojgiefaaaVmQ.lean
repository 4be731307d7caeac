import Derived.Test.YtehgffojgiefaaaVmP
set_option autoImplicit false
set_option linter.unusedVariables false
set_option linter.unusedSimpArgs false
namespace Go.Vm

/-- what an operation must come to, a call too -/
def Com (P : Program) (N : Nat) (E : Env) (c : Cnt) (st' : St) (a : Act) (dst : Option Tmp) : Result Next → Prop
  | .ok (.enter f args) w' => w' = E.w ∧ Calls P f args E.w (fun e w'' => ∃ y E' c', e = .returned y ∧ E'.w = w'' ∧ Keeps dst E E' ∧ FRel N E' st' (a.put dst y).tmps c' ∧ Adv E c E' c')
  | r => Comes1 N E c st' a dst r
theorem Comes1.com {P : Program} {N : Nat} {E : Env} {c : Cnt} {st' : St} {a : Act} {dst : Option Tmp} {r : Result Next} (h : Comes1 N E c st' a dst r) : Com P N E c st' a dst r := by
  unfold Com
  split
  · simp only [Comes1] at h
  · exact h

/-! ### one operation read -/
section
variable (P : Program) (N : Nat) (o : Oper)
def okD (d : Nat) : Bool := decide (o.dst = some d ∧ d < N)
def trMv (d : Nat) (h : AO) : Option AI :=
  match o.op with
  | .move x | .assign x => (trO x h).map (.mv d)
  | _ => none
def trPick (d : Nat) (h1 h2 h3 : AO) : Option AI :=
  match o.op with
  | .pick c x y => match trO c h1, trO x h2, trO y h3 with
    | some c', some x', some y' => some (.pick d c' x' y')
    | _, _, _ => none
  | _ => none
def trNew (d : Nat) (h : AO) : Option AI :=
  match o.op, h with
  | .alloc t, .c z => match zeroT P t with
    | some v => (cV v z).map fun x => .new d (.c x)
    | none => none
  | .box t x, h => (trO x h).map (.new d)
  | _, _ => none
def trLd (d : Nat) (h : AO) : Option AI :=
  match o.op with
  | .load t p => opt2 (trO p h) (tagT P t) fun p' q => .ld d q.1 q.2 p'
  | _ => none
def trLdq (d : Nat) (h : AO) : Option AI :=
  match o.op with
  | .load t p => opt2 (trO p h) (tagT P t) fun p' q => .ldq d q.1 q.2 p'
  | _ => none
def trSt (h1 h2 : AO) : Option AI :=
  match o.op with
  | .store t p x => match trO p h1, trO x h2, (P.info? t).map (·.size) with
    | some p', some x', some n => some (.st n p' x')
    | _, _, _ => none
  | _ => none
def trNilc (d : Nat) (h : AO) : Option AI :=
  match o.op with
  | .nilCheck x => (trO x h).map (.nilc d)
  | _ => none
def trFa (d : Nat) (h : AO) : Option AI :=
  match o.op with
  | .fieldAddr s x f => match trO x h, fieldT P s f with
    | some x', some fl => match (P.info? fl.type).map (·.size) with
      | some n => if n ≠ 0 then some (.fa d x' fl.offset) else none
      | none => none
    | _, _ => none
  | _ => none
def trFld (d : Nat) (h : AO) : Option AI :=
  match o.op with
  | .field s x f => match trO x h, fieldT P s f with
    | some x', some fl => (tagT P fl.type).map fun q => .fld d q.1 q.2 x' fl.offset
    | _, _ => none
  | _ => none
def trIa (d : Nat) (h1 h2 : AO) : Option AI :=
  match o.op with
  | .indexAddr t x i => match trO x h1, trO i h2, slT P t with
    | some x', some i', some q => some (.ia d q.2.size x' i')
    | _, _, _ => none
  | _ => none
def trIx (d : Nat) (h1 h2 : AO) : Option AI :=
  match o.op with
  | .index t x i => match trO x h1, trO i h2, P.underlying t with
    | some x', some i', some .string => some (.ix d x' i')
    | _, _, _ => none
  | _ => none
def trBin (d : Nat) (h1 h2 : AO) : Option AI :=
  match o.op with
  | .binOp op _ x y _ => opt2 (trO x h1) (trO y h2) fun x' y' => .bin d op x' y'
  | _ => none
def trEqs (d : Nat) (neg : Bool) (h1 h2 : AO) : Option AI :=
  match o.op with
  | .binOp .eql t x y _ => match trO x h1, trO y h2, eqK P t, neg with
    | some x', some y', some k, false => some (.eqs d k false x' y')
    | _, _, _, _ => none
  | .binOp .neq t x y _ => match trO x h1, trO y h2, eqK P t, neg with
    | some x', some y', some k, true => some (.eqs d k true x' y')
    | _, _, _, _ => none
  | _ => none
def trUn (d : Nat) (h : AO) : Option AI :=
  match o.op with
  | .unOp op _ x => (trO x h).map (.un d op)
  | _ => none
def trExt (d : Nat) (h : AO) : Option AI :=
  match o.op with
  | .extract x i => (trO x h).map fun x' => .ext d x' i
  | _ => none
def trFun (d : Nat) (hf hc : List AO) : Option AI :=
  match o.op with
  | .makeFunc fn first caps => opt2 (trOs first.toList hf) (trOs caps.toList hc) fun f' c' => .fun d fn f' c'
  | _ => none
def trOO : Option Operand → Option AO → Option (Option AO)
  | none, none => some none
  | some x, some h => (trO x h).map some
  | _, _ => none
def trSl (d : Nat) (h : AO) (hl hh : Option AO) : Option AI :=
  match o.op with
  | .slice t x lo hi none => match trO x h, trOO lo hl, trOO hi hh, slT P t with
    | some x', some lo', some hi', some q => some (.sl d q.2.size x' lo' hi')
    | _, _, _, _ => none
  | _ => none
def trSsl (d : Nat) (h : AO) (hl hh : Option AO) : Option AI :=
  match o.op with
  | .slice t x lo hi none => match trO x h, trOO lo hl, trOO hi hh, P.underlying t with
    | some x', some lo', some hi', some .string => some (.ssl d x' lo' hi')
    | _, _, _, _ => none
  | _ => none
def trBuild (d : Nat) (hz : V) (hp : List AO) : Option AI :=
  match o.op with
  | .build t parts => match zeroT P t, placesT P t with
    | some z, some places => match cVL z.cells.toList hz.cells, trB places parts.toList hp with
      | some zv, some p' => some (.build d (.a zv) p')
      | _, _ => none
    | _, _ => none
  | _ => none
def slZ (t : TypeId) : Option (TypeInfo × Value) :=
  match slT P t with
  | some q => match q.2.zero with
    | some z => if z.cells.size = q.2.size ∧ q.2.bytes ≤ 1048576 then some (q.2, z) else none
    | none => none
  | none => none
def trMks (d : Nat) (hp : List AO) : Option AI :=
  match o.op with
  | .buildSlice t len parts => match slZ P t, trOs (parts.toList.map (·.2)) hp with
    | some q, some p' => if len = parts.toList.length ∧ parts.toList.map (·.1) = List.range' 0 len ∧ len * q.1.size ≤ 2 ^ 24 then some (.mks d q.1.size p') else none
    | _, _ => none
  | _ => none
def trMk (d : Nat) (hz : V) (h1 h2 : AO) : Option AI :=
  match o.op with
  | .makeSlice t l c => match slZ P t, trO l h1, trO c h2 with
    | some q, some l', some c' => (cV q.2 hz).map fun z => .mk d q.1.size z q.1.bytes l' c'
    | _, _, _ => none
  | _ => none
def bltn : Option (Builtin × List Operand × List TypeId) :=
  match o.op with
  | .call c => match c.callee with
    | .builtin b => some (b, c.args.toList, c.argTypes.toList)
    | _ => none
  | _ => none
def trLen (d : Nat) (h : AO) : Option AI :=
  match bltn o with
  | some (.len, [x], [t]) => match trO x h, P.underlying t with
    | some x', some (.slice _) => some (.len d x')
    | _, _ => none
  | _ => none
def trSlen (d : Nat) (h : AO) : Option AI :=
  match bltn o with
  | some (.len, [x], [t]) => match trO x h, P.underlying t with
    | some x', some .string => some (.slen d x')
    | _, _ => none
  | _ => none
def trApp (d : Nat) (h1 h2 : AO) : Option AI :=
  match bltn o with
  | some (.append, [x, y], [t, t']) => match trO x h1, trO y h2, slZ P t, P.underlying t' with
    | some x', some y', some q, some (.slice _) => some (.app d q.1.size q.1.bytes x' y')
    | _, _, _, _ => none
  | _ => none
def trMx (d : Nat) (mx : Bool) : List AO → Option AI
  | [h1, h2] => match bltn o, mx with
    | some (.max, [x, y], _), true => opt2 (trO x h1) (trO y h2) fun x' y' => .mx d true [x', y']
    | some (.min, [x, y], _), false => opt2 (trO x h1) (trO y h2) fun x' y' => .mx d false [x', y']
    | _, _ => none
  | _ => none
def trInt (d : Nat) (h : AO) : Option AI :=
  match o.op with
  | .convert src dst x => match trO x h, P.underlying dst, P.underlying src with
    | some x', some (.int k), some (.int _) => some (.int d k x')
    | _, _, _ => none
  | _ => none
def trStr (d : Nat) (h : AO) : Option AI :=
  match o.op with
  | .convert src dst x => match trO x h, P.underlying dst, P.underlying src with
    | some x', some .string, some (.slice e) => match P.underlying e with
      | some (.int .u8) => some (.str d x')
      | _ => none
    | _, _, _ => none
  | _ => none
end

/-! ### .. rightly -/
section
variable {P : Program} {N : Nat} {o : Oper} {E : Env} {c : Cnt} {st st' : St} {a : Act} {d : Nat} {call : Call} {ai : AI}
theorem okD_some (h : okD N o d = true) : o.dst = some d ∧ d < N := by simpa [okD] using h
theorem trOO_some {x : Option Operand} {h y : Option AO} (ht : trOO x h = some y) : (x = none ∧ y = none) ∨ ∃ u h' v, x = some u ∧ trO u h' = some v ∧ y = some v := by
  unfold trOO at ht
  split at ht
  · simp only [Option.some.injEq] at ht; exact .inl ⟨rfl, ht.symm⟩
  · rw [Option.map_eq_some_iff] at ht
    obtain ⟨v, h1, rfl⟩ := ht
    exact .inr ⟨_, _, _, rfl, h1, rfl⟩
  · cases ht
theorem r_mv {h : AO} (hd : okD N o d = true) (ht : trMv o d h = some ai) (hs : astep call st ai = some st') (hf : FRel N E st a.tmps c) : ComesQ N E st st' o.dst ((execOp a.eval o).run P E.w) := by
  obtain ⟨hd, hn⟩ := okD_some hd
  unfold trMv at ht
  split at ht
  all_goals (first | (cases ht; done) | skip)
  all_goals
    rename_i x ho
    rw [Option.map_eq_some_iff] at ht
    obtain ⟨x', h1, rfl⟩ := ht
    rw [hd, execOp]; simp only [ho]
    exact s_mv h1 hs hf hn
theorem r_pick {h1 h2 h3 : AO} (hd : okD N o d = true) (ht : trPick o d h1 h2 h3 = some ai) (hs : astep call st ai = some st') (hf : FRel N E st a.tmps c) : ComesQ N E st st' o.dst ((execOp a.eval o).run P E.w) := by
  obtain ⟨hd, hn⟩ := okD_some hd
  unfold trPick at ht
  split at ht
  case h_2 => cases ht
  rename_i cc x y ho
  split at ht
  case h_2 => cases ht
  rename_i q1 q2 q3
  simp only [Option.some.injEq] at ht; subst ht
  rw [hd, execOp]; simp only [ho]
  exact s_pick q1 q2 q3 hs hf hn
theorem andThen_two (r : Result Addr) : ((r.andThen fun a w' => .ok (Value.pointer (some a)) w').andThen fun a w' => Result.ok (Next.value a) w') = r.andThen fun a w' => .ok (Next.value (.pointer (some a))) w' := by
  cases r <;> rfl
theorem r_new {h : AO} (hd : okD N o d = true) (ht : trNew P o d h = some ai) (hs : astep call st ai = some st') (hf : FRel N E st a.tmps c) : Comes1 N E c st' a o.dst ((execOp a.eval o).run P E.w) := by
  obtain ⟨hd, hn⟩ := okD_some hd
  unfold trNew at ht
  split at ht
  · rename_i t z ho
    split at ht
    case h_2 => cases ht
    rename_i v hv
    rw [Option.map_eq_some_iff] at ht
    obtain ⟨x, hx, rfl⟩ := ht
    unfold zeroT at hv
    rw [Option.bind_eq_some_iff] at hv
    obtain ⟨i, hi, hz⟩ := hv
    have := s_new (P := P) (v := v) (t := t) (fun z hz => by simp only [ev, Option.some.injEq] at hz; subst hz; exact rel_cV hx) hs hf hn
    rw [hd, execOp]; simp only [ho]
    simpa only [Instr.alloc, zeroValue, Sem.run_bind, run_typeInfo hi, hz, Result.andThen_ok, Sem.run_pure, andThen_two] using this
  · rename_i t x ho
    rw [Option.map_eq_some_iff] at ht
    obtain ⟨x', hx, rfl⟩ := ht
    have := s_new (P := P) (v := a.eval x) (t := t) (fun z hz => ev_rel hf.σ hx hz) hs hf hn
    rw [hd, execOp]; simp only [ho]
    simpa only [Instr.box, Sem.run_bind, Result.andThen_ok, Sem.run_pure, andThen_two] using this
  · cases ht
theorem r_ld {h : AO} (hd : okD N o d = true) (ht : trLd P o d h = some ai) (hs : astep call st ai = some st') (hf : FRel N E st a.tmps c) : Comes1 N E c st' a o.dst ((execOp a.eval o).run P E.w) := by
  obtain ⟨hd, hn⟩ := okD_some hd
  unfold trLd at ht
  split at ht
  case h_2 => cases ht
  rename_i t p ho
  obtain ⟨p', q, h1, h2, rfl⟩ := opt2_some ht
  rw [hd, execOp]; simp only [ho]
  exact s_ld h1 h2 hs hf hn
theorem r_ldq {h : AO} (hd : okD N o d = true) (ht : trLdq P o d h = some ai) (hs : astep call st ai = some st') (hf : FRel N E st a.tmps c) : ComesQ N E st st' o.dst ((execOp a.eval o).run P E.w) := by
  obtain ⟨hd, hn⟩ := okD_some hd
  unfold trLdq at ht
  split at ht
  case h_2 => cases ht
  rename_i t p ho
  obtain ⟨p', q, h1, h2, rfl⟩ := opt2_some ht
  rw [hd, execOp]; simp only [ho]
  exact s_ldq h1 h2 hs hf hn
theorem r_st {h1 h2 : AO} (hd : o.dst = none) (ht : trSt P o h1 h2 = some ai) (hs : astep call st ai = some st') (hf : FRel N E st a.tmps c) : Comes1 N E c st' a o.dst ((execOp a.eval o).run P E.w) := by
  unfold trSt at ht
  split at ht
  case h_2 => cases ht
  rename_i t p x ho
  split at ht
  case h_2 => cases ht
  rename_i q1 q2 q3
  simp only [Option.some.injEq] at ht; subst ht
  rw [hd, execOp]; simp only [ho]
  exact s_st q1 q2 q3 hs hf
theorem r_nilc {h : AO} (hd : okD N o d = true) (ht : trNilc o d h = some ai) (hs : astep call st ai = some st') (hf : FRel N E st a.tmps c) : ComesQ N E st st' o.dst ((execOp a.eval o).run P E.w) := by
  obtain ⟨hd, hn⟩ := okD_some hd
  unfold trNilc at ht
  split at ht
  case h_2 => cases ht
  rename_i x ho
  rw [Option.map_eq_some_iff] at ht
  obtain ⟨x', h1, rfl⟩ := ht
  rw [hd]
  exact s_nilc ho h1 hs hf hn
theorem r_fa {h : AO} (hd : okD N o d = true) (ht : trFa P o d h = some ai) (hs : astep call st ai = some st') (hf : FRel N E st a.tmps c) : ComesQ N E st st' o.dst ((execOp a.eval o).run P E.w) := by
  obtain ⟨hd, hn⟩ := okD_some hd
  unfold trFa at ht
  split at ht
  case h_2 => cases ht
  rename_i s x f ho
  split at ht
  case h_2 => cases ht
  rename_i x' fl q1 q2
  split at ht
  case h_2 => cases ht
  rename_i n q3
  split at ht
  case isFalse => cases ht
  rename_i h0
  simp only [Option.some.injEq] at ht; subst ht
  rw [hd, execOp]; simp only [ho]
  exact s_fa q1 q2 q3 h0 hs hf hn
theorem r_fld {h : AO} (hd : okD N o d = true) (ht : trFld P o d h = some ai) (hs : astep call st ai = some st') (hf : FRel N E st a.tmps c) : ComesQ N E st st' o.dst ((execOp a.eval o).run P E.w) := by
  obtain ⟨hd, hn⟩ := okD_some hd
  unfold trFld at ht
  split at ht
  case h_2 => cases ht
  rename_i s x f ho
  split at ht
  case h_2 => cases ht
  rename_i x' fl q1 q2
  rw [Option.map_eq_some_iff] at ht
  obtain ⟨q, q3, rfl⟩ := ht
  rw [hd, execOp]; simp only [ho]
  exact s_fld q1 q2 q3 hs hf hn
theorem r_ia {h1 h2 : AO} (hd : okD N o d = true) (ht : trIa P o d h1 h2 = some ai) (hs : astep call st ai = some st') (hf : FRel N E st a.tmps c) : ComesQ N E st st' o.dst ((execOp a.eval o).run P E.w) := by
  obtain ⟨hd, hn⟩ := okD_some hd
  unfold trIa at ht
  split at ht
  case h_2 => cases ht
  rename_i t x i ho
  split at ht
  case h_2 => cases ht
  rename_i q1 q2 q3
  simp only [Option.some.injEq] at ht; subst ht
  rw [hd, execOp]; simp only [ho]
  exact s_ia q1 q2 q3 hs hf hn
theorem r_ix {h1 h2 : AO} (hd : okD N o d = true) (ht : trIx P o d h1 h2 = some ai) (hs : astep call st ai = some st') (hf : FRel N E st a.tmps c) : ComesQ N E st st' o.dst ((execOp a.eval o).run P E.w) := by
  obtain ⟨hd, hn⟩ := okD_some hd
  unfold trIx at ht
  split at ht
  case h_2 => cases ht
  rename_i t x i ho
  split at ht
  case h_2 => cases ht
  rename_i q1 q2 q3
  simp only [Option.some.injEq] at ht; subst ht
  rw [hd, execOp]; simp only [ho]
  exact s_ix q1 q2 q3 hs hf hn
theorem r_bin {h1 h2 : AO} (hd : okD N o d = true) (ht : trBin o d h1 h2 = some ai) (hs : astep call st ai = some st') (hf : FRel N E st a.tmps c) : ComesQ N E st st' o.dst ((execOp a.eval o).run P E.w) := by
  obtain ⟨hd, hn⟩ := okD_some hd
  unfold trBin at ht
  split at ht
  case h_2 => cases ht
  rename_i op t x y ty ho
  obtain ⟨x', y', q1, q2, rfl⟩ := opt2_some ht
  rw [hd, execOp]; simp only [ho]
  exact s_bin q1 q2 hs hf hn
theorem r_eqs {neg : Bool} {h1 h2 : AO} (hd : okD N o d = true) (ht : trEqs P o d neg h1 h2 = some ai) (hs : astep call st ai = some st') (hf : FRel N E st a.tmps c) : ComesQ N E st st' o.dst ((execOp a.eval o).run P E.w) := by
  obtain ⟨hd, hn⟩ := okD_some hd
  unfold trEqs at ht
  split at ht
  · rename_i t x y ty ho
    split at ht
    case h_2 => cases ht
    rename_i q1 q2 q3
    simp only [Option.some.injEq] at ht; subst ht
    rw [hd, execOp]; simp only [ho]
    exact s_eqs q1 q2 q3 hs hf hn
  · rename_i t x y ty ho
    split at ht
    case h_2 => cases ht
    rename_i q1 q2 q3
    simp only [Option.some.injEq] at ht; subst ht
    rw [hd, execOp]; simp only [ho]
    exact s_eqs q1 q2 q3 hs hf hn
  · cases ht
theorem r_un {h : AO} (hd : okD N o d = true) (ht : trUn o d h = some ai) (hs : astep call st ai = some st') (hf : FRel N E st a.tmps c) : ComesQ N E st st' o.dst ((execOp a.eval o).run P E.w) := by
  obtain ⟨hd, hn⟩ := okD_some hd
  unfold trUn at ht
  split at ht
  case h_2 => cases ht
  rename_i op t x ho
  rw [Option.map_eq_some_iff] at ht
  obtain ⟨x', h1, rfl⟩ := ht
  rw [hd, execOp]; simp only [ho]
  exact s_un h1 hs hf hn
theorem r_ext {h : AO} (hd : okD N o d = true) (ht : trExt o d h = some ai) (hs : astep call st ai = some st') (hf : FRel N E st a.tmps c) : ComesQ N E st st' o.dst ((execOp a.eval o).run P E.w) := by
  obtain ⟨hd, hn⟩ := okD_some hd
  unfold trExt at ht
  split at ht
  case h_2 => cases ht
  rename_i x i ho
  rw [Option.map_eq_some_iff] at ht
  obtain ⟨x', h1, rfl⟩ := ht
  rw [hd, execOp]; simp only [ho]
  exact s_ext h1 hs hf hn
theorem r_fun {hf' hc : List AO} (hd : okD N o d = true) (ht : trFun o d hf' hc = some ai) (hs : astep call st ai = some st') (hf : FRel N E st a.tmps c) : ComesQ N E st st' o.dst ((execOp a.eval o).run P E.w) := by
  obtain ⟨hd, hn⟩ := okD_some hd
  unfold trFun at ht
  split at ht
  case h_2 => cases ht
  rename_i fn first caps ho
  obtain ⟨f', c', q1, q2, rfl⟩ := opt2_some ht
  rw [hd, execOp]; simp only [ho]
  exact s_fun q1 q2 hs hf hn
theorem r_sl {h : AO} {hl hh : Option AO} (hd : okD N o d = true) (ht : trSl P o d h hl hh = some ai) (hs : astep call st ai = some st') (hf : FRel N E st a.tmps c) : ComesQ N E st st' o.dst ((execOp a.eval o).run P E.w) := by
  obtain ⟨hd, hn⟩ := okD_some hd
  unfold trSl at ht
  split at ht
  case h_2 => cases ht
  rename_i t x lo hi ho
  split at ht
  case h_2 => cases ht
  rename_i q1 q2 q3 q4
  simp only [Option.some.injEq] at ht; subst ht
  rw [hd, execOp]; simp only [ho]
  exact s_sl q1 (trOO_some q2) (trOO_some q3) q4 hs hf hn
theorem r_ssl {h : AO} {hl hh : Option AO} (hd : okD N o d = true) (ht : trSsl P o d h hl hh = some ai) (hs : astep call st ai = some st') (hf : FRel N E st a.tmps c) : ComesQ N E st st' o.dst ((execOp a.eval o).run P E.w) := by
  obtain ⟨hd, hn⟩ := okD_some hd
  unfold trSsl at ht
  split at ht
  case h_2 => cases ht
  rename_i t x lo hi ho
  split at ht
  case h_2 => cases ht
  rename_i q1 q2 q3 q4
  simp only [Option.some.injEq] at ht; subst ht
  rw [hd, execOp]; simp only [ho]
  exact s_ssl q1 (trOO_some q2) (trOO_some q3) q4 hs hf hn
theorem r_build {hz : V} {hp : List AO} (hd : okD N o d = true) (ht : trBuild P o d hz hp = some ai) (hs : astep call st ai = some st') (hf : FRel N E st a.tmps c) : ComesQ N E st st' o.dst ((execOp a.eval o).run P E.w) := by
  obtain ⟨hd, hn⟩ := okD_some hd
  unfold trBuild at ht
  split at ht
  case h_2 => cases ht
  rename_i t parts ho
  split at ht
  case h_2 => cases ht
  rename_i z places q1 q2
  split at ht
  case h_2 => cases ht
  rename_i zv p' q3 q4
  simp only [Option.some.injEq] at ht; subst ht
  unfold zeroT at q1
  rw [Option.bind_eq_some_iff] at q1
  obtain ⟨i, hi, hzz⟩ := q1
  rw [hd, execOp]; simp only [ho]
  exact s_build (zv := .a zv) hi hzz q3 q2 q4 hs hf hn
theorem slZ_some {t : TypeId} {q : TypeInfo × Value} (h : slZ P t = some q) : ∃ et, P.underlying t = some (.slice et) ∧ P.info? et = some q.1 ∧ q.1.zero = some q.2 ∧ q.2.cells.size = q.1.size ∧ q.1.bytes ≤ 1048576 := by
  unfold slZ at h
  split at h
  case h_2 => cases h
  rename_i r hr
  split at h
  case h_2 => cases h
  rename_i z hz
  split at h
  case isFalse => cases h
  rename_i hc
  simp only [Option.some.injEq] at h; subst h
  unfold slT at hr
  split at hr
  case h_2 => cases hr
  rename_i e he
  rw [Option.map_eq_some_iff] at hr
  obtain ⟨i, hi, rfl⟩ := hr
  exact ⟨e, he, hi, hz, hc.1, hc.2⟩
theorem r_mks {hp : List AO} (hd : okD N o d = true) (ht : trMks P o d hp = some ai) (hs : astep call st ai = some st') (hf : FRel N E st a.tmps c) : Comes1 N E c st' a o.dst ((execOp a.eval o).run P E.w) := by
  obtain ⟨hd, hn⟩ := okD_some hd
  unfold trMks at ht
  split at ht
  case h_2 => cases ht
  rename_i t len parts ho
  split at ht
  case h_2 => cases ht
  rename_i q p' q1 q2
  split at ht
  case isFalse => cases ht
  rename_i hc
  obtain ⟨hlen, hix, hlim⟩ := hc
  simp only [Option.some.injEq] at ht; subst ht
  obtain ⟨et, h1, h2, h3, h4, h5⟩ := slZ_some q1
  have hl : (parts.toList.map (·.2)).length = len := by rw [List.length_map, hlen]
  have hlim' : (parts.toList.map (·.2)).length * q.1.size ≤ 2 ^ 24 := by rw [hl]; exact hlim
  have := s_mks (P := P) q2 h1 h2 h3 h4 hlim' hs hf hn
  rw [hl] at this
  have e : (parts.map fun (i, x) => (i, a.eval x)) = ((List.range' 0 len).zip ((parts.toList.map (·.2)).map a.eval)).toArray := by
    apply Array.ext'
    rw [Array.toList_map, ← hix]
    simp only [List.map_map]
    rw [List.zip_map']
    rfl
  rw [hd, execOp]; simp only [ho]
  rw [e]
  exact this
theorem r_mk {hz : V} {h1 h2 : AO} (hd : okD N o d = true) (ht : trMk P o d hz h1 h2 = some ai) (hs : astep call st ai = some st') (hf : FRel N E st a.tmps c) : Comes1 N E c st' a o.dst ((execOp a.eval o).run P E.w) := by
  obtain ⟨hd, hn⟩ := okD_some hd
  unfold trMk at ht
  split at ht
  case h_2 => cases ht
  rename_i t l cc ho
  split at ht
  case h_2 => cases ht
  rename_i q l' c' q1 q2 q3
  rw [Option.map_eq_some_iff] at ht
  obtain ⟨z, hz, rfl⟩ := ht
  obtain ⟨et, g1, g2, g3, g4, g5⟩ := slZ_some q1
  rw [hd, execOp]; simp only [ho]
  exact s_mk q2 q3 g1 g2 g3 hz g4 hs hf hn
theorem run_bltn {b : Builtin} {xs : List Operand} {ts : List TypeId} (h : bltn o = some (b, xs, ts)) (w : World) : ∃ consts, (execOp a.eval o).run P w = (builtin b ts.toArray o.type consts (xs.map a.eval).toArray).run P w := by
  unfold bltn at h
  split at h
  case h_2 => cases h
  rename_i cl ho
  split at h
  case h_2 => cases h
  rename_i b' hb
  simp only [Option.some.injEq, Prod.mk.injEq] at h
  obtain ⟨rfl, rfl, rfl⟩ := h
  rw [execOp]; simp only [ho, resolve, hb, invoke, Sem.run_bind, Sem.run_pure, Result.andThen_ok]
  refine ⟨cl.args.map (fun | .const _ => true | _ => false), ?_⟩
  have e1 : (List.map a.eval cl.args.toList).toArray = cl.args.map a.eval := by rw [← Array.toList_map]
  rw [e1]
  rfl
theorem r_len {h : AO} (hd : okD N o d = true) (ht : trLen P o d h = some ai) (hs : astep call st ai = some st') (hf : FRel N E st a.tmps c) : ComesQ N E st st' o.dst ((execOp a.eval o).run P E.w) := by
  obtain ⟨hd, hn⟩ := okD_some hd
  unfold trLen at ht
  split at ht
  case h_2 => cases ht
  rename_i x t hb
  split at ht
  case h_2 => cases ht
  rename_i x' e q1 q2
  simp only [Option.some.injEq] at ht; subst ht
  obtain ⟨cs, hrun⟩ := run_bltn (P := P) (a := a) hb E.w
  rw [hd, hrun]
  exact s_len q1 q2 hs hf hn
theorem r_slen {h : AO} (hd : okD N o d = true) (ht : trSlen P o d h = some ai) (hs : astep call st ai = some st') (hf : FRel N E st a.tmps c) : ComesQ N E st st' o.dst ((execOp a.eval o).run P E.w) := by
  obtain ⟨hd, hn⟩ := okD_some hd
  unfold trSlen at ht
  split at ht
  case h_2 => cases ht
  rename_i x t hb
  split at ht
  case h_2 => cases ht
  rename_i x' q1 q2
  simp only [Option.some.injEq] at ht; subst ht
  obtain ⟨cs, hrun⟩ := run_bltn (P := P) (a := a) hb E.w
  rw [hd, hrun]
  exact s_slen q1 q2 hs hf hn
theorem r_app {h1 h2 : AO} (hd : okD N o d = true) (ht : trApp P o d h1 h2 = some ai) (hs : astep call st ai = some st') (hf : FRel N E st a.tmps c) : Comes1 N E c st' a o.dst ((execOp a.eval o).run P E.w) := by
  obtain ⟨hd, hn⟩ := okD_some hd
  unfold trApp at ht
  split at ht
  case h_2 => cases ht
  rename_i x y t t' hb
  split at ht
  case h_2 => cases ht
  rename_i x' y' q e q1 q2 q3 q4
  simp only [Option.some.injEq] at ht; subst ht
  obtain ⟨et, g1, g2, g3, g4, g5⟩ := slZ_some q3
  obtain ⟨cs, hrun⟩ := run_bltn (P := P) (a := a) hb E.w
  rw [hd, hrun]
  exact s_app q1 q2 g1 g2 g3 q4 g5 g4 hs hf hn
theorem r_mx {mx : Bool} {hs' : List AO} (hd : okD N o d = true) (ht : trMx o d mx hs' = some ai) (hs : astep call st ai = some st') (hf : FRel N E st a.tmps c) : ComesQ N E st st' o.dst ((execOp a.eval o).run P E.w) := by
  obtain ⟨hd, hn⟩ := okD_some hd
  unfold trMx at ht
  split at ht
  case h_2 => cases ht
  split at ht
  case h_3 => cases ht
  all_goals
    rename_i x y ts hb
    obtain ⟨x', y', q1, q2, rfl⟩ := opt2_some ht
    obtain ⟨cs, hrun⟩ := run_bltn (P := P) (a := a) hb E.w
    rw [hd, hrun]
  · exact s_mx (t := ts.toArray) (ty := o.type) (mx := true) q1 q2 hs hf hn
  · exact s_mx (t := ts.toArray) (ty := o.type) (mx := false) q1 q2 hs hf hn
theorem r_int {h : AO} (hd : okD N o d = true) (ht : trInt P o d h = some ai) (hs : astep call st ai = some st') (hf : FRel N E st a.tmps c) : ComesQ N E st st' o.dst ((execOp a.eval o).run P E.w) := by
  obtain ⟨hd, hn⟩ := okD_some hd
  unfold trInt at ht
  split at ht
  case h_2 => cases ht
  rename_i src dst x ho
  split at ht
  case h_2 => cases ht
  rename_i x' k k' q1 q2 q3
  simp only [Option.some.injEq] at ht; subst ht
  rw [hd, execOp]; simp only [ho]
  exact s_int q1 q2 q3 hs hf hn
theorem r_str {h : AO} (hd : okD N o d = true) (ht : trStr P o d h = some ai) (hs : astep call st ai = some st') (hf : FRel N E st a.tmps c) : ComesQ N E st st' o.dst ((execOp a.eval o).run P E.w) := by
  obtain ⟨hd, hn⟩ := okD_some hd
  unfold trStr at ht
  split at ht
  case h_2 => cases ht
  rename_i src dst x ho
  split at ht
  case h_2 => cases ht
  rename_i x' e q1 q2 q3
  split at ht
  case h_2 => cases ht
  rename_i q4
  simp only [Option.some.injEq] at ht; subst ht
  rw [hd, execOp]; simp only [ho]
  exact s_str q1 q2 q3 q4 hs hf hn
end
end Go.Vm
