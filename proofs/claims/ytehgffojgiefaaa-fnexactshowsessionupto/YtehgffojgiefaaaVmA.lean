import Derived.Calls
import Derived.Orders
import Derived.Wp
set_option autoImplicit false
namespace Go.Vm

/-! ### values -/
abbrev Key := Nat × Nat
inductive V where
  | v (x : Value)
  | p (k : Key) (idx off : Nat)
  | s (k : Key) (lo len : Nat)
  | q (τ : Bool) (xs : List V) (idx off : Nat)
  | i (τ : Bool) (xs : List V)
  | o (e : Nat) (xs : List V)
  | n (e : Nat)
  | b (x : V)
  | f (fn : Fn) (first caps : List V)
  | a (cs : List V)
  | t (vs : List V)
  | d
  deriving Inhabited

def V.cells : V → List V
  | .a cs => cs
  | x => [x]
def V.dead : V → Bool
  | .d => true
  | _ => false
def V.isA : V → Bool
  | .a _ => true
  | _ => false

def aggB : Value → Bool
  | .agg _ => true
  | _ => false

/-- one cell of memory may hold it -/
def V.one : V → Bool
  | .v x => x.oneCell
  | .a _ | .t _ | .d => false
  | _ => true

/-! ### code -/
inductive AO where
  | t (n : Nat)
  | c (x : V)
inductive Md where
  | ro (fz : Bool)
  | io (fz : Bool)
inductive AI where
  | mv (d : Nat) (x : AO)
  | pick (d : Nat) (c a b : AO)
  | new (d : Nat) (x : AO)
  | build (d : Nat) (z : V) (parts : List (Nat × Nat × AO))
  | mks (d : Nat) (e : Nat) (parts : List AO)
  | mk (d : Nat) (e : Nat) (z : V) (bytes : Nat) (len cap : AO)
  | ld (d : Nat) (agg : Bool) (size : Nat) (a : AO)
  | ldq (d : Nat) (agg : Bool) (size : Nat) (a : AO)
  | st (size : Nat) (a x : AO)
  | nilc (d : Nat) (x : AO)
  | bin (d : Nat) (op : BinOp) (x y : AO)
  | eqs (d : Nat) (k : Nat) (neg : Bool) (x y : AO)
  | un (d : Nat) (op : UnOp) (x : AO)
  | sl (d : Nat) (e : Nat) (x : AO) (lo hi : Option AO)
  | ssl (d : Nat) (x : AO) (lo hi : Option AO)
  | slen (d : Nat) (x : AO)
  | fa (d : Nat) (x : AO) (off : Nat)
  | fld (d : Nat) (agg : Bool) (size : Nat) (x : AO) (off : Nat)
  | ia (d : Nat) (e : Nat) (x i : AO)
  | ix (d : Nat) (x i : AO)
  | ext (d : Nat) (x : AO) (i : Nat)
  | fun (d : Nat) (fn : Fn) (first caps : List AO)
  | call (d : Option Nat) (f : AO) (args : List AO) (m : Md)
  | app (d : Nat) (e bytes : Nat) (x y : AO)
  | len (d : Nat) (x : AO)
  | mx (d : Nat) (max : Bool) (args : List AO)
  | cpy (d : Option Nat) (x y : AO)
  | int (d : Nat) (k : IntKind) (x : AO)
  | str (d : Nat) (x : AO)
  | byt (d : Nat) (x : AO)
  | gd (j : Nat) (want : Bool) (d : Option Nat) (i : AI)
/-- what an operation of a region that draws its order touches: k = 0: it reads (ks) and reckons; 1: it writes to ks and makes (d, .); 2: a call that reads ks and makes (d, .) -/
structure Dp where
  k : Nat
  ks : List Key
inductive AC where
  | reg (is : List AI)
  | dreg (plan : List Dp) (is : List AI)
  | seq (x y : AC)
  | cond (x : AO) (thn els : AC)
  | block (id : Nat) (x : AC)
  | loop (live : List Nat) (keys : List Key) (x : AC)
  | exit (id : Nat)
  | ret
  | skip
inductive AR where
  | tmp (t : Nat)
  | cell (t : Nat) (agg : Bool) (size : Nat)
structure AF where
  nargs : Nat
  ntmps : Nat
  res : List AR
  body : AC


/-! ### state -/
abbrev Ob := Nat × List V
abbrev Sl := List (Nat × V)
abbrev Mem := List (Key × Ob)
structure St where
  σ : Sl
  T : Mem
def getS : Sl → Nat → Option V
  | [], _ => none
  | (u, x) :: r, t => if u = t then some x else getS r t
def getK : Mem → Key → Option Ob
  | [], _ => none
  | (u, x) :: r, k => if u = k then some x else getK r k
def delK : Mem → Key → Mem
  | [], _ => []
  | (u, x) :: r, k => if u = k then r else (u, x) :: delK r k
def setK : Mem → Key → Ob → Mem
  | [], _, _ => []
  | (u, x) :: r, k, y => if u = k then (u, y) :: r else (u, x) :: setK r k y
def St.put (st : St) (d : Nat) (x : V) : St := { st with σ := (d, x) :: st.σ }

mutual
def killV (d : Nat) : V → V
  | .p k idx off => if k.1 = d then .d else .p k idx off
  | .s k lo len => if k.1 = d then .d else .s k lo len
  | .f fn first caps => .f fn (killL d first) (killL d caps)
  | .a cs => .a (killL d cs)
  | .t vs => .t (killL d vs)
  | x => x
def killL (d : Nat) : List V → List V
  | [] => []
  | x :: xs => killV d x :: killL d xs
end
def killS (d : Nat) : Sl → Sl
  | [] => []
  | (t, x) :: r => (t, killV d x) :: killS d r
def killT (d : Nat) : Mem → Mem
  | [] => []
  | (k, e, xs) :: r => (k, e, killL d xs) :: killT d r

mutual
def clB : V → Bool
  | .v _ | .q .. | .i .. | .o .. | .b .. | .n _ => true
  | .f _ first caps => clBL first && clBL caps
  | _ => false
def clBL : List V → Bool
  | [] => true
  | x :: xs => clB x && clBL xs
end
def clE : V → Bool
  | .a cs => clBL cs
  | x => clB x
def clEs : List V → Bool
  | [] => true
  | x :: xs => clE x && clEs xs

/-- an element's place for a closed object: the first cell that refers to it -/
def repC (k : Key) (ob : Ob) : V → Option V
  | .s k' lo len => if k' = k ∧ lo = 0 ∧ len = ob.2.length then some (.o ob.1 ob.2) else none
  | .p k' idx off => if k' = k ∧ idx = 0 ∧ off = 0 then (match ob.2 with | [y] => some (.b y) | _ => none) else none
  | _ => none
def repCs (k : Key) (ob : Ob) : List V → Option (List V)
  | [] => none
  | x :: r => match repC k ob x with
    | some x' => some (x' :: r)
    | none => (repCs k ob r).map (x :: ·)
def repE (k : Key) (ob : Ob) : V → Option V
  | .a cs => (repCs k ob cs).map .a
  | x => repC k ob x
def repEs (k : Key) (ob : Ob) : List V → Option (List V)
  | [] => none
  | x :: r => match repE k ob x with
    | some x' => some (x' :: r)
    | none => (repEs k ob r).map (x :: ·)
def repT (k : Key) (ob : Ob) : Mem → Mem
  | [] => []
  | (u, e, xs) :: r => match repEs k ob xs with
    | some xs' => (u, e, xs') :: r
    | none => (u, e, xs) :: repT k ob r
def retire (T : Mem) (k : Key) : Mem :=
  match getK T k with
  | none => T
  | some ob => if clEs ob.2 then repT k ob (delK T k) else delK T k
def retireL : List Key → Mem → Mem
  | [], T => T
  | k :: ks, T => retireL ks (retire T k)
def keysAt (d : Nat) : Mem → List Key
  | [] => []
  | (k, _) :: r => if k.1 = d then k :: keysAt d r else keysAt d r
def keysOut (ks : List Key) : Mem → List Key
  | [] => []
  | (k, _) :: r => if ks.contains k then keysOut ks r else k :: keysOut ks r
def dropAt (d : Nat) : Mem → Mem
  | [] => []
  | (k, x) :: r => if k.1 = d then dropAt d r else (k, x) :: dropAt d r
/-- no name that opens with d is left -/
def wipe (d : Nat) (st : St) : St :=
  { σ := killS d st.σ, T := killT d (dropAt d (retireL (keysAt d st.T) st.T)) }
def pickS (σ : Sl) : List Nat → Sl
  | [] => []
  | t :: r => match getS σ t with
    | some x => (t, x) :: pickS σ r
    | none => pickS σ r
def pickT (T : Mem) : List Key → Mem
  | [] => []
  | k :: r => match getK T k with
    | some x => (k, x) :: pickT (delK T k) r
    | none => pickT T r
mutual
def dirV : V → List Key
  | .p k _ _ => [k]
  | .s k _ _ => [k]
  | .f _ first caps => dirL first ++ dirL caps
  | .a cs => dirL cs
  | .t vs => dirL vs
  | _ => []
def dirL : List V → List Key
  | [] => []
  | x :: xs => dirV x ++ dirL xs
end
def dirS : Sl → List Key
  | [] => []
  | (_, x) :: r => dirV x ++ dirS r
def hasK (k : Key) : List Key → Bool
  | [] => false
  | u :: r => if u = k then true else hasK k r
def outK (ks : List Key) : Mem → List Key
  | [] => []
  | (k, _) :: r => if hasK k ks = true then outK ks r else k :: outK ks r
/-- what is held elsewhere is closed into it, if its own content is closed -/
def retireS (T : Mem) (k : Key) : Mem :=
  match getK T k with
  | none => T
  | some ob => if clEs ob.2 then repT k ob (delK T k) else T
def retireSL : List Key → Mem → Mem
  | [], T => T
  | k :: ks, T => retireSL ks (retireS T k)
/-- at a loop's head: the slots that live; the names that they hold; what else there is, is closed into what holds it -/
def prune (ls : List Nat) (_ks : List Key) (st : St) : St :=
  { σ := pickS st.σ ls,
    T := pickT (retireSL (outK (dirS (pickS st.σ ls)) st.T).reverse (retireSL (outK (dirS (pickS st.σ ls)) st.T) st.T)) (dirS (pickS st.σ ls)) }

def mapT (g : Mem → V → V × Mem) : Mem → List V → List V × Mem
  | T, [] => ([], T)
  | T, x :: xs => ((g T x).1 :: (mapT g (g T x).2 xs).1, (mapT g (g T x).2 xs).2)
def closeV : Nat → Mem → V → V × Mem
  | 0, T, x => (match x with | .a cs => .a (cs.map fun _ => .d) | _ => .d, T)
  | n + 1, T, x =>
    let es (T : Mem) (xs : List V) : List V × Mem := if clEs xs then (xs, T) else mapT (closeV n) T xs
    match x with
    | .s k lo len => match getK T k with
      | none => (.d, T)
      | some ob => if lo + len ≤ ob.2.length then (.o ob.1 (((es (delK T k) ob.2).1.drop lo).take len), (es (delK T k) ob.2).2) else (.d, T)
    | .p k idx off => match getK T k with
      | some (_, [x]) => if idx = 0 ∧ off = 0 then (.b ((es (delK T k) [x]).1.headD .d), (es (delK T k) [x]).2) else (.d, T)
      | _ => (.d, T)
    | .f fn first caps =>
      let r := mapT (closeV n) T first
      let r' := mapT (closeV n) r.2 caps
      (.f fn r.1 r'.1, r'.2)
    | .a cs => let r := mapT (closeV n) T cs; (.a r.1, r.2)
    | .t vs => let r := mapT (closeV n) T vs; (.t r.1, r.2)
    | .n e => (.o e [], T)
    | x => (x, T)

mutual
def conv (τ : Bool) : V → V
  | .o _ xs => .i τ (convL τ xs)
  | .n _ => .i τ []
  | .b x => .q τ [conv τ x] 0 0
  | .f fn first caps => .f fn (convL τ first) (convL τ caps)
  | .a cs => .a (convL τ cs)
  | .t vs => .t (convL τ vs)
  | x => x
def convL (τ : Bool) : List V → List V
  | [] => []
  | x :: xs => conv τ x :: convL τ xs
end
mutual
def noTag : V → Bool
  | .q τ xs _ _ => !τ && noTagL xs
  | .i τ xs => !τ && noTagL xs
  | .o _ xs => noTagL xs
  | .b x => noTag x
  | .f _ first caps => noTagL first && noTagL caps
  | .a cs => noTagL cs
  | .t vs => noTagL vs
  | .v _ | .d | .n _ => true
  | .p .. | .s .. => false
def noTagL : List V → Bool
  | [] => true
  | x :: xs => noTag x && noTagL xs
end

/- it holds nothing owned -/
mutual
def zeroB : V → Bool
  | .o .. | .b _ => false
  | .f _ first caps => zeroBL first && zeroBL caps
  | .a cs => zeroBL cs
  | .t vs => zeroBL vs
  | _ => true
def zeroBL : List V → Bool
  | [] => true
  | x :: xs => zeroB x && zeroBL xs
end
def openX (d : Nat) (j : Nat) : V → V × Nat × Mem
  | .o e xs => (.s (d, j) 0 xs.length, j + 1, [((d, j), e, xs)])
  | .b x => (.p (d, j) 0 0, j + 1, [((d, j), x.cells.length, [x])])
  | x => (if zeroB x then x else .d, j, [])
def openL (d : Nat) : Nat → List V → List V × Nat × Mem
  | j, [] => ([], j, [])
  | j, x :: xs => ((openX d j x).1 :: (openL d (openX d j x).2.1 xs).1, (openL d (openX d j x).2.1 xs).2.1, (openX d j x).2.2 ++ (openL d (openX d j x).2.1 xs).2.2)
def open1 (d : Nat) (j : Nat) : V → V × Nat × Mem
  | .a cs => (.a (openL d j cs).1, (openL d j cs).2)
  | .f fn first caps => (.f fn (openL d j first).1 (openL d (openL d j first).2.1 caps).1, (openL d (openL d j first).2.1 caps).2.1, (openL d j first).2.2 ++ (openL d (openL d j first).2.1 caps).2.2)
  | x => openX d j x
def openL1 (d : Nat) : Nat → List V → List V × Nat × Mem
  | j, [] => ([], j, [])
  | j, x :: xs => ((open1 d j x).1 :: (openL1 d (open1 d j x).2.1 xs).1, (openL1 d (open1 d j x).2.1 xs).2.1, (open1 d j x).2.2 ++ (openL1 d (open1 d j x).2.1 xs).2.2)
def openV (d : Nat) : V → V × Mem
  | .t vs => (.t (openL1 d 0 vs).1, (openL1 d 0 vs).2.2)
  | x => ((open1 d 0 x).1, (open1 d 0 x).2.2)
/-- a value comes into a slot -/
def bring (d : Nat) (x : V) (st : St) : St :=
  if !zeroB x then { σ := (d, (openV d x).1) :: (wipe d st).σ, T := (openV d x).2 ++ (wipe d st).T } else st.put d x

/-! ### one operation -/
def ev (σ : Sl) : AO → Option V
  | .t n => getS σ n
  | .c x => some x
def evL (σ : Sl) : List AO → Option (List V)
  | [] => some []
  | x :: xs => match ev σ x, evL σ xs with
    | some y, some ys => some (y :: ys)
    | _, _ => none
def loadE (agg : Bool) (n : Nat) (x : V) (off : Nat) : Option V :=
  if agg then
    if off = 0 ∧ x.cells.length = n ∧ x.isA then some x
    else if off + n ≤ x.cells.length then some (.a ((x.cells.drop off).take n)) else none
  else x.cells[off]?
def oneL : List V → Bool
  | [] => true
  | x :: xs => x.one && oneL xs
def storeE (x : V) (off : Nat) (y : V) : Option V :=
  if off = 0 ∧ y.cells.length = x.cells.length then some y
  else if off + y.cells.length ≤ x.cells.length then some (.a (x.cells.take off ++ y.cells ++ x.cells.drop (off + y.cells.length)))
  else none
def _root_.Go.Sem.val? {α : Type} : Sem α → Option α
  | .pure a => some a
  | _ => none
def lim : Nat := 1099511627776

def elemsOf (T : Mem) (e : Nat) : V → Option (List V)
  | .s k lo len => match getK T k with
    | some ob => if ob.1 = e ∧ lo + len ≤ ob.2.length then some ((ob.2.drop lo).take len) else none
    | none => none
  | .i _ xs => some xs
  | .n _ => some []
  | _ => none
def byteV (c : UInt8) : V := .v (.int .u8 c.toNat)
def bytesOf : List V → Option (List UInt8)
  | [] => some []
  | .v (.int .u8 n) :: r => match bytesOf r with
    | some l => some (UInt8.ofNat n.toNat :: l)
    | none => none
  | _ => none
def lenV : V → Option Nat
  | .s _ _ len => some len
  | .i _ xs => some xs.length
  | .n _ => some 0
  | _ => none
def undefV : V := .v (.tuple #[])

abbrev Call := Nat → List V → Option (V × List V)
def snapArgs (T : Mem) : List V → List V
  | [] => []
  | x :: xs => conv true (closeV 30 T x).1 :: snapArgs T xs
/-- what came back of an argument, under its name -/
def back1 (T : Mem) : V → V → Mem
  | .s k lo _, .o e xs => match getK T k with
    | some ob => if lo = 0 ∧ ob.1 = e then [(k, e, xs)] else []
    | none => []
  | .p k idx off, .b x => match getK T k with
    | some ob => if idx = 0 ∧ off = 0 ∧ ob.1 = x.cells.length then [(k, x.cells.length, [x])] else []
    | none => []
  | _, _ => []
def backL (T : Mem) : List V → List V → Mem
  | x :: xs, y :: ys => back1 T x y ++ backL T xs ys
  | _, _ => []
def back (T : Mem) : V → V → Mem
  | .a cs, .a ds => backL T cs ds
  | .f _ fs cs, .f _ gs ds => backL T fs gs ++ backL T cs ds
  | x, y => back1 T x y
def backs (T : Mem) : List V → List V → Mem
  | x :: xs, y :: ys => back T x y ++ backs T xs ys
  | _, _ => []
def callee : V → Option (Nat × List V × List V)
  | .f (.func f) first caps => some (f, first, caps)
  | _ => none
def bringO : Option Nat → V → St → St
  | some d, x, st => bring d x st
  | none, _, st => st
def fzV (fz : Bool) (x : V) : V := if fz then conv false x else x
def doCall (call : Call) (d : Option Nat) (g : Nat) (xs : List V) (m : Md) (st : St) : Option St :=
  match m with
  | .ro fz =>
    match call g (snapArgs st.T xs) with
    | some (r, _) => if noTag r then some (bringO d (fzV fz r) st) else none
    | none => none
  | .io fz =>
    match call g (mapT (closeV 30) st.T xs).1 with
    | some (r, outs) => some (bringO d (fzV fz r) { σ := st.σ, T := backs st.T xs outs ++ (mapT (closeV 30) st.T xs).2 })
    | none => none
def intV : V → Option Int
  | .v (.int _ n) => some n
  | _ => none
def binV (op : BinOp) : V → V → Option V
  | .v (.int k a), .v (.int k' b) => (binOp op 0 (.int k a) (.int k' b)).val?.map .v
  | .v (.string a), .v (.string b) => (binOp op 0 (.string a) (.string b)).val?.map .v
  | _, _ => none
/-- '==' of what is no two integers and no two strings (0 booleans, 1 pointers, 2 slices, 3 functions: the last three against nil) -/
def eqV : Nat → V → V → Option Bool
  | 0, .v (.bool a), .v (.bool b) => some (a == b)
  | 1, .v (.pointer none), .v (.pointer none) => some true
  | 1, .v (.pointer none), .p .. | 1, .v (.pointer none), .q .. | 1, .p .., .v (.pointer none) | 1, .q .., .v (.pointer none) => some false
  | 2, .n _, .n _ => some true
  | 2, .i _ (_ :: _), .n _ | 2, .n _, .i _ (_ :: _) => some false
  | 2, .s _ _ (_ + 1), .n _ | 2, .n _, .s _ _ (_ + 1) => some false
  | 3, .f .., .v .nilFunc | 3, .v .nilFunc, .f .. => some false
  | 3, .v .nilFunc, .v .nilFunc => some true
  | _, _, _ => none
def buildV (σ : Sl) : List V → List (Nat × Nat × AO) → Option (List V)
  | z, [] => some z
  | z, (off, size, x) :: r => match ev σ x with
    | some y => if y.dead = false ∧ y.cells.length = size ∧ off + size ≤ z.length then buildV σ (z.take off ++ y.cells ++ z.drop (off + size)) r else none
    | none => none
def idx? (i : Int) (n : Nat) : Option Nat := if 0 ≤ i ∧ i < n then some i.toNat else none
def bound? (d : Nat) : Option V → Option Nat
  | none => some d
  | some (.v (.int _ i)) => if 0 ≤ i then some i.toNat else none
  | _ => none
def evO (σ : Sl) : Option AO → Option (Option V)
  | none => some none
  | some x => (ev σ x).map some
def headOk (e : Nat) : List V → Bool
  | [] => true
  | x :: _ => x.cells.length == e
def sliceV (T : Mem) (e : Nat) (x : V) (lo hi : Option V) : Option V :=
  match lenV x with
  | none => none
  | some n => match bound? 0 lo, bound? n hi with
    | some l, some h => if l ≤ h ∧ h ≤ n then
        match x with
        | .s k l0 _ => match getK T k with
          | some ob => if ob.1 = e then some (.s k (l0 + l) (h - l)) else none
          | none => none
        | .i τ xs => if headOk e xs then some (.i τ ((xs.drop l).take (h - l))) else none
        | .n e => some (.n e)
        | _ => none
      else none
    | _, _ => none
def addrIx (T : Mem) (e : Nat) (x : V) (i : Int) : Option V :=
  match x with
  | .s k lo len => match getK T k with
    | some ob => if ob.1 = e ∧ lo + len ≤ ob.2.length then (idx? i len).map fun j => .p k (lo + j) 0 else none
    | none => none
  | .i τ xs => match idx? i xs.length with
    | some j => if (xs[j]?.getD .d).cells.length = e then some (.q τ xs j 0) else none
    | none => none
  | _ => none
def loadP (T : Mem) (agg : Bool) (size : Nat) : V → Option V
  | .p k idx off => match getK T k with
    | some ob => match ob.2[idx]? with
      | some x => loadE agg size x off
      | none => none
    | none => none
  | .q _ xs idx off => match xs[idx]? with
    | some x => loadE agg size x off
    | none => none
  | _ => none
def storeP (T : Mem) (a y : V) : Option Mem :=
  match a with
  | .p k idx off => match getK T k with
    | some ob => match ob.2[idx]? with
      | some x => match storeE x off y with
        | some x' => some ((k, ob.1, ob.2.set idx x') :: delK T k)
        | none => none
      | none => none
    | none => none
  | _ => none
/-- what a part is moved out of -/
def app? (T : Mem) (e : Nat) (x : V) : Option (List V × Mem) :=
  match x with
  | .n _ => some ([], T)
  | .s k lo len => match getK T k with
    | some ob => if ob.1 = e ∧ lo + len ≤ ob.2.length then some ((ob.2.drop lo).take len, delK T k) else none
    | none => none
  | _ => none

def astep (call : Call) (st : St) : AI → Option St
  | .mv d x => (ev st.σ x).map (st.put d)
  | .pick d c x y => match ev st.σ c with
    | some (.v (.bool true)) => (ev st.σ x).map (st.put d)
    | some (.v (.bool false)) => (ev st.σ y).map (st.put d)
    | _ => none
  | .new d x => match ev st.σ x with
    | some y => if oneL y.cells then
        some { σ := (d, .p (d, 0) 0 0) :: (wipe d st).σ, T := ((d, 0), y.cells.length, [killV d y]) :: (wipe d st).T }
      else none
    | none => none
  | .build d z parts => (buildV st.σ z.cells parts).map fun cs => st.put d (.a cs)
  | .mks d e parts => match evL st.σ parts with
    | some ys => if ys.all (fun y => oneL y.cells && y.cells.length == e) then
        some { σ := (d, .s (d, 0) 0 ys.length) :: (wipe d st).σ, T := ((d, 0), e, killL d ys) :: (wipe d st).T }
      else none
    | none => none
  | .mk d e z bytes len cap => match ev st.σ len, ev st.σ cap with
    | some (.v (.int _ l)), some (.v (.int _ c)) =>
      if 0 ≤ l ∧ l = c ∧ l * bytes ≤ lim ∧ l ≤ lim ∧ z.cells.length = e ∧ oneL z.cells ∧ clE z then
        some { σ := (d, .s (d, 0) 0 l.toNat) :: (wipe d st).σ, T := ((d, 0), e, List.replicate l.toNat z) :: (wipe d st).T }
      else none
    | _, _ => none
  | .ld d agg size a => match ev st.σ a with
    | some p => match loadP st.T agg size p with
      | some y => if !zeroB y then
          match loadP (wipe d st).T agg size p with
          | some y' => match storeP (wipe d st).T p (open1 d 0 y').1 with
            | some T' => some { σ := (d, (open1 d 0 y').1) :: (wipe d st).σ, T := (open1 d 0 y').2.2 ++ T' }
            | none => none
          | none => none
        else some (st.put d y)
      | none => none
    | none => none
  | .ldq d agg size a => match ev st.σ a with
    | some p => match loadP st.T agg size p with
      | some y => if zeroB y then some (st.put d y) else none
      | none => none
    | none => none
  | .st size a x => match ev st.σ a, ev st.σ x with
    | some p, some y => if y.cells.length = size ∧ oneL y.cells then (storeP st.T p y).map fun T' => { st with T := T' } else none
    | _, _ => none
  | .nilc d x => match ev st.σ x with
    | some (.p k idx off) => some (st.put d (.p k idx off))
    | some (.q τ xs idx off) => some (st.put d (.q τ xs idx off))
    | some (.f (.func g) first caps) => some (st.put d (.f (.func g) first caps))
    | _ => none
  | .bin d op x y => match ev st.σ x, ev st.σ y with
    | some x, some y => (binV op x y).map (st.put d)
    | _, _ => none
  | .eqs d k neg x y => match ev st.σ x, ev st.σ y with
    | some x, some y => (eqV k x y).map fun r => st.put d (.v (.bool (r != neg)))
    | _, _ => none
  | .un d op x => match ev st.σ x with
    | some (.v x) => (Op.unary op x).val?.map fun r => st.put d (.v r)
    | _ => none
  | .sl d e x lo hi => match ev st.σ x, evO st.σ lo, evO st.σ hi with
    | some x, some lo, some hi => (sliceV st.T e x lo hi).map (st.put d)
    | _, _, _ => none
  | .ssl d x lo hi => match ev st.σ x, evO st.σ lo, evO st.σ hi with
    | some (.v (.string s)), some lo, some hi => match bound? 0 lo, bound? s.size hi with
      | some l, some h => if l ≤ h ∧ h ≤ s.size then some (st.put d (.v (.string (s.extract l h)))) else none
      | _, _ => none
    | _, _, _ => none
  | .slen d x => match ev st.σ x with
    | some (.v (.string s)) => some (st.put d (.v (.int .i64 s.size)))
    | _ => none
  | .fa d x off => match ev st.σ x with
    | some (.p k idx o) => some (st.put d (.p k idx (o + off)))
    | some (.q τ xs idx o) => some (st.put d (.q τ xs idx (o + off)))
    | _ => none
  | .fld d agg size x off => match ev st.σ x with
    | some (.a cs) => (loadE agg size (.a cs) off).map (st.put d)
    | _ => none
  | .ia d e x i => match ev st.σ x, ev st.σ i with
    | some x, some (.v (.int _ i)) => (addrIx st.T e x i).map (st.put d)
    | _, _ => none
  | .ix d x i => match ev st.σ x, ev st.σ i with
    | some (.v (.string s)), some (.v (.int _ i)) => (idx? i s.size).map fun j => st.put d (byteV (s.data[j]?.getD 0))
    | _, _ => none
  | .ext d x i => match ev st.σ x with
    | some (.t vs) => (vs[i]?).map (st.put d)
    | _ => none
  | .fun d fn first caps => match evL st.σ first, evL st.σ caps with
    | some a, some b => some (st.put d (.f fn a b))
    | _, _ => none
  | .call d f args m => match ev st.σ f with
    | some f => match callee f, evL st.σ args with
      | some (g, first, caps), some xs => doCall call d g (first ++ xs ++ caps) m st
      | _, _ => none
    | none => none
  | .app d e bytes x y => match ev st.σ x, ev st.σ y with
    | some x, some y => match elemsOf st.T e y, app? st.T e x with
      | some ys, some (xs, T) =>
        if zeroBL ys && ys.all (fun y => oneL y.cells && y.cells.length == e) && decide ((xs.length + ys.length) * bytes ≤ lim) && decide (xs.length + ys.length ≤ lim) then
          some { σ := (d, .s (d, 0) 0 (xs.length + ys.length)) :: (wipe d { st with T := T }).σ, T := ((d, 0), e, killL d (xs ++ ys)) :: (wipe d { st with T := T }).T }
        else none
      | _, _ => none
    | _, _ => none
  | .len d x => match ev st.σ x with
    | some x => (lenV x).map fun n => st.put d (.v (.int .i64 n))
    | none => none
  | .mx d max args => match evL st.σ args with
    | some [.v (.int k a), .v (.int _ b)] => some (st.put d (.v (.int k (if max then (if b > a then b else a) else (if b < a then b else a)))))
    | _ => none
  | .cpy .. => none
  | .int d k x => match ev st.σ x with
    | some (.v (.int _ n)) => some (st.put d (.v (.int k (k.wrap n))))
    | _ => none
  | .str d x => match ev st.σ x with
    | some x => match elemsOf st.T 1 x with
      | some xs => (bytesOf xs).map fun l => st.put d (.v (.string ⟨l.toArray⟩))
      | none => none
    | none => none
  | .byt d x => match ev st.σ x with
    | some (.v (.string s)) => if s.size ≤ lim then
        some { σ := (d, .s (d, 0) 0 s.size) :: (wipe d st).σ, T := ((d, 0), 1, s.data.toList.map byteV) :: (wipe d st).T }
      else none
    | _ => none
  | .gd .. => none
/-- one operation behind its guard -/
def gstep (call : Call) (st : St) : AI → Option St
  | .gd j want d i => match getS st.σ j with
      | some (.v (.bool b)) => if b = want then astep call st i else some (match d with | some d => st.put d undefV | none => st)
      | some (.v _) => some (match d with | some d => st.put d undefV | none => st)
      | _ => none
  | i => astep call st i
def arun (call : Call) : List AI → St → Option St
  | [], st => some st
  | i :: is, st => match gstep call st i with
    | some st' => arun call is st'
    | none => none

/-! a region that draws its order -/
def usesO : AO → List Nat
  | .t n => [n]
  | .c _ => []
def usesOO : Option AO → List Nat
  | some x => usesO x
  | none => []
def usesL : List AO → List Nat
  | [] => []
  | x :: xs => usesO x ++ usesL xs
def usesB : List (Nat × Nat × AO) → List Nat
  | [] => []
  | (_, _, x) :: xs => usesO x ++ usesB xs
def usesI : AI → List Nat
  | .mv _ x | .new _ x | .ld _ _ _ x | .ldq _ _ _ x | .nilc _ x | .un _ _ x | .slen _ x | .fa _ x _ | .fld _ _ _ x _ | .ext _ x _ | .len _ x | .int _ _ x | .str _ x | .byt _ x => usesO x
  | .pick _ a b c => usesO a ++ (usesO b ++ usesO c)
  | .build _ _ ps => usesB ps
  | .mks _ _ ps | .mx _ _ ps => usesL ps
  | .mk _ _ _ _ a b | .st _ a b | .bin _ _ a b | .eqs _ _ _ a b | .ia _ _ a b | .ix _ a b | .app _ _ _ a b | .cpy _ a b => usesO a ++ usesO b
  | .sl _ _ x a b => usesO x ++ (usesOO a ++ usesOO b)
  | .ssl _ x a b => usesO x ++ (usesOO a ++ usesOO b)
  | .fun _ _ a b => usesL a ++ usesL b
  | .call _ f xs _ => usesO f ++ usesL xs
  | .gd j _ _ i => j :: usesI i
def dstI : AI → Option Nat
  | .mv d _ | .new d _ | .ld d _ _ _ | .ldq d _ _ _ | .nilc d _ | .un d _ _ | .slen d _ | .fa d _ _ | .fld d _ _ _ _ | .ext d _ _ | .len d _ | .int d _ _ | .str d _ | .byt d _
  | .pick d _ _ _ | .build d _ _ | .mks d _ _ | .mx d _ _ | .mk d _ _ _ _ _ | .bin d _ _ _ | .eqs d _ _ _ _ | .ia d _ _ _ | .ix d _ _ | .app d _ _ _ _ | .sl d _ _ _ _ | .ssl d _ _ _ | .fun d _ _ _ => some d
  | .st .. => none
  | .cpy d _ _ | .call d _ _ _ | .gd _ _ d _ => d
def pickK (T : Mem) : List Key → Mem
  | [] => []
  | k :: r => match getK T k with
    | some x => (k, x) :: pickK T r
    | none => pickK T r
def Dp.own (p : Dp) (d : Option Nat) (k : Key) : Bool := (p.k == 1 && p.ks.contains k) || (p.k != 0 && d == some k.1)
def filtT (f : Key → Bool) : Mem → Mem
  | [] => []
  | (k, x) :: r => if f k then (k, x) :: filtT f r else filtT f r
def memD (p : Dp) (d : Option Nat) (T' T : Mem) : Mem :=
  if p.k = 0 then T else filtT (p.own d) T' ++ filtT (fun k => !p.own d k) T
def stepD (call : Call) (p : Dp) (i : AI) (st : St) : Option St :=
  match gstep call { σ := pickS st.σ (usesI i), T := pickK st.T p.ks } i with
  | none => none
  | some st' => match dstI i with
    | none => some { σ := st.σ, T := memD p none st'.T st.T }
    | some d => match getS st'.σ d with
      | some x => some { σ := (d, x) :: st.σ, T := memD p (some d) st'.T st.T }
      | none => none
def arunD (call : Call) : List Dp → List AI → St → Option St
  | [], [], st => some st
  | p :: ps, i :: is, st => match stepD call p i st with
    | some st' => arunD call ps is st'
    | none => none
  | _, _, _ => none
def allocD : List Dp → List AI → List Nat
  | p :: ps, i :: is => if p.k = 0 then allocD ps is else (match dstI i with | some d => d :: allocD ps is | none => allocD ps is)
  | _, _ => []
def wipeL : List Nat → St → St
  | [], st => st
  | d :: ds, st => wipeL ds (wipe d st)
def nodupK : Mem → Bool
  | [] => true
  | (k, _) :: r => (getK r k).isNone && nodupK r

inductive AX where
  | normal
  | exit (id : Nat)
  | ret
def aexec (call : Call) : Nat → AC → St → Option (AX × St)
  | 0, _, _ => none
  | n + 1, c, st => match c with
    | .skip => some (.normal, st)
    | .ret => some (.ret, st)
    | .exit id => some (.exit id, st)
    | .reg is => (arun call is st).map fun st => (.normal, st)
    | .dreg plan is => match arunD call plan is (wipeL (allocD plan is) st) with
      | some st => if nodupK st.T then some (.normal, st) else none
      | none => none
    | .seq x y => match aexec call n x st with
      | some (.normal, st') => aexec call n y st'
      | r => r
    | .cond c x y => match ev st.σ c with
      | some (.v (.bool true)) => aexec call n x st
      | some (.v (.bool false)) => aexec call n y st
      | _ => none
    | .block id x => match aexec call n x st with
      | some (.exit id', st') => if id' = id then some (.normal, st') else some (.exit id', st')
      | r => r
    | .loop ls ks x => match aexec call n x (prune ls ks st) with
      | some (.normal, st') => aexec call n (.loop ls ks x) st'
      | r => r

def openArgs : Nat → List V → List V × Mem
  | _, [] => ([], [])
  | i, x :: xs => ((openV i x).1 :: (openArgs (i + 1) xs).1, (openV i x).2 ++ (openArgs (i + 1) xs).2)
def slotsFrom : Nat → List V → Sl
  | _, [] => []
  | i, x :: xs => (i, x) :: slotsFrom (i + 1) xs
def resV (st : St) : AR → Option (V × Mem)
  | .tmp t => (getS st.σ t).map fun x => (x, st.T)
  | .cell t agg size => match getS st.σ t with
    | some (.p k 0 0) => match getK st.T k with
      | some (_, [x]) => (loadE agg size x 0).bind fun y => if x.cells.length = y.cells.length then some (y, delK st.T k) else none
      | _ => none
    | _ => none
def resL (σ : Sl) : Mem → List AR → Option (List V × Mem)
  | T, [] => some ([], T)
  | T, r :: rs => match resV { σ, T } r with
    | some (x, T') => match resL σ T' rs with
      | some (xs, T'') => some (x :: xs, T'')
      | none => none
    | none => none
def one? : List V → V
  | [x] => x
  | xs => .t xs
inductive AE where
  | fn (af : AF)
  | prim (g : List V → Option (V × List V))
def finish (af : AF) (xs : List V) (st : St) : Option (V × List V) :=
  match resL st.σ st.T af.res with
  | some (rs, T) =>
    let r := closeV 30 T (one? rs)
    some (r.1, (mapT (closeV 30) r.2 xs).1)
  | none => none
def acall (prog : Nat → Option AE) : Nat → Call
  | 0, _, _ => none
  | n + 1, f, args => match prog f with
    | some (.prim g) => g args
    | some (.fn af) =>
      if args.length = af.nargs then
        match aexec (acall prog n) n af.body { σ := slotsFrom 0 (openArgs 0 args).1, T := (openArgs 0 args).2 } with
        | some (.normal, st) | some (.ret, st) => finish af (openArgs 0 args).1 st
        | _ => none
      else none
    | none => none
end Go.Vm
