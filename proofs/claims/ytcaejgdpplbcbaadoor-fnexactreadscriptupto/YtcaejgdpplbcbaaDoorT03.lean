import Derived.Test.YtcaejgdpplbcbaaDoorT02
import Derived.Laws.Strings
import Derived.ChangeArms
import Derived.ProofKit
import Derived.OpenShut
import Derived.Sort.Grow
import Derived.Deep.Draws
import Derived.Lib.LaidTab
import Derived.Lib.ItoaNum
import Derived.Lib.Bytealg
import Derived.Lib.Join
import Derived.Lib.Split
import Derived.Lib.TrimByte
open Nat renaming reduceAdd → qa, reduceSub → qb, reduceMul → qc, reduceEqDiff → qd, reduceLeDiff → qe, reduceBEq → qf
set_option autoImplicit false
set_option linter.unusedVariables false
set_option linter.unusedSimpArgs false
namespace Go.Vm
section
variable {prog:Nat→Option AE} {st:St} {σ:Sl} {T:Mem} {call:qM} {a b:Int} {x y:List UInt8}
@[go_sem] theorem qnI:ze .add (I a) (I b)=some (I (w64 (a+b))):=(rfl)
@[go_sem] theorem qnQ:ze .sub (I a) (I b)=some (I (w64 (a - b))):=(rfl)
@[go_sem] theorem qnO:ze .mul (I a) (I b)=some (I (w64 (a*b))):=(rfl)
@[go_sem] theorem qnN:ze .lss (I a) (I b)=some (B (decide (a < b))):=(rfl)
@[go_sem] theorem qnM:ze .leq (I a) (I b)=some (B (decide (a≤b))):=(rfl)
@[go_sem] theorem qnL:ze .gtr (I a) (I b)=some (B (decide (b < a))):=(rfl)
@[go_sem] theorem qnK:ze .geq (I a) (I b)=some (B (decide (b≤a))):=(rfl)
@[go_sem] theorem qnJ:ze .eql (I a) (I b)=some (B (decide (a=b))):=by
 have:(a==b)=decide (a=b):=by rw [Bool.eq_iff_iff];simp
 exact congrArg (fun t=>some (B t)) this
@[go_sem] theorem qnP:ze .neq (I a) (I b)=some (B (decide (a ≠ b))):=by
 have:(a != b)=decide (a ≠ b):=by rw [Bool.eq_iff_iff];simp
 exact congrArg (fun t=>some (B t)) this
@[go_sem] theorem qnC:ze .lss (U8 a) (U8 b)=some (B (decide (a < b))):=(rfl)
@[go_sem] theorem qnB:ze .leq (U8 a) (U8 b)=some (B (decide (a≤b))):=(rfl)
@[go_sem] theorem qnA:ze .gtr (U8 a) (U8 b)=some (B (decide (b < a))):=(rfl)
@[go_sem] theorem qnz:ze .geq (U8 a) (U8 b)=some (B (decide (b≤a))):=(rfl)
@[go_sem] theorem qnx:ze .add (U8 a) (U8 b)=some (U8 (IntKind.u8.wrap (a+b))):=(rfl)
@[go_sem] theorem qny:ze .eql (U8 a) (U8 b)=some (B (decide (a=b))):=by
 have:(a==b)=decide (a=b):=by rw [Bool.eq_iff_iff];simp
 exact congrArg (fun t=>some (B t)) this
@[go_sem] theorem qnD:ze .neq (U8 a) (U8 b)=some (B (decide (a ≠ b))):=by
 have:(a != b)=decide (a ≠ b):=by rw [Bool.eq_iff_iff];simp
 exact congrArg (fun t=>some (B t)) this
theorem X2:(ByteArray.mk x.toArray).toList=x:=by rw [ByteArray.toList_eq]
@[go_sem] theorem qnE:ze .eql (S x) (S y)=some (B (decide (x=y))):=by
 have:(Op.stringOp .eql ⟨x.toArray⟩ ⟨y.toArray⟩).val? =some (.bool (decide (x=y))):=by
  simp only [Op.stringOp,X2]
  have:(x==y)=decide (x=y):=by rw [Bool.eq_iff_iff];simp
  rw [this];rfl
 exact congrArg (Option.map V.v) this
@[go_sem] theorem qnH:ze .neq (S x) (S y)=some (B (decide (x ≠ y))):=by
 have:(Op.stringOp .neq ⟨x.toArray⟩ ⟨y.toArray⟩).val? =some (.bool (decide (x ≠ y))):=by
  simp only [Op.stringOp,X2]
  have:(!x==y)=decide (x ≠ y):=by rw [Bool.eq_iff_iff];simp
  rw [this];rfl
 exact congrArg (Option.map V.v) this
@[go_sem] theorem qnG:ze .lss (S x) (S y)=some (B (Op.bytesLess x y)):=by
 have:(Op.stringOp .lss ⟨x.toArray⟩ ⟨y.toArray⟩).val? =some (.bool (Op.bytesLess x y)):=by
  simp only [Op.stringOp,X2];rfl
 exact congrArg (Option.map V.v) this
@[go_sem] theorem qnF:ze .gtr (S x) (S y)=some (B (!(Op.bytesLess x y||decide (x=y)))):=by
 have:(Op.stringOp .gtr ⟨x.toArray⟩ ⟨y.toArray⟩).val? =some (.bool (!(Op.bytesLess x y||decide (x=y)))):=by
  simp only [Op.stringOp,X2]
  have:(x==y)=decide (x=y):=by rw [Bool.eq_iff_iff];simp
  rw [this];rfl
 exact congrArg (Option.map V.v) this
theorem ju(h:x.length+y.length≤9223372036854775807):ze .add (S x) (S y)=some (S (x++y)):=by
 have:(Op.stringOp .add ⟨x.toArray⟩ ⟨y.toArray⟩).val? =some (.string ⟨(x++y).toArray⟩):=by
  simp only [Op.stringOp,ByteArray.size,List.size_toArray]
  rw [if_neg (by simp [IntKind.max,IntKind.signed,IntKind.bits];omega)]
  have:(ByteArray.mk x.toArray++ByteArray.mk y.toArray)=⟨(x++y).toArray⟩:=by
   apply ByteArray.ext
   simp
  rw [this];rfl
 exact congrArg (Option.map V.v) this
theorem qeq(h:b ≠ 0):ze .quo (I a) (I b)=some (I (w64 (a.tdiv b))):=by
 have:(Op.intDiv .quo .i64 a b).val? =some (.int .i64 (w64 (a.tdiv b))):=by
  simp only [Op.intDiv,if_neg h];rfl
 exact congrArg (Option.map V.v) this
theorem qer(h:b ≠ 0):ze .rem (I a) (I b)=some (I (a.tmod b)):=by
 have:(Op.intDiv .rem .i64 a b).val? =some (.int .i64 (a.tmod b)):=by
  simp only [Op.intDiv,if_neg h];rfl
 exact congrArg (Option.map V.v) this
@[go_sem] theorem qrP {p q:Bool}:eqV 0 (B p) (B q)=some (p==q):=(rfl)
@[go_sem] theorem qrR {e e':Nat}:eqV 2 (.n e) (.n e')=some true:=(rfl)
@[go_sem] theorem qrQ {e:Nat} {τ:Bool} {z:V} {zs:List V}:eqV 2 (.i τ (z::zs)) (.n e)=some false:=(rfl)
@[go_sem] theorem qul {α β:Type} {f:α→β} {z:α}:(some z).map f=some (f z):=(rfl)
def ldO(ob:Option Ob) (idx:Nat) (agg:Bool) (size off:Nat):Option V:=
 match ob with
 |some ob=>qm ob.2[idx]? fun x=>qN agg size x off
 |none=>none
@[go_sem] theorem qtF {e idx size off:Nat} {xs:List V} {agg:Bool}:ldO (some (e,xs)) idx agg size off=qm xs[idx]? fun x=>qN agg size x off:=(rfl)
@[go_sem] theorem qt5 {k:Key} {idx off size:Nat} {agg:Bool}:yo T agg size (.p k idx off)=ldO (qo T k) idx agg size off:=by
 simp only [yo,ldO]
 cases qo T k with
 |none=>rfl
 |some ob=>simp only;cases ob.2[idx]? <;>rfl
@[go_sem] theorem qt6 {τ:Bool} {xs:List V} {idx off size:Nat} {agg:Bool}:yo T agg size (.q τ xs idx off)=qm xs[idx]? fun x=>qN agg size x off:=by
 simp only [yo];cases xs[idx]? <;>rfl
@[go_sem] theorem qtQ {n:Nat} {cs:List V} {off:Nat}:qN true n (.a cs) off=if off=0∧cs.length=n then some (.a cs)else if off+n≤cs.length then some (.a ((cs.drop off).take n))else none:=by
 unfold qN
 simp only [V.cells,V.isA,if_true]
 by_cases h:off=0∧cs.length=n
 ·simp only [h.1,h.2,and_self,if_true]
 ·rw [if_neg h,if_neg (fun h'=>h ⟨h'.1,h'.2.1⟩)];by_cases h2:off+n≤cs.length<;>simp only [h2,if_true,if_false]
@[go_sem] theorem qtR {n:Nat} {cs:List V} {off:Nat}:qN false n (.a cs) off=cs[off]? :=(rfl)
@[go_sem] theorem qtK {n:Nat}:qN false n (I a) 0=some (I a):=(rfl)
@[go_sem] theorem qtM {n:Nat}:qN false n (S x) 0=some (S x):=(rfl)
@[go_sem] theorem qtJ {n:Nat} {p:Bool}:qN false n (B p) 0=some (B p):=(rfl)
@[go_sem] theorem qtO {n:Nat}:qN false n (U8 a) 0=some (U8 a):=(rfl)
@[go_sem] theorem qtT {n:Nat} {τ:Bool} {xs:List V}:qN false n (.i τ xs) 0=some (.i τ xs):=(rfl)
@[go_sem] theorem qtX {n:Nat} {k:Key} {lo len:Nat}:qN false n (.s k lo len) 0=some (.s k lo len):=(rfl)
@[go_sem] theorem qtW {n e:Nat} {xs:List V}:qN false n (.o e xs) 0=some (.o e xs):=(rfl)
@[go_sem] theorem qtV {n e:Nat}:qN false n (.n e) 0=some (.n e):=(rfl)
@[go_sem] theorem qtS {n:Nat} {fn:Fn} {xs ys:List V}:qN false n (.f fn xs ys) 0=some (.f fn xs ys):=(rfl)
def stO(T:Mem) (k:Key) (ob:Option Ob) (idx off:Nat) (y:V):Option Mem:=
 match ob with
 |some ob=>match ob.2[idx]? with
  |some x=>match kF x off y with
   |some x'=>some ((k,ob.1,ob.2.set idx x')::qu T k)
   |none=>none
  |none=>none
 |none=>none
@[go_sem] theorem qyQ {k:Key} {idx off:Nat} {y:V}:kG T (.p k idx off) y=stO T k (qo T k) idx off y:=(rfl)
@[go_sem] theorem qyO {k:Key} {idx off e:Nat} {xs:List V} {y:V}:stO T k (some (e,xs)) idx off y=qm xs[idx]? fun x=>qm (kF x off y) fun x'=>some ((k,e,xs.set idx x')::qu T k):=by
 simp only [stO]
 cases xs[idx]? with
 |none=>rfl
 |some x=>simp only [qm];cases kF x off y<;>rfl
attribute [go_sem] kF
@[go_sem] theorem qrB {z:V} {zs:List V}:(z::zs)[0]? =some z:=(rfl)
@[go_sem] theorem qrC {z:V} {zs:List V} {n:Nat}:(z::zs)[n+1]? =zs[n]? :=by simp
@[go_sem] theorem qyK {z z':V} {zs:List V}:(z::zs).set 0 z'=z'::zs:=(rfl)
@[go_sem] theorem qyL {z z':V} {zs:List V} {n:Nat}:(z::zs).set (n+1) z'=z::zs.set n z':=(rfl)
attribute [go_sem] List.length_cons List.length_nil List.take_zero List.take_succ_cons List.drop_zero List.drop_succ_cons List.nil_append List.cons_append List.append_nil List.length_append
def ixO(k:Key) (lo len e:Nat) (i:Int) (ob:Option Ob):Option V:=
 match ob with
 |some ob=>if ob.1=e∧lo+len≤ob.2.length then (zw i len).map fun j=> .p k (lo+j) 0 else none
 |none=>none
@[go_sem] theorem qm6 {k:Key} {lo len e:Nat} {i:Int}:xi T e (.s k lo len) i=ixO k lo len e i (qo T k):=(rfl)
theorem qbK {k:Key} {len e:Nat} {xs:List V} {i:Nat} (h:i < len) (hl:len≤xs.length):ixO k 0 len e (i:Int) (some (e,xs))=some (.p k i 0):=by
 simp only [ixO,zw]
 rw [if_pos ⟨trivial,by omega⟩,if_pos ⟨by omega,by omega⟩]
 simp
theorem kj {τ:Bool} {xs:List V} {e:Nat} {i:Nat} {z:V} (h:xs[i]? =some z) (hz:z.cells.length=e):xi T e (.i τ xs) (i:Int)=some (.q τ xs i 0):=by
 have hl:i < xs.length:=(List.getElem?_eq_some_iff.1 h).1
 simp only [xi,zw]
 rw [if_pos ⟨by omega,by omega⟩]
 simp only [Int.toNat_natCast,h,Option.getD_some,hz,if_true]
def elO(e lo len:Nat) (ob:Option Ob):Option (List V):=
 match ob with
 |some ob=>if ob.1=e∧lo+len≤ob.2.length then some ((ob.2.drop lo).take len)else none
 |none=>none
@[go_sem] theorem qrF {k:Key} {lo len e:Nat}:xk T e (.s k lo len)=elO e lo len (qo T k):=(rfl)
@[go_sem] theorem qrA {e e' lo len:Nat} {xs:List V}:elO e lo len (some (e',xs))=if e'=e∧lo+len≤xs.length then some ((xs.drop lo).take len)else none:=(rfl)
@[go_sem] theorem qrD {e:Nat} {τ:Bool} {xs:List V}:xk T e (.i τ xs)=some xs:=(rfl)
@[go_sem] theorem qrE {e e':Nat}:xk T e (.n e')=some []:=(rfl)
def apO(e lo len:Nat) (T':Mem) (ob:Option Ob):Option (List V × Mem):=
 match ob with
 |some ob=>if ob.1=e∧lo+len≤ob.2.length then some ((ob.2.drop lo).take len,T')else none
 |none=>none
@[go_sem] theorem qnb {e e':Nat}:xR T e (.n e')=some ([],T):=(rfl)
@[go_sem] theorem qnc {k:Key} {lo len e:Nat}:xR T e (.s k lo len)=apO e lo len (qu T k) (qo T k):=(rfl)
@[go_sem] theorem qm9 {e e' lo len:Nat} {xs:List V}:apO e lo len T (some (e',xs))=if e'=e∧lo+len≤xs.length then some ((xs.drop lo).take len,T)else none:=(rfl)
def jv {α:Type} (r:Option (List V × Mem)) (k:List V→Mem→Option α):Option α:=
 match r with
 |some (xs,T)=>k xs T
 |none=>none
@[congr] theorem qn7 {α:Type} {r r':Option (List V × Mem)} {k:List V→Mem→Option α} (h:r=r'):jv r k=jv r' k:=by rw [h]
@[go_sem] theorem qn8 {α:Type} {xs:List V} {k:List V→Mem→Option α}:jv (some (xs,T)) k=k xs T:=(rfl)
@[go_sem] theorem qna {e:Nat} {y:V}:j5 T e y=zB (xk T e y) fun ys=>zl (yc ys) (some (ys,T)) (xR T e y):=by
 unfold j5
 cases xk T e y with
 |none=>rfl
 |some ys=>simp only [zB,zl]
@[go_sem] theorem qr6 {d e bytes:Nat} {x y:AO}:qk call ⟨σ,T⟩ (.app d e bytes x y)=qm (ev σ x) fun x=>qm (ev σ y) fun y=>jv (j5 T e y) fun ys Ty=>jv (xR Ty e x) fun xs T'=>
 yP (j4 e ys&&decide ((xs.length+ys.length)*bytes≤lim)&&decide (xs.length+ys.length≤lim))
  (some ⟨(d,.s (d,0) 0 (xs.length+ys.length))::yB d σ,((d,0),e,qz d (xs++ys))::wT d T'⟩):=by
 simp only [qk,qh,Kq]
 cases ev σ x with
 |none=>rfl
 |some x=>cases ev σ y with
  |none=>rfl
  |some y=>
   simp only [qm]
   cases j5 T e y with
   |none=>rfl
   |some q=>
    obtain ⟨ys,Ty⟩:=q
    simp only [jv]
    cases xR Ty e x<;>rfl
theorem k7:lim=1099511627776:=(rfl)
def ZC(d:Option Nat) (k:Nat):Bool:=
 match d with
 |none=>false
 |some d=>decide (d=k)
@[go_sem] theorem qqU {k:Nat}:ZC none k=false:=(rfl)
@[go_sem] theorem qqV {d k:Nat}:ZC (some d) k=decide (d=k):=(rfl)
def jA {α:Type} (o:Option Nat) (x:α) (k:Nat→α):α:=
 match o with
 |none=>x
 |some d=>k d
@[congr] theorem qqW {α:Type} {o o':Option Nat} {x:α} {k:Nat→α} (h:o=o'):jA o x k=jA o' x k:=by rw [h]
@[go_sem] theorem qqY {α:Type} {d:Nat} {x:α} {k:Nat→α}:jA (some d) x k=k d:=(rfl)
@[go_sem] theorem qqX {α:Type} {x:α} {k:Nat→α}:jA none x k=x:=(rfl)
@[go_sem] theorem qne:zj call [] [] st=some st:=(rfl)
@[go_sem] theorem qnd {p:Dp} {ps:List Dp} {i:AI} {is:List AI}:zj call (p::ps) (i::is) st=yY (yt call p i st) fun st=>zj call ps is st:=by
 simp only [zj];cases yt call p i st<;>rfl
@[go_sem] theorem qyP {p:Dp} {i:AI}:yt call p i ⟨σ,T⟩=yY (qk call ⟨zd σ (qG i),yp T p.ks⟩ i) fun st'=>jA (qr i) (some ⟨σ,jD p none st'.T T⟩)
 (fun d=>qm (qy st'.σ d) fun x=>some ⟨(d,x)::σ,jD p (some d) st'.T T⟩):=by
 unfold yt jA
 simp only
 cases qk call ⟨zd σ (qG i),yp T p.ks⟩ i with
 |none=>rfl
 |some st'=>
  simp only [yY]
  cases qr i with
  |none=>rfl
  |some d=>simp only;cases qy st'.σ d<;>rfl
attribute [go_sem] xJ X4 qC k9
@[go_sem] theorem qm8:zt [] []=[]:=(rfl)
@[go_sem] theorem qm7 {k:Nat} {ks:List Key} {ps:List Dp} {i:AI} {is:List AI}:zt (⟨k,ks⟩::ps) (i::is)=if k=0 then zt ps is else jA (qr i) (zt ps is) fun d=>d::zt ps is:=by
 simp only [zt];cases qr i<;>rfl
@[go_sem] theorem qwZ {k:Nat} {ks:List Key} {d:Option Nat} {x:Key}:Dp.own ⟨k,ks⟩ d x=((decide (k=1)&&yn x ks)||(!decide (k=0)&&ZC d x.1)):=by
 have h1: ∀ ks:List Key,ks.contains x=yn x ks:=by
  intro ks
  induction ks with
  |nil=>rfl
  |cons u r ih=>
   simp only [List.contains_cons,yn,ih]
   by_cases h:u=x
   ·subst h;simp
   ·have:(x==u)=false:=by simpa using fun h'=>h h'.symm
    simp [h,this]
 simp only [Dp.own,h1]
 have h2:(d==some x.1)=ZC d x.1:=by
  cases d with
  |none=>rfl
  |some d=>simp only [ZC];by_cases h:d=x.1<;>simp [h]
 rw [h2]
 have h3:(k==1)=decide (k=1):=by rw [Bool.eq_iff_iff];simp
 have h4:(k != 0)= !decide (k=0):=by rw [Bool.eq_iff_iff];simp
 rw [h3,h4]
@[go_sem] theorem qzx:yw [] st=st:=(rfl)
@[go_sem] theorem qy1 {n:Nat}:qH (.t n)=[n]:=(rfl)
@[go_sem] theorem qy0 {z:V}:qH (.c z)=[]:=(rfl)
@[go_sem] theorem qyY:ke none=[]:=(rfl)
@[go_sem] theorem qyZ {z:AO}:ke (some z)=qH z:=(rfl)
@[go_sem] theorem qri {d:Nat} {x:AO}:qr (.mv d x)=some d:=(rfl)
@[go_sem] theorem qzl {d:Nat} {x:AO}:qG (.mv d x)=qH x:=(rfl)
@[go_sem] theorem qrm {d:Nat} {x:AO} {y:AO} {z:AO}:qr (.pick d x y z)=some d:=(rfl)
@[go_sem] theorem qzp {d:Nat} {x:AO} {y:AO} {z:AO}:qG (.pick d x y z)=qH x++(qH y++qH z):=(rfl)
@[go_sem] theorem qrk {d:Nat} {x:AO}:qr (.new d x)=some d:=(rfl)
@[go_sem] theorem qzn {d:Nat} {x:AO}:qG (.new d x)=qH x:=(rfl)
@[go_sem] theorem qq1 {d:Nat} {v:V} {bs:List (Nat × Nat × AO)}:qr (.build d v bs)=some d:=(rfl)
@[go_sem] theorem qy4 {d:Nat} {v:V} {bs:List (Nat × Nat × AO)}:qG (.build d v bs)=X4 bs:=(rfl)
@[go_sem] theorem qrh {d:Nat} {e:Nat} {xs:List AO}:qr (.mks d e xs)=some d:=(rfl)
@[go_sem] theorem qzk {d:Nat} {e:Nat} {xs:List AO}:qG (.mks d e xs)=xJ xs:=(rfl)
@[go_sem] theorem qrg {d:Nat} {e:Nat} {v:V} {n:Nat} {x:AO} {y:AO}:qr (.mk d e v n x y)=some d:=(rfl)
@[go_sem] theorem qzj {d:Nat} {e:Nat} {v:V} {n:Nat} {x:AO} {y:AO}:qG (.mk d e v n x y)=qH x++qH y:=(rfl)
@[go_sem] theorem qrd {d:Nat} {p:Bool} {n:Nat} {x:AO}:qr (.ld d p n x)=some d:=(rfl)
@[go_sem] theorem qzg {d:Nat} {p:Bool} {n:Nat} {x:AO}:qG (.ld d p n x)=qH x:=(rfl)
@[go_sem] theorem qre {d:Nat} {p:Bool} {n:Nat} {x:AO}:qr (.ldq d p n x)=some d:=(rfl)
@[go_sem] theorem qzh {d:Nat} {p:Bool} {n:Nat} {x:AO}:qG (.ldq d p n x)=qH x:=(rfl)
@[go_sem] theorem qrl {d:Nat} {x:AO}:qr (.nilc d x)=some d:=(rfl)
@[go_sem] theorem qzo {d:Nat} {x:AO}:qG (.nilc d x)=qH x:=(rfl)
@[go_sem] theorem qq0 {d:Nat} {op:BinOp} {x:AO} {y:AO}:qr (.bin d op x y)=some d:=(rfl)
@[go_sem] theorem qy3 {d:Nat} {op:BinOp} {x:AO} {y:AO}:qG (.bin d op x y)=qH x++qH y:=(rfl)
@[go_sem] theorem qq4 {d:Nat} {n:Nat} {p:Bool} {x:AO} {y:AO}:qr (.eqs d n p x y)=some d:=(rfl)
@[go_sem] theorem qy7 {d:Nat} {n:Nat} {p:Bool} {x:AO} {y:AO}:qG (.eqs d n p x y)=qH x++qH y:=(rfl)
@[go_sem] theorem qrs {d:Nat} {uo:UnOp} {x:AO}:qr (.un d uo x)=some d:=(rfl)
@[go_sem] theorem qzv {d:Nat} {uo:UnOp} {x:AO}:qG (.un d uo x)=qH x:=(rfl)
@[go_sem] theorem qrn {d:Nat} {e:Nat} {x:AO} {ox:Option AO} {oy:Option AO}:qr (.sl d e x ox oy)=some d:=(rfl)
@[go_sem] theorem qzq {d:Nat} {e:Nat} {x:AO} {ox:Option AO} {oy:Option AO}:qG (.sl d e x ox oy)=qH x++(ke ox++ke oy):=(rfl)
@[go_sem] theorem qrp {d:Nat} {x:AO} {ox:Option AO} {oy:Option AO}:qr (.ssl d x ox oy)=some d:=(rfl)
@[go_sem] theorem qzs {d:Nat} {x:AO} {ox:Option AO} {oy:Option AO}:qG (.ssl d x ox oy)=qH x++(ke ox++ke oy):=(rfl)
@[go_sem] theorem qro {d:Nat} {x:AO}:qr (.slen d x)=some d:=(rfl)
@[go_sem] theorem qzr {d:Nat} {x:AO}:qG (.slen d x)=qH x:=(rfl)
@[go_sem] theorem qq6 {d:Nat} {x:AO} {n:Nat}:qr (.fa d x n)=some d:=(rfl)
@[go_sem] theorem qy9 {d:Nat} {x:AO} {n:Nat}:qG (.fa d x n)=qH x:=(rfl)
@[go_sem] theorem qq7 {d:Nat} {p:Bool} {n:Nat} {x:AO} {m:Nat}:qr (.fld d p n x m)=some d:=(rfl)
@[go_sem] theorem qza {d:Nat} {p:Bool} {n:Nat} {x:AO} {m:Nat}:qG (.fld d p n x m)=qH x:=(rfl)
@[go_sem] theorem qra {d:Nat} {e:Nat} {x:AO} {y:AO}:qr (.ia d e x y)=some d:=(rfl)
@[go_sem] theorem qzd {d:Nat} {e:Nat} {x:AO} {y:AO}:qG (.ia d e x y)=qH x++qH y:=(rfl)
@[go_sem] theorem qrc {d:Nat} {x:AO} {y:AO}:qr (.ix d x y)=some d:=(rfl)
@[go_sem] theorem qzf {d:Nat} {x:AO} {y:AO}:qG (.ix d x y)=qH x++qH y:=(rfl)
@[go_sem] theorem qq5 {d:Nat} {x:AO} {n:Nat}:qr (.ext d x n)=some d:=(rfl)
@[go_sem] theorem qy8 {d:Nat} {x:AO} {n:Nat}:qG (.ext d x n)=qH x:=(rfl)
@[go_sem] theorem qq8 {d:Nat} {fn:Fn} {xs:List AO} {ys:List AO}:qr (.fun d fn xs ys)=some d:=(rfl)
@[go_sem] theorem qzb {d:Nat} {fn:Fn} {xs:List AO} {ys:List AO}:qG (.fun d fn xs ys)=xJ xs++xJ ys:=(rfl)
@[go_sem] theorem qqZ {d:Nat} {e:Nat} {n:Nat} {x:AO} {y:AO}:qr (.app d e n x y)=some d:=(rfl)
@[go_sem] theorem qy2 {d:Nat} {e:Nat} {n:Nat} {x:AO} {y:AO}:qG (.app d e n x y)=qH x++qH y:=(rfl)
@[go_sem] theorem qrf {d:Nat} {x:AO}:qr (.len d x)=some d:=(rfl)
@[go_sem] theorem qzi {d:Nat} {x:AO}:qG (.len d x)=qH x:=(rfl)
@[go_sem] theorem qrj {d:Nat} {p:Bool} {xs:List AO}:qr (.mx d p xs)=some d:=(rfl)
@[go_sem] theorem qzm {d:Nat} {p:Bool} {xs:List AO}:qG (.mx d p xs)=xJ xs:=(rfl)
@[go_sem] theorem qrb {d:Nat} {ik:IntKind} {x:AO}:qr (.int d ik x)=some d:=(rfl)
@[go_sem] theorem qze {d:Nat} {ik:IntKind} {x:AO}:qG (.int d ik x)=qH x:=(rfl)
@[go_sem] theorem qrr {d:Nat} {x:AO}:qr (.str d x)=some d:=(rfl)
@[go_sem] theorem qzu {d:Nat} {x:AO}:qG (.str d x)=qH x:=(rfl)
@[go_sem] theorem qq2 {d:Nat} {x:AO}:qr (.byt d x)=some d:=(rfl)
@[go_sem] theorem qy5 {d:Nat} {x:AO}:qG (.byt d x)=qH x:=(rfl)
@[go_sem] theorem qrq {n:Nat} {x y:AO}:qr (.st n x y)=none:=(rfl)
@[go_sem] theorem qzt {n:Nat} {x y:AO}:qG (.st n x y)=qH x++qH y:=(rfl)
@[go_sem] theorem qq3 {o:Option Nat} {x:AO} {xs:List AO} {m:Md}:qr (.call o x xs m)=o:=(rfl)
@[go_sem] theorem qy6 {o:Option Nat} {x:AO} {xs:List AO} {m:Md}:qG (.call o x xs m)=qH x++xJ xs:=(rfl)
@[go_sem] theorem qq9 {n:Nat} {p:Bool} {o:Option Nat} {i:AI}:qr (.gd n p o i)=o:=(rfl)
@[go_sem] theorem qzc {n:Nat} {p:Bool} {o:Option Nat} {i:AI}:qG (.gd n p o i)=n::qG i:=(rfl)
@[go_sem] theorem qum {k:Nat} {ks:List Key} {d:Option Nat} {T':Mem}:jD ⟨k,ks⟩ d T' T=if k=0 then T else qC (Dp.own ⟨k,ks⟩ d) T'++qC (fun x=> !Dp.own ⟨k,ks⟩ d x) T:=(rfl)
@[go_sem] theorem qzw {ds:List Nat} {d:Nat}:yw (d::ds) ⟨σ,T⟩=yw ds ⟨yB d σ,wT d T⟩:=(rfl)
def XH(n:Nat) (σ:Sl) (T:Mem):St:=kT n (zZ σ) σ (jM (zZ σ) (ym σ++yk T (zZ σ)) T)
@[go_sem] theorem qxm {ls:List Nat} {ks:List Key}:yH ls ks ⟨σ,T⟩=XH (Zx ks) (zd σ ls) T:=(rfl)
@[go_sem] theorem qol:Zx []=0:=(rfl)
@[go_sem] theorem qok {n m:Nat} {r:List Key}:Zx ((n,m)::r)=n:=(rfl)
theorem qcB: ∀ (ks:List Key),zU [] ks=[]
 |[]=>rfl
 |k::ks=>by simp only [zU,qo,qcB ks]
theorem qa5(bx:List Key): ∀ (ks:List Key),xY bx ks []=[]
 |[]=>rfl
 |k::ks=>by
  have:jy [] k=[]:=rfl
  simp only [xY,this,ite_self,qa5 bx ks]
@[go_sem] theorem qxl {n:Nat}:XH n σ []=kT n (zZ σ) σ []:=by
 simp only [XH,jM,qa5,qcB]
@[go_sem] theorem qxk {n:Nat} {ob:Key × Ob}:XH n σ (ob::T)=kT n (zZ σ) σ (jM (zZ σ) (ym σ++yk (ob::T) (zZ σ)) (ob::T)):=(rfl)
@[go_sem] theorem qyM {bx k0:List Key}:jM bx k0 T=zU (xY bx k0 T) k0:=(rfl)
@[go_sem] theorem qpI {bx:List Key}:xY bx [] T=T:=(rfl)
@[go_sem] theorem qpH {bx ks:List Key} {k:Key}:xY bx (k::ks) T=xY bx ks (zl (yn k bx) T (jy T k)):=(rfl)
def XW(T:Mem) (k:Key) (ob:Option Ob):Mem:=
 match ob with
 |none=>T
 |some ob=>zl (qx ob.2) T ((k,ob.1,(qv (zg 30) (qu T k) ob.2).1)::(qv (zg 30) (qu T k) ob.2).2)
@[go_sem] theorem qpG {k:Key}:jy T k=XW T k (qo T k):=by
 unfold jy XW zl;cases qo T k<;>rfl
@[go_sem] theorem qyA {k:Key}:XW T k none=T:=(rfl)
@[go_sem] theorem qyB {k:Key} {ob:Ob}:XW T k (some ob)=zl (qx ob.2) T ((k,ob.1,(qv (zg 30) (qu T k) ob.2).1)::(qv (zg 30) (qu T k) ob.2).2):=(rfl)
@[go_sem] theorem qpF {m:Nat} {x:V}:zg m T x=zl (clE x) (x,T) (qt m T x):=(rfl)
theorem qbX(m:Nat): ∀ (xs ys:List V) (T:Mem),qv (zg m) T (xs++ys)=((qv (zg m) T xs).1++(qv (zg m) (qv (zg m) T xs).2 ys).1,(qv (zg m) (qv (zg m) T xs).2 ys).2)
 |[],ys,T=>rfl
 |x::xs,ys,T=>by simp only [List.cons_append,qv,qbX m xs ys]
theorem xD(m:Nat) (T:Mem): ∀ (xs:List V),qx xs=true→qv (zg m) T xs=(xs,T)
 |[],_=>rfl
 |x::xs,h=>by
  simp only [qx,Bool.and_eq_true]at h
  have:zg m T x=(x,T):=by unfold zg;rw [if_pos h.1]
  simp only [qv,this,xD m T xs h.2]
attribute [go_sem] qbX
def Kr(n:Nat) (bx:List Key) (σ:Sl) (T:Mem):St:=⟨ka (y3 n (ym σ++yk T bx)) σ,xt (y3 n (ym σ++yk T bx)) (zU T (ym σ++yk T bx))⟩
@[go_sem] theorem qex {n:Nat} {bx:List Key}:kT n bx σ T=Kr n bx (yC σ) (y5 σ++z8 bx T):=(rfl)
def qaP(n:Nat) (kk:List Key) (σ:Sl) (T:Mem):St:=⟨ka (y3 n kk) σ,xt (y3 n kk) (zU T kk)⟩
@[go_sem] theorem qoO {n:Nat} {bx:List Key}:Kr n bx σ T=qaP n (ym σ++yk T bx) σ T:=(rfl)
@[go_sem] theorem qoP {n:Nat} {kk:List Key}:qaP n kk σ T=⟨ka (y3 n kk) σ,xt (y3 n kk) (zU T kk)⟩:=(rfl)
@[go_sem] theorem qmq:NB=200000:=(rfl)
@[go_sem] theorem qjq:CN=100000:=(rfl)
attribute [go_sem] yC y5 yk y3 kY ka zJ zN
@[go_sem] theorem qoQ {n:Nat} {σ:Sl}:kT n [] σ []=Kr n [] (yC σ) (y5 σ):=by rw [qex];simp only [z8,List.append_nil]
section nm
variable {t i j d e n lo len:Nat} {k k':Key} {x:V} {xs:List V} {bx tb:List Key} {r:Sl} {M:Mem} {τ nm:Bool} {u:Int} {l:List UInt8} {fn:Fn} {ys:List V}
@[go_sem] theorem qoG:zZ []=[]:=(rfl)
def zY(x:V) (r:List Key):List Key:=match x with| .p k _ _=>k::r|_=>r
@[go_sem] theorem qoF:zZ ((t,x)::r)=zY x (zZ r):=by cases x<;>rfl
@[go_sem] theorem qoA {r:List Key}:zY (.p k i j) r=k::r:=(rfl)
@[go_sem] theorem qoC {r:List Key}:zY (.s k i j) r=r:=(rfl)
@[go_sem] theorem qoq {r:List Key}:zY (I u) r=r:=(rfl)
@[go_sem] theorem qoo {b:Bool} {r:List Key}:zY (B b) r=r:=(rfl)
@[go_sem] theorem qor {r:List Key}:zY (S l) r=r:=(rfl)
@[go_sem] theorem qot {r:List Key}:zY (U8 u) r=r:=(rfl)
@[go_sem] theorem qos {r:List Key}:zY (U32 u) r=r:=(rfl)
@[go_sem] theorem qox {r:List Key}:zY (.i τ xs) r=r:=(rfl)
@[go_sem] theorem qoB {r:List Key}:zY (.q τ xs i j) r=r:=(rfl)
@[go_sem] theorem qoz {r:List Key}:zY (.o e xs) r=r:=(rfl)
@[go_sem] theorem qoy {r:List Key}:zY (.n e) r=r:=(rfl)
@[go_sem] theorem qou {r:List Key}:zY (.a xs) r=r:=(rfl)
@[go_sem] theorem qoD {r:List Key}:zY (.t xs) r=r:=(rfl)
@[go_sem] theorem qow {r:List Key}:zY (.f fn xs ys) r=r:=(rfl)
@[go_sem] theorem qov {r:List Key}:zY .d r=r:=(rfl)
@[go_sem] theorem qoE {r:List Key}:zY zH r=r:=(rfl)
@[go_sem] theorem qop {g:Nat} {r:List Key}:zY (Fc g) r=r:=(rfl)
@[go_sem] theorem qqG:KC (some (e,[x]))=z6 x:=(rfl)
@[go_sem] theorem qqF:KC none=[]:=(rfl)
@[go_sem] theorem quF:qI d i nm (I u)=I u:=(rfl)
@[go_sem] theorem quD {b:Bool}:qI d i nm (B b)=B b:=(rfl)
@[go_sem] theorem quG:qI d i nm (S l)=S l:=(rfl)
@[go_sem] theorem quI:qI d i nm (U8 u)=U8 u:=(rfl)
@[go_sem] theorem quH:qI d i nm (U32 u)=U32 u:=(rfl)
@[go_sem] theorem quW:qI d i nm zH=zH:=(rfl)
@[go_sem] theorem quE {g:Nat}:qI d i nm (Fc g)=Fc g:=(rfl)
@[go_sem] theorem quN:qI d i nm (.i τ xs)= .i τ xs:=(rfl)
@[go_sem] theorem quT:qI d i nm (.q τ xs lo len)= .q τ xs lo len:=(rfl)
@[go_sem] theorem quR:qI d i nm (.o e xs)= .o e xs:=(rfl)
@[go_sem] theorem quK:qI d i nm (.b x)= .b x:=(rfl)
@[go_sem] theorem quL:qI d i nm .d= .d:=(rfl)
@[go_sem] theorem quP:qI d i true (.n e)= .s (d,i) 0 0:=(rfl)
@[go_sem] theorem quQ:qI d i false (.n e)= .n e:=(rfl)
@[go_sem] theorem quS:qI d i nm (.p k lo len)=if NB≤k.1 then .d else .p k lo len:=(rfl)
@[go_sem] theorem quU:qI d i nm (.s k lo len)=if NB≤k.1 then .d else .s k lo len:=(rfl)
@[go_sem] theorem quM:qI d i nm (.f fn xs ys)= .f fn (zJ d i false xs) (zJ d i false ys):=(rfl)
@[go_sem] theorem quJ:qI d i nm (.a xs)= .a (zJ d i nm xs):=(rfl)
@[go_sem] theorem quV:qI d i nm (.t xs)= .t (zJ d i false xs):=(rfl)
def yD(d i:Nat) (x:V):Mem:=match x with| .n e=>[((d,i),e,[])]|_=>[]
@[go_sem] theorem qus:x6 d i []=[]:=(rfl)
@[go_sem] theorem qur:x6 d i (x::xs)=yD d i x++x6 d (i+1) xs:=by cases x<;>rfl
@[go_sem] theorem qu7:yD d i (.n e)=[((d,i),e,[])]:=(rfl)
@[go_sem] theorem quZ:yD d i (I u)=[]:=(rfl)
@[go_sem] theorem quY {b:Bool}:yD d i (B b)=[]:=(rfl)
@[go_sem] theorem qu0:yD d i (S l)=[]:=(rfl)
@[go_sem] theorem qu2:yD d i (U8 u)=[]:=(rfl)
@[go_sem] theorem qu1:yD d i (U32 u)=[]:=(rfl)
@[go_sem] theorem qu6:yD d i (.i τ xs)=[]:=(rfl)
@[go_sem] theorem qu8:yD d i (.o e xs)=[]:=(rfl)
@[go_sem] theorem qvb:yD d i (.s k lo len)=[]:=(rfl)
@[go_sem] theorem qu9:yD d i (.p k lo len)=[]:=(rfl)
@[go_sem] theorem qva:yD d i (.q τ xs lo len)=[]:=(rfl)
@[go_sem] theorem qu3:yD d i (.b x)=[]:=(rfl)
@[go_sem] theorem qu5:yD d i (.f fn xs ys)=[]:=(rfl)
@[go_sem] theorem qu4:yD d i .d=[]:=(rfl)
@[go_sem] theorem qve:zE d i (I u)=[]:=(rfl)
@[go_sem] theorem qvc {b:Bool}:zE d i (B b)=[]:=(rfl)
@[go_sem] theorem qvf:zE d i (S l)=[]:=(rfl)
@[go_sem] theorem qvh:zE d i (U8 u)=[]:=(rfl)
@[go_sem] theorem qvg:zE d i (U32 u)=[]:=(rfl)
@[go_sem] theorem qvt:zE d i zH=[]:=(rfl)
@[go_sem] theorem qvd {g:Nat}:zE d i (Fc g)=[]:=(rfl)
@[go_sem] theorem qvm:zE d i (.i τ xs)=[]:=(rfl)
@[go_sem] theorem qvo:zE d i (.o e xs)=[]:=(rfl)
@[go_sem] theorem qvr:zE d i (.s k lo len)=[]:=(rfl)
@[go_sem] theorem qvp:zE d i (.p k lo len)=[]:=(rfl)
@[go_sem] theorem qvq:zE d i (.q τ xs lo len)=[]:=(rfl)
@[go_sem] theorem qvj:zE d i (.b x)=[]:=(rfl)
@[go_sem] theorem qvl:zE d i (.f fn xs ys)=[]:=(rfl)
@[go_sem] theorem qvs:zE d i (.t xs)=[]:=(rfl)
@[go_sem] theorem qvk:zE d i .d=[]:=(rfl)
@[go_sem] theorem qvn:zE d i (.n e)=[((d,i),e,[])]:=(rfl)
@[go_sem] theorem qvi:zE d i (.a xs)=x6 d i xs:=(rfl)
def Kx(xs:List V):List V:=zl (qx xs) xs (zJ 0 0 false xs)
@[go_sem] theorem qp9:Kx xs=zl (qx xs) xs (zJ 0 0 false xs):=(rfl)
@[go_sem] theorem quz:y4 d i true [x]=[qI d i true x]:=(rfl)
@[go_sem] theorem quA:y4 d i false xs=Kx xs:=by
 unfold y4 Kx zl
 split
 ·simp only [Bool.false_eq_true,if_false,qx,Bool.and_true,zJ]
 ·rfl
@[go_sem] theorem qux:jE d i true [x]=zE d i x:=(rfl)
@[go_sem] theorem quy:jE d i false xs=[]:=by unfold jE;split<;>rfl
@[go_sem] theorem quC:z8 bx []=[]:=(rfl)
@[go_sem] theorem quB {ob:Ob}:z8 bx ((k,ob)::M)=if NB≤k.1 then z8 bx M else jE (2*NB+k.1) (10*k.2) (yn k bx) ob.2++(k,ob.1,y4 (2*NB+k.1) (10*k.2) (yn k bx) ob.2)::z8 bx M:=(rfl)
def XR(o:Option Nat) (k:Key):Option Key:=match o with|some i=>some (CN,i)|none=>if k.1=CN then none else some k
@[go_sem] theorem qxq:yr tb k=XR (kY k 0 tb) k:=by unfold yr XR;cases kY k 0 tb<;>rfl
@[go_sem] theorem qxp:XR (some i) k=some (CN,i):=(rfl)
@[go_sem] theorem qxo:XR none k=if k.1=CN then none else some k:=(rfl)
def sOf(o:Option Key) (a b:Nat):V:=match o with|some k=> .s k a b|none=> .d
def pOf(o:Option Key) (a b:Nat):V:=match o with|some k=> .p k a b|none=> .d
@[go_sem] theorem qyF:sOf (some k) i j= .s k i j:=(rfl)
@[go_sem] theorem qw3:pOf (some k) i j= .p k i j:=(rfl)
@[go_sem] theorem qyE:sOf none i j= .d:=(rfl)
@[go_sem] theorem qw2:pOf none i j= .d:=(rfl)
@[go_sem] theorem qxL:qL tb (.s k i j)=sOf (yr tb k) i j:=by simp only [qL,sOf];cases yr tb k<;>rfl
@[go_sem] theorem qxJ:qL tb (.p k i j)=pOf (yr tb k) i j:=by simp only [qL,pOf];cases yr tb k<;>rfl
@[go_sem] theorem qxx:qL tb (I u)=I u:=(rfl)
@[go_sem] theorem qxv {b:Bool}:qL tb (B b)=B b:=(rfl)
@[go_sem] theorem qxy:qL tb (S l)=S l:=(rfl)
@[go_sem] theorem qxA:qL tb (U8 u)=U8 u:=(rfl)
@[go_sem] theorem qxz:qL tb (U32 u)=U32 u:=(rfl)
@[go_sem] theorem qxN:qL tb zH=zH:=(rfl)
@[go_sem] theorem qxw {g:Nat}:qL tb (Fc g)=Fc g:=(rfl)
@[go_sem] theorem qxF:qL tb (.i τ xs)= .i τ xs:=(rfl)
@[go_sem] theorem qxK:qL tb (.q τ xs i j)= .q τ xs i j:=(rfl)
@[go_sem] theorem qxI:qL tb (.o e xs)= .o e xs:=(rfl)
@[go_sem] theorem qxC:qL tb (.b x)= .b x:=(rfl)
@[go_sem] theorem qxH:qL tb (.n e)= .n e:=(rfl)
@[go_sem] theorem qxD:qL tb .d= .d:=(rfl)
@[go_sem] theorem qxE:qL tb (.f fn xs ys)= .f fn (zN tb xs) (zN tb ys):=(rfl)
@[go_sem] theorem qxB:qL tb (.a xs)= .a (zN tb xs):=(rfl)
@[go_sem] theorem qxM:qL tb (.t xs)= .t (zN tb xs):=(rfl)
def XS(o:Option Key) (e:Nat) (xs:List V) (r:Mem):Mem:=match o with|some k=>(k,e,xs)::r|none=>r
@[go_sem] theorem qxs {r:Mem}:XS (some k) e xs r=(k,e,xs)::r:=(rfl)
@[go_sem] theorem qxr {r:Mem}:XS none e xs r=r:=(rfl)
@[go_sem] theorem qxu:xt tb []=[]:=(rfl)
@[go_sem] theorem qxt {ob:Ob}:xt tb ((k,ob)::M)=XS (yr tb k) ob.1 (zl (qx ob.2) ob.2 (zN tb ob.2)) (xt tb M):=by
 obtain ⟨e,xs⟩:=ob
 simp only [xt,XS,zl]
 cases yr tb k<;>rfl
end nm
attribute [go_sem] z6 Qc ym yn Jd qdo List.reverse_cons List.reverse_nil
@[go_sem] theorem qqJ {n:Int}:z6 (I n)=[]:=(rfl)
@[go_sem] theorem qqH {b:Bool}:z6 (B b)=[]:=(rfl)
@[go_sem] theorem qqK {l:List UInt8}:z6 (S l)=[]:=(rfl)
@[go_sem] theorem qqM {n:Int}:z6 (U8 n)=[]:=(rfl)
@[go_sem] theorem qqL {n:Int}:z6 (U32 n)=[]:=(rfl)
@[go_sem] theorem qqI {g:Nat}:z6 (Fc g)=[]:=(rfl)
@[go_sem] theorem qqN:z6 zH=[]:=(rfl)
def XV(T:Mem) (k:Key) (ob:Option Ob):Mem:=
 match ob with
 |none=>T
 |some ob=>zl (qx ob.2) (y7 k ob (qu T k)) T
@[go_sem] theorem qyz {k:Key}:Jz T k=XV T k (qo T k):=by
 unfold Jz XV zl;cases qo T k<;>rfl
@[go_sem] theorem qyx {k:Key}:XV T k none=T:=(rfl)
@[go_sem] theorem qyy {k:Key} {ob:Ob}:XV T k (some ob)=zl (qx ob.2) (y7 k ob (qu T k)) T:=(rfl)
def XE(d:Nat) (k:Key) (i:Nat) (σ:Sl) (T:Mem) (ob:Option Ob):St:=
 match ob with
 |some ob=>(match ob.2[i]? with
  |some x=>⟨σ,(qF d 0 x).2.2++((k,ob.1,ob.2.set i (qF d 0 x).1)::qu T k)⟩
  |none=>⟨σ,T⟩)
 |none=>⟨σ,T⟩
def qcw(d:Nat) (k:Key) (i:Nat) (σ:Sl) (T:Mem) (ob:Ob) (x:Option V):St:=
 match x with
 |some x=>⟨σ,(qF d 0 x).2.2++((k,ob.1,ob.2.set i (qF d 0 x).1)::qu T k)⟩
 |none=>⟨σ,T⟩
def ZE(d:Nat) (v:Option V):List (Nat × Key × Nat):=
 match v with
 |some (.p k idx _)=>[(d,k,idx)]
 |_=>[]
def Qe(d:Nat) (v w:Option V):List (Nat × Key × Nat):=
 match v with
 |some (.p k idx _)=>[(d,k,idx)]
 |some (.s k lo _)=>match w with
  |some (.v (.int _ n))=>[(d,k,lo+n.toNat)]
  |_=>[]
 |_=>[]
@[congr] theorem qry {d:Nat} {v v':Option V} (h:v=v'):ZE d v=ZE d v':=by rw [h]
@[congr] theorem qrt {d:Nat} {v v' w w':Option V} (h:v=v') (h':w=w'):Qe d v w=Qe d v' w':=by rw [h,h']
@[go_sem] theorem qrw {d r:Nat}:kr σ d r none=ZE d (qy σ r):=by
 unfold kr ZE
 cases qy σ r with
 |none=>rfl
 |some v=>cases v<;>rfl
@[go_sem] theorem qrx {d r i:Nat}:kr σ d r (some i)=Qe d (qy σ r) (qy σ i):=by
 unfold kr Qe
 cases qy σ r with
 |none=>rfl
 |some v=>cases v<;>rfl
@[go_sem] theorem qrz {d a b:Nat} {k:Key}:ZE d (some (.p k a b))=[(d,k,a)]:=(rfl)
@[go_sem] theorem qru {d a b:Nat} {k:Key} {w:Option V}:Qe d (some (.p k a b)) w=[(d,k,a)]:=(rfl)
@[go_sem] theorem qrv {d a b:Nat} {k:Key} {n:Int}:Qe d (some (.s k a b)) (some (I n))=[(d,k,a+n.toNat)]:=(rfl)
@[go_sem] theorem qv9:ja [] st=st:=(rfl)
@[go_sem] theorem qv8 {d r:Nat} {i:Option Nat} {os:List (Nat × Nat × Option Nat)}:ja ((d,r,i)::os) ⟨σ,T⟩=ja os (x7 (kr σ d r i) ⟨σ,T⟩):=(rfl)
@[go_sem] theorem qwP:x7 [] st=st:=(rfl)
@[go_sem] theorem qwO {d i:Nat} {k:Key} {r:List (Nat × Key × Nat)}:x7 ((d,k,i)::r) ⟨σ,T⟩=x7 r (Qo d k i ⟨yB d σ,wT d T⟩):=(rfl)
@[go_sem] theorem qwS {d i:Nat} {k:Key}:Qo d k i ⟨σ,T⟩=XE d k i σ T (qo T k):=by
 unfold Qo XE;simp only;cases qo T k<;>rfl
@[go_sem] theorem qwR {d i:Nat} {k:Key} {ob:Ob}:XE d k i σ T (some ob)=qcw d k i σ T ob ob.2[i]? :=(rfl)
@[go_sem] theorem qwQ {d i:Nat} {k:Key}:XE d k i σ T none=⟨σ,T⟩:=(rfl)
@[go_sem] theorem qwT {d i:Nat} {k:Key} {ob:Ob} {x:V}:qcw d k i σ T ob (some x)=⟨σ,(qF d 0 x).2.2++((k,ob.1,ob.2.set i (qF d 0 x).1)::qu T k)⟩:=(rfl)
structure Lp where
 ls:List Nat
 ks:List Key
 body:AC
def lpC(l:Lp):AC:= .loop l.ls l.ks l.body
noncomputable def lw(prog:Nat→Option AE) (l:Lp) (s:St):Option (AX × St):=yX (xw prog l.body s) fun st'=>xw prog (lpC l) st'
@[go_sem] theorem qjc {l:Lp}:xw prog (lpC l) st=lw prog l (yH l.ls l.ks st):=by
 unfold lw lpC;exact qjb
theorem qQ(l:Lp) (s:St):lw prog l s=yX (xw prog l.body s) fun st'=>lw prog l (yH l.ls l.ks st'):=by
 unfold lw
 congr 1
 funext st'
 rw [qjc];rfl
def XT(T:Mem) (k:Key) (agg:Bool) (size:Nat) (ob:Option Ob):Option (V × Mem):=
 match ob with
 |some (_,[x])=>(qN agg size x 0).bind fun y=>if x.cells.length=y.cells.length then some (y,qu T k)else none
 |_=>none
def Zw {α:Type} (r:Option (V × Mem)) (k:V→Mem→Option α):Option α:=
 match r with
 |some (x,T)=>k x T
 |none=>none
@[congr] theorem qn9 {α:Type} {r r':Option (V × Mem)} {k:V→Mem→Option α} (h:r=r'):Zw r k=Zw r' k:=by rw [h]
@[go_sem] theorem qoa {α:Type} {z:V} {k:V→Mem→Option α}:Zw (some (z,T)) k=k z T:=(rfl)
@[go_sem] theorem qyv {t:Nat}:kb ⟨σ,T⟩ (.tmp t)=qm (qy σ t) fun x=>some (x,T):=by
 simp only [kb];cases qy σ t<;>rfl
def Jj(x:V) (k:Key→Option (V × Mem)):Option (V × Mem):=
 match x with
 | .p k' 0 0=>k k'
 |_=>none
@[go_sem] theorem qxn {k':Key} {k:Key→Option (V × Mem)}:Jj (.p k' 0 0) k=k k':=(rfl)
@[go_sem] theorem qyu {t size:Nat} {agg:Bool}:kb ⟨σ,T⟩ (.cell t agg size)=qm (qy σ t) fun x=>Jj x fun k=>XT T k agg size (qo T k):=by
 simp only [kb]
 cases qy σ t with
 |none=>rfl
 |some x=>
  cases x<;>first|rfl|skip
  rename_i k idx off
  cases idx with
  |succ=>rfl
  |zero=>cases off with
   |succ=>rfl
   |zero=>
    simp only [qm,Jj,XT]
    cases qo T k with
    |none=>rfl
    |some ob=>obtain ⟨e,xs⟩:=ob;rcases xs with _|⟨x,_|⟨y,r⟩⟩<;>rfl
@[go_sem] theorem qyr {k:Key} {agg:Bool} {e size:Nat} {z:V}:XT T k agg size (some (e,[z]))=qm (qN agg size z 0) fun y=>if z.cells.length=y.cells.length then some (y,qu T k)else none:=by
 simp only [XT];cases qN agg size z 0<;>rfl
@[go_sem] theorem qyt:y8 σ T []=some ([],T):=(rfl)
@[go_sem] theorem qys {r:AR} {rs:List AR}:y8 σ T (r::rs)=Zw (kb ⟨σ,T⟩ r) fun x T'=>jv (y8 σ T' rs) fun xs T''=>some (x::xs,T''):=by
 simp only [y8]
 cases kb ⟨σ,T⟩ r with
 |none=>rfl
 |some xT=>obtain ⟨x,T'⟩:=xT;simp only [Zw];cases y8 σ T' rs<;>rfl
@[go_sem] theorem qvP {z:V}:xo [z]=z:=(rfl)
@[go_sem] theorem qvQ {z z':V} {zs:List V}:xo (z::z'::zs)= .t (z::z'::zs):=(rfl)
@[go_sem] theorem qvO:xo []= .t []:=(rfl)
attribute [go_sem] qV yg qet Option.some_beq_none Option.some_beq_some Option.none_beq_some
attribute [go_sem] Bool.true_and Bool.and_true Bool.false_and Bool.and_false Bool.not_true Bool.not_false Bool.or_true Bool.true_or Bool.or_false Bool.false_or if_true if_false
 decide_true decide_false decide_eq_true_eq ne_eq not_true_eq_false not_false_eq_true and_self and_true true_and and_false false_and beq_self_eq_true Bool.not_eq_eq_eq_not Bool.false_eq_true decide_not ite_not Bool.not_not
 eq_self Prod.mk.injEq List.contains_nil List.contains_cons Option.isNone_none Option.isNone_some
end
end Go.Vm
namespace Go.Vm
section
variable {prog:Nat→Option AE} {st:St} {σ:Sl} {T:Mem} {call:qM} {d j e lo:Nat} {k:Key} {es:List (Int × Int)} {τ:Bool} {n u:Int} {o:Option Bool} {tb:List Key} {nm:Bool}
def yF {α:Type} (x:V) (g:Int→Option α):Option α:=
 match x with
 | .v (.int .i64 n)=>g n
 |_=>none
@[go_sem] theorem qvN {α:Type} {g:Int→Option α}:yF (I n) g=g n:=(rfl)
def xU {α:Type} (r:Option (List (Int × Int))) (g:List (Int × Int)→Option α):Option α:=
 match r with
 |some es=>g es
 |none=>none
@[congr] theorem qnR {α:Type} {r r':Option (List (Int × Int))} {g:List (Int × Int)→Option α} (h:r=r'):xU r g=xU r' g:=by rw [h]
@[go_sem] theorem qnS {α:Type} {g:List (Int × Int)→Option α}:xU (some es) g=g es:=(rfl)
def qbl(ob:Option Ob):Option (List (Int × Int)):=
 match ob with
 |some (_,[.w _ es])=>some es
 |_=>none
@[go_sem] theorem qrO:qbl (some (e,[.w o es]))=some es:=(rfl)
@[go_sem] theorem qrM:z7 T (.m k)=qbl (qo T k):=(rfl)
@[go_sem] theorem qrN:z7 T (.w (some τ) es)=some es:=(rfl)
def qdE(T:Mem) (k:Key) (ob:Option Ob) (es:List (Int × Int)):Option Mem:=
 match ob with
 |some _=>some ((k,0,[.w (some true) es])::qu T k)
 |none=>none
@[go_sem] theorem qyJ {ob:Ob}:qdE T k (some ob) es=some ((k,0,[.w (some true) es])::qu T k):=(rfl)
@[go_sem] theorem qyI:xu T (.m k) es=qdE T k (qo T k) es:=(rfl)
@[go_sem] theorem qss:qk call ⟨σ,T⟩ (.mkm d)=some ⟨(d,.m (d,0))::yB d σ,((d,0),0,[.w (some true) []])::wT d T⟩:=(rfl)
@[go_sem] theorem qsu {m k v:AO}:qk call ⟨σ,T⟩ (.mset m k v)=qm (ev σ m) fun m=>qm (ev σ k) fun k=>qm (ev σ v) fun v=>yF k fun k=>yF v fun v=>xU (z7 T m) fun es=>ko (xu T m (zF k v es)) fun T'=>some ⟨σ,T'⟩:=by
 simp only [qk,qh]
 cases ev σ m with
 |none=>rfl
 |some m=>
 cases ev σ k with
 |none=>rfl
 |some k=>
 cases ev σ v with
 |none=>simp only [qm]
 |some v=>
 simp only [qm]
 split
 ·rename_i h1 h2 h3
  simp only [Option.some.injEq]at h1 h2 h3;subst h1;subst h2;subst h3
  simp only [yF]
  cases z7 T m with
  |none=>rfl
  |some es=>simp only [xU];cases xu T m _<;>rfl
 ·rename_i h
  unfold yF
  split
  ·split
   ·exact absurd rfl (h _ _ _ rfl rfl)
   ·rfl
  ·rfl
@[go_sem] theorem qsq {m k:AO}:qk call ⟨σ,T⟩ (.mget d m k)=qm (ev σ m) fun m=>qm (ev σ k) fun k=>yF k fun k=>xU (z7 T m) fun es=>some ⟨(d,I ((q7 k es).getD 0))::σ,T⟩:=by
 simp only [qk,qh]
 cases ev σ m with
 |none=>rfl
 |some m=>
 cases ev σ k with
 |none=>rfl
 |some k=>
 simp only [qm]
 split
 ·rename_i h1 h2
  simp only [Option.some.injEq]at h1 h2;subst h1;subst h2
  simp only [yF]
  cases z7 T m<;>rfl
 ·rename_i h
  unfold yF
  split
  ·exact absurd rfl (h _ _ rfl)
  ·rfl
@[go_sem] theorem qso {m k:AO}:qk call ⟨σ,T⟩ (.men d m k)=qm (ev σ m) fun m=>qm (ev σ k) fun k=>yF k fun k=>xU (z7 T m) fun es=>ko (xu T m (zF k ((q7 k es).getD 0) es)) fun T'=>some ⟨(d,.t [I ((q7 k es).getD 0),I (qY k es)])::σ,T'⟩:=by
 simp only [qk,qh]
 cases ev σ m with
 |none=>rfl
 |some m=>
 cases ev σ k with
 |none=>rfl
 |some k=>
 simp only [qm]
 split
 ·rename_i h1 h2
  simp only [Option.some.injEq]at h1 h2;subst h1;subst h2
  simp only [yF]
  cases z7 T m with
  |none=>rfl
  |some es=>simp only [xU];cases xu T m _<;>rfl
 ·rename_i h
  unfold yF
  split
  ·exact absurd rfl (h _ _ rfl)
  ·rfl
def ZI {α:Type} (i:Option Nat) (g:Nat→Option α):Option α:=
 match i with
 |some i=>g i
 |none=>none
@[congr] theorem qsN {α:Type} {i i':Option Nat} {g:Nat→Option α} (h:i=i'):ZI i g=ZI i' g:=by rw [h]
@[go_sem] theorem qsO {α:Type} {i:Nat} {g:Nat→Option α}:ZI (some i) g=g i:=(rfl)
@[go_sem] theorem qsp {m k v:AO}:qk call ⟨σ,T⟩ (.mes m k v)=qm (ev σ m) fun m=>qm (ev σ k) fun k=>qm (ev σ v) fun v=>yF k fun s=>yF v fun v=>xU (z7 T m) fun es=>ZI (zw s es.length) fun i=>ko (xu T m (es.modify i fun e=>(e.1,v))) fun T'=>some ⟨σ,T'⟩:=by
 simp only [qk,qh]
 cases ev σ m with
 |none=>rfl
 |some m=>
 cases ev σ k with
 |none=>rfl
 |some k=>
 cases ev σ v with
 |none=>simp only [qm]
 |some v=>
 simp only [qm]
 split
 ·rename_i h1 h2 h3
  simp only [Option.some.injEq]at h1 h2 h3;subst h1;subst h2;subst h3
  simp only [yF]
  cases z7 T m with
  |none=>rfl
  |some es=>
   simp only [xU]
   cases zw _ es.length with
   |none=>rfl
   |some i=>simp only [ZI];cases xu T m _<;>rfl
 ·rename_i h
  unfold yF
  split
  ·split
   ·exact absurd rfl (h _ _ _ rfl rfl)
   ·rfl
  ·rfl
theorem qb2(k v w:Int): ∀ (es:List (Int × Int)),(zF k w es).modify (qY k es) (fun e=>(e.1,v))=zF k v es
 |[]=>rfl
 |(a,b)::r=>by
  simp only [zF,qY]
  split
  ·rfl
  ·simp only [List.modify_succ_cons,qb2 k v w r]
theorem qcD(k w:Int): ∀ (es:List (Int × Int)),qY k es < (zF k w es).length
 |[]=>by simp [zF,qY]
 |(a,b)::r=>by
  simp only [zF,qY]
  split
  ·simp
  ·have:=qcD k w r;simp only [List.length_cons];omega
theorem qfg(k w:Int) (es:List (Int × Int)):zw (qY k es:Int) (zF k w es).length=some (qY k es):=by
 have:=qcD k w es
 unfold zw
 rw [if_pos ⟨by omega,by omega⟩];simp
attribute [go_sem] qb2 qfg
@[go_sem] theorem qmQ:qh call ⟨σ,T⟩ (.mkm d)=qk call ⟨σ,T⟩ (.mkm d):=(rfl)
@[go_sem] theorem qmS {m k v:AO}:qh call ⟨σ,T⟩ (.mset m k v)=qk call ⟨σ,T⟩ (.mset m k v):=(rfl)
@[go_sem] theorem qmO {m k:AO}:qh call ⟨σ,T⟩ (.mget d m k)=qk call ⟨σ,T⟩ (.mget d m k):=(rfl)
@[go_sem] theorem qmM {m k:AO}:qh call ⟨σ,T⟩ (.men d m k)=qk call ⟨σ,T⟩ (.men d m k):=(rfl)
@[go_sem] theorem qmN {m k v:AO}:qh call ⟨σ,T⟩ (.mes m k v)=qk call ⟨σ,T⟩ (.mes m k v):=(rfl)
@[go_sem] theorem qo7:(V.m k).cells=[V.m k]:=(rfl)
@[go_sem] theorem qpf:(V.w o es).cells=[V.w o es]:=(rfl)
@[go_sem] theorem qv1:(V.m k).one=true:=(rfl)
@[go_sem] theorem qv7:(V.w o es).one=true:=(rfl)
@[go_sem] theorem qs5:(V.m k).isA=false:=(rfl)
@[go_sem] theorem qs9:(V.w o es).isA=false:=(rfl)
@[go_sem] theorem qwI:q6 d j (.m k)=(.m k,j,[]):=(rfl)
@[go_sem] theorem qwM:q6 d j (.w none es)=(.m (d,j),j+1,[((d,j),0,[.w (some true) es])]):=(rfl)
@[go_sem] theorem qwN:q6 d j (.w (some τ) es)=(.w (some τ) es,j,[]):=(rfl)
def mK(T':Mem) (ob:Option Ob) (T:Mem):V × Mem:=
 match ob with
 |some (_,[.w _ es])=>(.w none es,T')
 |_=>(.d,T)
@[go_sem] theorem qt7 {T':Mem}:mK T' (some (e,[.w o es])) T=(.w none es,T'):=(rfl)
@[go_sem] theorem qpT {m:Nat}:qt (m+1) T (.m k)=mK (qu T k) (qo T k) T:=(rfl)
@[go_sem] theorem qp0 {m:Nat}:qt (m+1) T (.w o es)=(.w o es,T):=(rfl)
@[go_sem] theorem quO {i:Nat}:qI d i nm (.m k)=if NB≤k.1 then .d else .m k:=(rfl)
@[go_sem] theorem quX {i:Nat}:qI d i nm (.w o es)= .w o es:=(rfl)
def mOf(o:Option Key):V:=match o with|some k=> .m k|none=> .d
@[congr] theorem qt8 {o o':Option Key} (h:o=o'):mOf o=mOf o':=by rw [h]
@[go_sem] theorem qt9:mOf (some k)= .m k:=(rfl)
@[go_sem] theorem qxG:qL tb (.m k)=mOf (yr tb k):=by simp only [qL,mOf];cases yr tb k<;>rfl
@[go_sem] theorem qxO:qL tb (.w o es)= .w o es:=(rfl)
@[go_sem] theorem qtU {n:Nat}:qN false n (.m k) 0=some (.m k):=(rfl)
@[go_sem] theorem qtY {n:Nat}:qN false n (.w o es) 0=some (.w o es):=(rfl)
end
end Go.Vm
namespace Go.Vm
abbrev Str:=List UInt8
theorem Qd {α:Type} {l:List α} {i:Nat} {x:α} (h:l[i]? =some x):l.drop i=x::l.drop (i+1):=by
 obtain ⟨hl,rfl⟩:=List.getElem?_eq_some_iff.1 h
 exact List.drop_eq_getElem_cons hl
theorem Qj {α:Type} {l:List α} {i:Nat} (h:i < l.length): ∃ x,l[i]? =some x:=⟨_,List.getElem?_eq_getElem h⟩
def RL {α:Type} (R:α→V→Prop):List α→List V→Prop
 |[],vs=>vs=[]
 |t::ts,vs=> ∃ v vs',vs=v::vs'∧R t v∧RL R ts vs'
section
variable {α:Type} {R R':α→V→Prop}
theorem kQ: ∀ {ts:List α} {vs:List V},RL R ts vs→vs.length=ts.length
 |[],vs,h=>by simp only [RL]at h;simp [h]
 |t::ts,vs,h=>by
  simp only [RL]at h
  obtain ⟨v,vs',rfl,-,h⟩:=h
  simp [kQ h]
theorem Km: ∀ {ts:List α} {vs:List V} {i:Nat} {t:α},RL R ts vs→ts[i]? =some t→ ∃ v,vs[i]? =some v∧R t v
 |[],vs,i,t,h,ht=>by simp at ht
 |t'::ts,vs,i,t,h,ht=>by
  simp only [RL]at h
  obtain ⟨v,vs',rfl,h1,h2⟩:=h
  cases i with
  |zero=>simp at ht;subst ht;exact ⟨v,rfl,h1⟩
  |succ i=>simpa using Km h2 (by simpa using ht)
theorem qao {f:α→V} (h: ∀ t,R t (f t)): ∀ (ts:List α),RL R ts (ts.map f)
 |[]=>rfl
 |t::ts=>by simp only [RL,List.map_cons];exact ⟨_,_,rfl,h t,qao h ts⟩
end
def RI(n:Int) (v:V):Prop:=v=I n
def RS(s:Str) (v:V):Prop:=v=S s
mutual
theorem qbR(d:Nat): ∀ (x:V),clB x=true→qE d x=x
 | .v _,_| .q ..,_| .i ..,_| .o ..,_| .b _,_| .n _,_| .w ..,_=>rfl
 | .f fn first caps,h=>by
   simp only [clB,Bool.and_eq_true]at h
   simp only [qE,Xq d first h.1,Xq d caps h.2]
 | .p ..,h| .s ..,h| .a _,h| .t _,h| .m _,h| .d,h=>by simp [clB]at h
theorem Xq(d:Nat): ∀ (xs:List V),yl xs=true→qz d xs=xs
 |[],_=>rfl
 |x::xs,h=>by
  simp only [yl,Bool.and_eq_true]at h
  simp only [qz,qbR d x h.1,Xq d xs h.2]
end
theorem KZ(d:Nat) (x:V) (h:clE x=true):qE d x=x:=by
 cases x
 case a cs=>simp only [clE]at h;simp only [qE,Xq d cs h]
 all_goals exact qbR d _ h
theorem KY(d:Nat): ∀ (xs:List V),qx xs=true→qz d xs=xs
 |[],_=>rfl
 |x::xs,h=>by
  simp only [qx,Bool.and_eq_true]at h
  simp only [qz,KZ d x h.1,KY d xs h.2]
theorem qaY: ∀ (xs ys:List V),qx (xs++ys)=(qx xs&&qx ys)
 |[],ys=>by simp [qx]
 |x::xs,ys=>by simp only [List.cons_append,qx,qaY xs ys,Bool.and_assoc]
theorem qbL(d:Nat): ∀ (xs ys:List V),qz d (xs++ys)=qz d xs++qz d ys
 |[],ys=>rfl
 |x::xs,ys=>by simp only [List.cons_append,qz,qbL d xs ys]
theorem qa7(τ:Bool): ∀ (xs ys:List V),qO τ (xs++ys)=qO τ xs++qO τ ys
 |[],ys=>rfl
 |x::xs,ys=>by simp only [List.cons_append,qO,qa7 τ xs ys]
theorem ZA(n:Nat) (z:V) (h:clE z=true):qx (List.replicate n z)=true:=by
 induction n with
 |zero=>rfl
 |succ n ih=>simp only [List.replicate_succ,qx,h,ih,Bool.and_self]
theorem KX(d n:Nat) (z:V) (h:clE z=true):qz d (List.replicate n z)=List.replicate n z:=KY d _ (ZA n z h)
section
variable {α:Type} {f:α→V}
theorem xX(h: ∀ x,clE (f x)=true): ∀ (l:List α),qx (l.map f)=true
 |[]=>rfl
 |x::l=>by simp only [List.map_cons,qx,h x,xX h l,Bool.and_self]
theorem kZ(h: ∀ x,clE (f x)=true) (d:Nat) (l:List α):qz d (l.map f)=l.map f:=KY d _ (xX h l)
theorem kq {g:α→V} {τ:Bool} (h: ∀ x,qP τ (f x)=g x): ∀ (l:List α),qO τ (l.map f)=l.map g
 |[]=>rfl
 |x::l=>by simp only [List.map_cons,qO,h x,kq h l]
theorem yE(h: ∀ x,qR (f x)=true): ∀ (l:List α),qZ (l.map f)=true
 |[]=>rfl
 |x::l=>by simp only [List.map_cons,qZ,h x,yE h l,Bool.and_self]
theorem qdm(k:Key) (ob:Ob): ∀ (xs ys:List V),qx xs=true→zm k ob (xs++ys)=(zm k ob ys).map (xs++ ·)
 |[],ys,_=>by simp
 |x::xs,ys,h=>by
  simp only [qx,Bool.and_eq_true]at h
  have hC: ∀ (c:V),clB c=true→zO k ob c=none:=by intro c hc;cases c<;>first|rfl|(simp [clB]at hc)
  have hCs: ∀ (cs:List V),yl cs=true→yI k ob cs=none:=by
   intro cs
   induction cs with
   |nil=>intro _;rfl
   |cons c cs ih=>
    intro h
    simp only [yl,Bool.and_eq_true]at h
    simp only [yI,hC c h.1,ih h.2,Option.map_none]
  have hE:yJ k ob x=none:=by
   cases x
   case a cs=>simp only [clE]at h;simp only [yJ,hCs cs h.1,Option.map_none]
   all_goals exact hC _ h.1
  simp only [List.cons_append,zm,hE,qdm k ob xs ys h.2]
  cases zm k ob ys<;>rfl
end
@[go_sem] theorem qaW(l:List Int):qx (l.map I)=true:=xX (fun _=>rfl) l
@[go_sem] theorem qaX(l:List Str):qx (l.map S)=true:=xX (fun _=>rfl) l
@[go_sem] theorem qtg(d:Nat) (l:List Int):qz d (l.map I)=l.map I:=kZ (fun _=>rfl) d l
@[go_sem] theorem qth(d:Nat) (l:List Str):qz d (l.map S)=l.map S:=kZ (fun _=>rfl) d l
@[go_sem] theorem qqa(τ:Bool) (l:List Int):qO τ (l.map I)=l.map I:=kq (fun _=>rfl) l
@[go_sem] theorem qqb(τ:Bool) (l:List Str):qO τ (l.map S)=l.map S:=kq (fun _=>rfl) l
@[go_sem] theorem qvv(l:List Int):qZ (l.map I)=true:=yE (fun _=>rfl) l
@[go_sem] theorem qvw(l:List Str):qZ (l.map S)=true:=yE (fun _=>rfl) l
attribute [go_sem] qaY qbL qa7 ZA KX
@[go_sem] theorem qeC(n:Nat) (l:Str):qx (List.replicate n (S l))=true:=ZA n _ rfl
@[go_sem] theorem qpl(n:Nat) (i:Int):qx (List.replicate n (I i))=true:=ZA n _ rfl
@[go_sem] theorem qtp(d n:Nat) (l:Str):qz d (List.replicate n (S l))=List.replicate n (S l):=KX d n _ rfl
@[go_sem] theorem qto(d n:Nat) (i:Int):qz d (List.replicate n (I i))=List.replicate n (I i):=KX d n _ rfl
attribute [go_sem] List.length_map List.length_replicate Nat.zero_add Nat.add_zero Nat.le_refl List.take_length
@[go_sem] theorem quk {α:Type} {f:α→V} {l:List α} {x:α}:l.map f++[f x]=(l++[x]).map f:=by simp
@[go_sem] theorem qyU {α:Type} {f:α→V} {l:List α} {x:α}:((l++[x]).map f).take (l.length+1)=(l++[x]).map f:=by
 apply List.take_of_length_le;simp
@[go_sem] theorem qyT {α:Type} {f:α→V} {l:List α}:(l.map f).take l.length=l.map f:=by
 rw [← List.length_map (f:=f),List.take_length]
theorem jd(k:Key) (ob:Ob) (xs:List V) (h:qx xs=true):zm k ob xs=none:=by
 have:=qdm k ob xs [] h
 rw [List.append_nil]at this
 rw [this];rfl
@[go_sem] theorem qua(m:Nat) (T:Mem) (l:List Int):qv (zg m) T (l.map I)=(l.map I,T):=xD m T _ (qaW l)
@[go_sem] theorem qub(m:Nat) (T:Mem) (l:List Str):qv (zg m) T (l.map S)=(l.map S,T):=xD m T _ (qaX l)
@[go_sem] theorem qui(m n:Nat) (T:Mem) (z:V) (h:clE z=true):qv (zg m) T (List.replicate n z)=(List.replicate n z,T):=xD m T _ (ZA n z h)
@[go_sem] theorem quj(m n:Nat) (T:Mem) (l:Str):qv (zg m) T (List.replicate n (S l))=(List.replicate n (S l),T):=xD m T _ (qeC n l)
@[go_sem] theorem qx6(k:Key) (ob:Ob) (l:List Int):zm k ob (l.map I)=none:=jd k ob _ (qaW l)
@[go_sem] theorem qx7(k:Key) (ob:Ob) (l:List Str):zm k ob (l.map S)=none:=jd k ob _ (qaX l)
section lit
variable {k:Key} {lo len e:Nat} {xs:List V}
theorem qbJ {i:Nat} (h:i < len) (hl:lo+len≤xs.length):ixO k lo len e (i:Int) (some (e,xs))=some (.p k (lo+i) 0):=by
 simp only [ixO,zw]
 rw [if_pos ⟨trivial,hl⟩,if_pos ⟨by omega,by omega⟩]
 simp
@[go_sem] theorem qtc:ixO k lo len e 0 (some (e,xs))=if 1≤len∧lo+len≤xs.length then some (.p k (lo+0) 0)else none:=by
 split
 ·rename_i h;exact qbJ (i:=0) h.1 h.2
 ·rename_i h
  simp only [ixO,zw]
  split
  ·rename_i h2;rw [if_neg (by omega)];rfl
  ·rfl
@[go_sem] theorem qtd:ixO k lo len e 1 (some (e,xs))=if 2≤len∧lo+len≤xs.length then some (.p k (lo+1) 0)else none:=by
 split
 ·rename_i h;exact qbJ (i:=1) h.1 h.2
 ·rename_i h
  simp only [ixO,zw]
  split
  ·rename_i h2;rw [if_neg (by omega)];rfl
  ·rfl
@[go_sem] theorem qm4 {T:Mem} {τ:Bool} {x:V}:xi T e (.i τ (x::xs)) 0=if x.cells.length=e then some (.q τ (x::xs) 0 0)else none:=by
 have h0:zw 0 (x::xs).length=some 0:=by
  unfold zw;rw [if_pos ⟨by omega,by simp only [List.length_cons];omega⟩];rfl
 simp only [xi,h0];rfl
@[go_sem] theorem qm5 {T:Mem} {τ:Bool} {x y:V}:xi T e (.i τ (x::y::xs)) 1=if y.cells.length=e then some (.q τ (x::y::xs) 1 0)else none:=by
 have h0:zw 1 (x::y::xs).length=some 1:=by
  unfold zw;rw [if_pos ⟨by omega,by simp only [List.length_cons];omega⟩];rfl
 simp only [xi,h0];rfl
end lit
section rep
variable {k:Key} {ob:Ob} {k':Key} {e:Nat} {xs:List V} {T:Mem}
def Qu(k:Key) (ob:Ob) (r:Option (List V)) (k':Key) (e:Nat) (xs:List V) (T:Mem):Mem:=
 match r with
 |some xs'=>(k',e,xs')::T
 |none=>(k',e,xs)::y7 k ob T
@[congr] theorem qyg {r r':Option (List V)} (h:r=r'):Qu k ob r k' e xs T=Qu k ob r' k' e xs T:=by rw [h]
@[go_sem] theorem qyq:y7 k ob []=[]:=(rfl)
@[go_sem] theorem qyp:y7 k ob ((k',e,xs)::T)=Qu k ob (zm k ob xs) k' e xs T:=by
 simp only [y7,Qu];cases zm k ob xs<;>rfl
@[go_sem] theorem qyi {xs':List V}:Qu k ob (some xs') k' e xs T=(k',e,xs')::T:=(rfl)
@[go_sem] theorem qyh:Qu k ob none k' e xs T=(k',e,xs)::y7 k ob T:=(rfl)
def Qw(k:Key) (ob:Ob) (r:Option V) (x:V) (xs:List V):Option (List V):=
 match r with
 |some x'=>some (x'::xs)
 |none=>zB (zm k ob xs) fun ys=>some (x::ys)
def Qv(k:Key) (ob:Ob) (r:Option V) (x:V) (xs:List V):Option (List V):=
 match r with
 |some x'=>some (x'::xs)
 |none=>zB (yI k ob xs) fun ys=>some (x::ys)
@[congr] theorem qym {r r':Option V} {x:V} (h:r=r'):Qw k ob r x xs=Qw k ob r' x xs:=by rw [h]
@[congr] theorem qyj {r r':Option V} {x:V} (h:r=r'):Qv k ob r x xs=Qv k ob r' x xs:=by rw [h]
@[go_sem] theorem qyo {x x':V}:Qw k ob (some x') x xs=some (x'::xs):=(rfl)
@[go_sem] theorem qyn {x:V}:Qw k ob none x xs=zB (zm k ob xs) fun ys=>some (x::ys):=(rfl)
@[go_sem] theorem qyl {x x':V}:Qv k ob (some x') x xs=some (x'::xs):=(rfl)
@[go_sem] theorem qyk {x:V}:Qv k ob none x xs=zB (yI k ob xs) fun ys=>some (x::ys):=(rfl)
@[go_sem] theorem qyf:zm k ob []=none:=(rfl)
@[go_sem] theorem qx8 {x:V}:zm k ob (x::xs)=Qw k ob (yJ k ob x) x xs:=by
 simp only [zm,Qw]
 cases yJ k ob x with
 |some y=>rfl
 |none=>simp only;cases zm k ob xs<;>rfl
@[go_sem] theorem qxZ:yI k ob []=none:=(rfl)
@[go_sem] theorem qxY {x:V}:yI k ob (x::xs)=Qv k ob (zO k ob x) x xs:=by
 simp only [yI,Qv]
 cases zO k ob x with
 |some y=>rfl
 |none=>simp only;cases yI k ob xs<;>rfl
@[go_sem] theorem qx3:yJ k ob (.a xs)=zB (yI k ob xs) fun ys=>some (.a ys):=by
 simp only [yJ];cases yI k ob xs<;>rfl
@[go_sem] theorem qx5 {lo len:Nat}:yJ k ob (.s k' lo len)=zO k ob (.s k' lo len):=(rfl)
@[go_sem] theorem qx4 {lo len:Nat}:yJ k ob (.p k' lo len)=zO k ob (.p k' lo len):=(rfl)
@[go_sem] theorem qxX {lo len:Nat} {zs:List V}:zO k (e,zs) (.s k' lo len)=if k'=k∧lo=0∧len=zs.length then some (.o e zs)else none:=(rfl)
@[go_sem] theorem qxW {i o:Nat} {z:V}:zO k (e,[z]) (.p k' i o)=if k'=k∧i=0∧o=0 then some (.b z)else none:=(rfl)
@[go_sem] theorem qxQ {n:Int}:zO k ob (I n)=none:=(rfl)
@[go_sem] theorem qxR {l:Str}:zO k ob (S l)=none:=(rfl)
@[go_sem] theorem qxP {b:Bool}:zO k ob (B b)=none:=(rfl)
@[go_sem] theorem qxS {n:Int}:zO k ob (U8 n)=none:=(rfl)
@[go_sem] theorem qxT {τ:Bool}:zO k ob (.i τ xs)=none:=(rfl)
@[go_sem] theorem qxV:zO k ob (.o e xs)=none:=(rfl)
@[go_sem] theorem qxU:zO k ob (.n e)=none:=(rfl)
@[go_sem] theorem qx1 {n:Int}:yJ k ob (I n)=none:=(rfl)
@[go_sem] theorem qx2 {l:Str}:yJ k ob (S l)=none:=(rfl)
@[go_sem] theorem qx0 {b:Bool}:yJ k ob (B b)=none:=(rfl)
end rep
inductive Tm where
 |mk (kind:Int) (name:Str) (num:Int) (kids:List Tm)
def Tm.kind:Tm→Int| .mk k _ _ _=>k
def Tm.name:Tm→Str| .mk _ s _ _=>s
def Tm.num:Tm→Int| .mk _ _ n _=>n
def Tm.kids:Tm→List Tm| .mk _ _ _ ks=>ks
noncomputable instance:DecidableEq Tm:=fun a b=>Classical.propDecidable (a=b)
section
variable {k n:Int} {s:Str} {ks:List Tm}
@[go_sem] theorem qmt:(Tm.mk k s n ks).kind=k:=(rfl)
@[go_sem] theorem qmu:(Tm.mk k s n ks).name=s:=(rfl)
@[go_sem] theorem qmv:(Tm.mk k s n ks).num=n:=(rfl)
@[go_sem] theorem qms:(Tm.mk k s n ks).kids=ks:=(rfl)
end
mutual
def BT:Tm→V→Prop
 | .mk k s n ks,v=> ∃ τ vs,v= .a [I k,S s,I n,.i τ vs]∧BTs ks vs
def BTs:List Tm→List V→Prop
 |[],vs=>vs=[]
 |t::ts,vs=> ∃ v vs',vs=v::vs'∧BT t v∧BTs ts vs'
end
mutual
def oT:Tm→V
 | .mk k s n ks=> .a [I k,S s,I n,.o 4 (oTs ks)]
def oTs:List Tm→List V
 |[]=>[]
 |t::ts=>oT t::oTs ts
end
mutual
def iT(τ:Bool):Tm→V
 | .mk k s n ks=> .a [I k,S s,I n,.i τ (iTs τ ks)]
def iTs(τ:Bool):List Tm→List V
 |[]=>[]
 |t::ts=>iT τ t::iTs τ ts
end
theorem qcp: ∀ (ts:List Tm),oTs ts=ts.map oT
 |[]=>rfl
 |t::ts=>by simp only [oTs,List.map_cons,qcp ts]
theorem qbC(τ:Bool): ∀ (ts:List Tm),iTs τ ts=ts.map (iT τ)
 |[]=>rfl
 |t::ts=>by simp only [iTs,List.map_cons,qbC τ ts]
theorem Xx(t:Tm):oT t= .a [I t.kind,S t.name,I t.num,.o 4 (t.kids.map oT)]:=by cases t;simp only [oT,qcp];rfl
theorem kw(τ:Bool) (t:Tm):iT τ t= .a [I t.kind,S t.name,I t.num,.i τ (t.kids.map (iT τ))]:=by cases t;simp only [iT,qbC];rfl
mutual
theorem Kz(τ:Bool): ∀ (t:Tm),qP τ (oT t)=iT τ t
 | .mk k s n ks=>by simp only [oT,iT,qP,qO,qeK,qeL,qa8 τ ks]
theorem qa8(τ:Bool): ∀ (ts:List Tm),qO τ (oTs ts)=iTs τ ts
 |[]=>rfl
 |t::ts=>by simp only [oTs,iTs,qO,Kz τ t,qa8 τ ts]
end
mutual
theorem K8: ∀ (t:Tm),qR (oT t)=true
 | .mk k s n ks=>by simp only [oT,qR,qZ,qcc,qcd,qcb ks,Bool.and_self]
theorem qcb: ∀ (ts:List Tm),qZ (oTs ts)=true
 |[]=>rfl
 |t::ts=>by simp only [oTs,qZ,K8 t,qcb ts,Bool.and_self]
end
mutual
theorem K7: ∀ (t:Tm),qR (iT false t)=true
 | .mk k s n ks=>by simp only [iT,qR,qZ,qcc,qcd,qca ks,Bool.and_self,Bool.not_false]
theorem qca: ∀ (ts:List Tm),qZ (iTs false ts)=true
 |[]=>rfl
 |t::ts=>by simp only [iTs,qZ,K7 t,qca ts,Bool.and_self]
end
theorem Xg(t:Tm):clE (oT t)=true:=by rw [Xx];rfl
theorem qeB(τ:Bool) (t:Tm):clE (iT τ t)=true:=by rw [kw];rfl
@[go_sem] theorem qzW(τ:Bool) (t:Tm):qS (iT τ t)=true:=by rw [kw];rfl
@[go_sem] theorem qp6(m:Nat) (T:Mem) (τ:Bool) (t:Tm):qt (m+2) T (iT τ t)=(iT τ t,T):=by rw [kw];rfl
@[go_sem] theorem qqq(τ τ':Bool) (t:Tm):qP τ (iT τ' t)=iT τ' t:=by rw [kw];rfl
@[go_sem] theorem qtD(d:Nat) (τ:Bool) (t:Tm):qE d (iT τ t)=iT τ t:=KZ d _ (by rw [kw];rfl)
@[go_sem] theorem qqT(τ:Bool) (t:Tm):z6 (iT τ t)=[]:=by rw [kw];rfl
@[go_sem] theorem qs4(τ:Bool) (t:Tm):(iT τ t).isA=true:=by rw [kw];rfl
@[go_sem] theorem qo6(τ:Bool) (t:Tm):(iT τ t).cells=[I t.kind,S t.name,I t.num,.i τ (t.kids.map (iT τ))]:=by rw [kw];rfl
@[go_sem] theorem qt4(τ:Bool) (t:Tm):qN true 4 (iT τ t) 0=some (iT τ t):=by rw [kw];rfl
attribute [go_sem] Kz K8 K7 Xg qeB
@[go_sem] theorem qqg(τ:Bool) (ts:List Tm):qO τ (ts.map oT)=ts.map (iT τ):=kq (Kz τ) ts
@[go_sem] theorem qvC(ts:List Tm):qZ (ts.map oT)=true:=yE K8 ts
@[go_sem] theorem qvD(ts:List Tm):qZ (ts.map (iT false))=true:=yE K7 ts
@[go_sem] theorem qa4(ts:List Tm):qx (ts.map oT)=true:=xX Xg ts
@[go_sem] theorem qtn(d:Nat) (ts:List Tm):qz d (ts.map oT)=ts.map oT:=kZ Xg d ts
@[go_sem] theorem quh(m:Nat) (T:Mem) (l:List Tm):qv (zg m) T (l.map oT)=(l.map oT,T):=xD m T _ (qa4 l)
@[go_sem] theorem qye(k:Key) (ob:Ob) (l:List Tm):zm k ob (l.map oT)=none:=jd k ob _ (qa4 l)
@[go_sem] theorem qtw(d:Nat) (t:Tm):qE d (oT t)=oT t:=KZ d _ (Xg t)
@[go_sem] theorem qvR(t:Tm):ya (oT t).cells=true:=by rw [Xx];rfl
@[go_sem] theorem qpa(t:Tm):(oT t).cells.length=4:=by rw [Xx];rfl
def Lm:Nat:=16777216
def inI(n:Int):Prop:= -9223372036854775808≤n∧n < 9223372036854775808
mutual
def WT:Tm→Prop
 | .mk k s n ks=>inI k∧s.length≤Lm∧inI n∧ks.length≤Lm∧WTs ks
def WTs:List Tm→Prop
 |[]=>True
 |t::ts=>WT t∧WTs ts
end
mutual
def nT:Tm→Nat
 | .mk _ _ _ ks=>nTs ks+1
def nTs:List Tm→Nat
 |[]=>0
 |t::ts=>nT t+nTs ts
end
theorem qb4(t:Tm):1≤nT t:=by cases t;simp only [nT];omega
def wTm(t:Tm):Prop:=WT t∧nT t≤Lm
end Go.Vm
namespace Go.Vm
section
variable {α:Type} {f:α→V} {z x:V}
theorem qez(xs:List V) (y:V) (zs:List V) (i:Nat) (h:xs.length=i):(xs++y::zs)[i]? =some y:=by
 subst h;simp
theorem qeA(xs:List V) (y y':V) (zs:List V) (i:Nat) (h:xs.length=i):(xs++y::zs).set i y'=xs++y'::zs:=by
 subst h;simp
end
end Go.Vm
namespace Go.Vm
theorem qe5 {β:Type} (ts:List β) (P:Nat→List β→Prop) (hlim:ts.length < 2^62) (h0:P ts.length [])
 (hs: ∀ i t r,ts[i]? =some t→i < ts.length→(i:Int) < ts.length→w64 ((i:Int)+1)=((i+1:Nat):Int)→i+(r.length+1)=ts.length→t ∈ ts→(∀ u ∈ r,u ∈ ts)→P (i+1) r→P i (t::r)):P 0 ts:=by
 have key: ∀ m i,i+m=ts.length→P i (ts.drop i):=by
  intro m
  induction m with
  |zero=>
   intro i hi
   obtain rfl:i=ts.length:=by omega
   rw [List.drop_length];exact h0
  |succ m ih=>
   intro i hi
   obtain ⟨t,ht⟩:=Qj (l:=ts) (i:=i) (by omega)
   rw [Qd ht]
   refine hs i t _ ht (by omega) (by omega) (by rw [zA]<;>omega) (by rw [List.length_drop];omega) (List.mem_of_getElem? ht) (fun u hu=>List.mem_of_mem_drop hu) (ih (i+1) (by omega))
 have:=key ts.length 0 (by omega)
 simpa using this
theorem qiE(l:List Tm) (t:Tm):l.map oT++[.a [I t.kind,S t.name,I t.num,.o 4 (t.kids.map oT)]]=(l++[t]).map oT:=by
 rw [List.map_append,List.map_cons,List.map_nil,Xx]
theorem qgz(a:Int):(a < a)=False:=eq_false (Int.lt_irrefl a)
attribute [go_sem] qiE qgz Int.natCast_zero
end Go.Vm
set_option maxRecDepth 100000
namespace Go.Vm
def Zc(f e:Nat):AC:=
       (.seq
        (.seq
         (.reg [.mv 11 (.t 5),
          .mv 12 (.t 0),
          .len 13 (.t 12),
          .bin 14 .lss (.t 11) (.t 13)])
        (.keep [0,1,5,14]
         (.cond (.t 14)
          .skip
          (.keep []
           (.exit 0)))))
       (.keep [0,1,5]
        (.seq
         (.block 1
          (.seq
           (.dreg [⟨0,[]⟩,⟨0,[]⟩,⟨0,[(0,0),(0,1),(0,2),(0,3),(100000,0),(100000,1),(100000,2),(100000,3),(100000,4),(100000,5)]⟩,⟨0,[(0,0),(0,1),(0,2),(0,3),(100000,0),(100000,1),(100000,2),(100000,3),(100000,4),(100000,5)]⟩,⟨0,[]⟩,⟨0,[]⟩,⟨0,[(1,0),(1,1),(1,2),(1,3),(100000,0),(100000,1),(100000,2),(100000,3),(100000,4),(100000,5)]⟩,⟨0,[(1,0),(1,1),(1,2),(1,3),(100000,0),(100000,1),(100000,2),(100000,3),(100000,4),(100000,5)]⟩,⟨2,[(0,0),(0,1),(0,2),(0,3),(1,0),(1,1),(1,2),(1,3),(20,0),(24,0),(100000,0),(100000,1),(100000,2),(100000,3),(100000,4),(100000,5)]⟩,⟨0,[]⟩]
            [.mv 17 (.t 0),
             .mv 18 (.t 5),
             .ia 19 e (.t 17) (.t 18),
             .ldq 20 true e (.t 19),
             .mv 21 (.t 1),
             .mv 22 (.t 5),
             .ia 23 e (.t 21) (.t 22),
             .ldq 24 true e (.t 23),
             .call (some 25) (.c (Fc f)) [(.t 20),(.t 24)] (.ro true),
             .un 26 .not (.t 25)])
          (.keep [0,1,5,26]
           (.cond (.t 26)
            (.seq
             (.reg [.mv 4 (.c (B false))])
            (.keep [4]
             .ret))
            .skip))))
        (.keep [0,1,5]
         (.reg [.mv 15 (.t 5),
          .bin 16 .add (.t 15) (.c (I 1)),
          .mv 5 (.t 16)])))))
def j0(f e:Nat):Lp:=⟨[0,1,5],[(2,0)],Zc f e⟩
@[go_sem] theorem qk6 {f e:Nat}:(j0 f e).ls=[0,1,5]:=rfl
@[go_sem] theorem qk5 {f e:Nat}:(j0 f e).ks=[(2,0)]:=rfl
@[go_sem] theorem qk4 {f e:Nat}:(j0 f e).body=Zc f e:=rfl
def YN(f e:Nat):AF where
 nargs:=2
 ntmps:=27
 res:=[.tmp 4]
 body:=
  (.seq
   (.reg [.mv 4 (.c (B false))])
  (.seq
   (.seq
    (.reg [.mv 6 (.t 0),
     .len 7 (.t 6),
     .mv 8 (.t 1),
     .len 9 (.t 8),
     .bin 10 .neq (.t 7) (.t 9)])
   (.keep [0,1,10]
    (.cond (.t 10)
     (.seq
      (.reg [.mv 4 (.c (B false))])
     (.keep [4]
      .ret))
     .skip)))
  (.keep [0,1]
   (.seq
    (.seq
     (.reg [.mv 5 (.c (I 0))])
    (.block 0
     (lpC (j0 f e))))
   (.keep []
    (.seq
     (.reg [.mv 4 (.c (B true))])
    (.keep [4]
     .ret)))))))
def J8(f e:Nat):AC:=
 (.seq
  (.seq
   (.reg [.mv 12 (.t 5),
    .mv 13 (.t 0),
    .len 14 (.t 13),
    .bin 15 .lss (.t 12) (.t 14)])
  (.keep [0,1,5,15]
   (.cond (.t 15)
    .skip
    (.keep [1]
     (.exit 0)))))
 (.keep [0,1,5]
  (.seq
   (.block 1
    (.seq
     (.reg [.mv 18 (.t 0),
      .mv 19 (.t 5),
      .ia 20 e (.t 18) (.t 19),
      .ld 21 true e (.t 20),
      .mv 22 (.t 1),
      .call (some 23) (.c (Fc f)) [(.t 21),(.t 22)] (.ro false),
      .mv 1 (.t 23)])
    (.keep [0,1,5]
     (.seq
      (.reg [.mv 24 (.t 1),
       .bin 25 .lss (.t 24) (.c (I 0))])
     (.cond (.t 25)
      (.seq
       (.reg [.mv 4 (.c (I (-1)))])
      (.keep [4]
       .ret))
      .skip)))))
  (.keep [0,1,5]
   (.reg [.mv 16 (.t 5),
    .bin 17 .add (.t 16) (.c (I 1)),
    .mv 5 (.t 17)])))))
def YO(f e:Nat):Lp:=⟨[0,1,5],[(2,0)],J8 f e⟩
@[go_sem] theorem qk9 {f e:Nat}:(YO f e).ls=[0,1,5]:=rfl
@[go_sem] theorem qk8 {f e:Nat}:(YO f e).ks=[(2,0)]:=rfl
@[go_sem] theorem qk7 {f e:Nat}:(YO f e).body=J8 f e:=rfl
def qk2(f e:Nat):AF where
 nargs:=2
 ntmps:=27
 res:=[.tmp 4]
 body:=
  (.seq
   (.reg [.mv 4 (.c (I 0))])
  (.seq
   (.reg [.mv 6 (.t 1),
    .mv 7 (.t 0),
    .len 8 (.t 7),
    .bin 9 .sub (.t 6) (.t 8),
    .mv 1 (.t 9)])
  (.keep [0,1]
   (.seq
    (.seq
     (.reg [.mv 10 (.t 1),
      .bin 11 .lss (.t 10) (.c (I 0))])
    (.cond (.t 11)
     (.seq
      (.reg [.mv 4 (.c (I (-1)))])
     (.keep [4]
      .ret))
     .skip))
   (.keep [0,1]
    (.seq
     (.seq
      (.reg [.mv 5 (.c (I 0))])
     (.block 0
      (lpC (YO f e))))
    (.keep [1]
     (.seq
      (.reg [.mv 26 (.t 1),
       .mv 4 (.t 26)])
     (.keep [4]
      .ret)))))))))
def J9(f e b:Nat) (z:V):AC:=
       (.seq
        (.seq
         (.reg [.mv 8 (.t 4),
          .mv 9 (.t 0),
          .len 10 (.t 9),
          .bin 11 .lss (.t 8) (.t 10)])
        (.keep [0,3,4,11]
         (.cond (.t 11)
          .skip
          (.keep [3]
           (.exit 0)))))
       (.keep [0,3,4]
        (.seq
         (.block 1
          (.reg [.mv 14 (.t 3),
           .mv 15 (.t 4),
           .mv 16 (.t 0),
           .mv 17 (.t 4),
           .ia 18 e (.t 16) (.t 17),
           .ld 19 true e (.t 18),
           .call (some 20) (.c (Fc f)) [(.t 19)] (.ro false),
           .ia 21 e (.t 14) (.t 15),
           .st e (.t 21) (.t 20)]))
        (.keep [0,3,4]
         (.reg [.mv 12 (.t 4),
          .bin 13 .add (.t 12) (.c (I 1)),
          .mv 4 (.t 13)])))))
def YP(f e b:Nat) (z:V):Lp:=⟨[0,3,4],[(1,0)],J9 f e b z⟩
@[go_sem] theorem qlc {f e b:Nat} {z:V}:(YP f e b z).ls=[0,3,4]:=rfl
@[go_sem] theorem qlb {f e b:Nat} {z:V}:(YP f e b z).ks=[(1,0)]:=rfl
@[go_sem] theorem qla {f e b:Nat} {z:V}:(YP f e b z).body=J9 f e b z:=rfl
def qk3(f e b:Nat) (z:V):AF where
 nargs:=1
 ntmps:=23
 res:=[.tmp 2]
 body:=
  (.seq
   (.reg [.mv 2 (.c (.n e))])
  (.seq
   (.reg [.mv 5 (.t 0),
    .len 6 (.t 5),
    .mk 7 e z b (.t 6) (.t 6),
    .mv 3 (.t 7)])
  (.keep [0,3]
   (.seq
    (.seq
     (.reg [.mv 4 (.c (I 0))])
    (.block 0
     (lpC (YP f e b z))))
   (.keep [3]
    (.seq
     (.reg [.mv 22 (.t 3),
      .mv 2 (.t 22)])
    (.keep [2]
     .ret)))))))
end Go.Vm
namespace Go.Vm
def Xm:V→Bool
 | .v _=>true
 | .i _ _=>true
 |_=>false
def kW:List V→Bool
 |[]=>true
 |c::cs=>Xm c&&kW cs
def Zb(e:Nat) (v:V):Prop:= ∃ cs,v= .a cs∧cs.length=e∧kW cs=true
theorem KH(m:Nat) (T:Mem): ∀ (cs:List V),kW cs=true→qv (qt (m+1)) T cs=(cs,T)
 |[],_=>rfl
 |c::cs,h=>by
  simp only [kW,Bool.and_eq_true]at h
  have h1:qt (m+1) T c=(c,T):=by cases c<;>first|rfl|(simp [Xm]at h)
  simp only [qv,h1,KH m T cs h.2]
theorem KI(τ:Bool): ∀ (cs:List V),kW cs=true→qO τ cs=cs
 |[],_=>rfl
 |c::cs,h=>by
  simp only [kW,Bool.and_eq_true]at h
  have h1:qP τ c=c:=by cases c<;>first|rfl|(simp [Xm]at h)
  simp only [qO,h1,KI τ cs h.2]
theorem KJ: ∀ (cs:List V),kW cs=true→yc cs=true
 |[],_=>rfl
 |c::cs,h=>by
  simp only [kW,Bool.and_eq_true]at h
  have h1:qS c=true:=by cases c<;>first|rfl|(simp [Xm]at h)
  simp only [yc,h1,KJ cs h.2,Bool.and_self]
theorem Zb.cells {e:Nat} {v:V} (h:Zb e v):v.cells.length=e:=by obtain ⟨cs,rfl,h,-⟩:=h;exact h
section
variable {prog:Nat→Option AE} {α:Type} {R:α→V→Prop}
noncomputable local instance:DecidableEq α:=fun a b=>Classical.propDecidable (a=b)
theorem qe2(f e:Nat) (hR: ∀ t v,R t v→Zb e v) (τ τ':Bool) (vs vs':List V) (ts ts':List α) (hl:ts'.length=ts.length) (hv:RL R ts vs) (hv':RL R ts' vs') (hlim:ts.length≤Lm)
 (hc: ∀ t ∈ ts,∀ t' v v',R t v→R t' v'→cr prog f [v,v']=some (B (decide (t=t')))):
 lw prog (j0 f e) ⟨[(0,.i τ vs),(1,.i τ' vs'),(5,I 0)],[]⟩=if ts=ts' then some (.exit 0,⟨[],[]⟩)else some (.ret,⟨[(4,B false)],[]⟩):=by
 have hn:=kQ hv
 refine qe5 ts (fun i r=>lw prog (j0 f e) ⟨[(0,.i τ vs),(1,.i τ' vs'),(5,I i)],[]⟩=if r=ts'.drop i then some (.exit 0,⟨[],[]⟩)else some (.ret,⟨[(4,B false)],[]⟩)) (by unfold Lm at hlim;omega) ?_ ?_
 ·rw [List.drop_eq_nil_of_le (by omega),if_pos rfl,qQ]
  simp only [go_sem,qa,qb,qc,qd,qe,qf,reduceCtorEq,Zc,hn]
 ·intro i t r ht hi hlt e1 hir hm hr ih
  obtain ⟨t',ht'⟩:=Qj (l:=ts') (i:=i) (by omega)
  obtain ⟨v,g,hb⟩:=Km hv ht
  obtain ⟨v',g',hb'⟩:=Km hv' ht'
  have hcc:=hc t hm t' v v' hb hb'
  have a1:=kj (τ:=τ) (T:=[]) g (hR _ _ hb).cells
  have a2:=kj (τ:=τ') (T:=[]) g' (hR _ _ hb').cells
  obtain ⟨cs,rfl,hcl,hfl⟩:=hR _ _ hb
  obtain ⟨cs',rfl,hcl',hfl'⟩:=hR _ _ hb'
  rw [Qd ht',qQ]
  by_cases he:t=t'
  ·subst he
   have:(t::r=t::ts'.drop (i+1))=(r=ts'.drop (i+1)):=by simp
   simp only [this]
   rw [← ih]
   simp only [go_sem,qa,qb,qc,qd,qe,qf,reduceCtorEq,Zc,hn,hlt,a1,a2,g,g',hcc,e1,hcl,hcl',KH,KI,KJ,hfl,hfl']
  ·rw [if_neg (fun h=>he (by cases h;rfl))]
   simp only [go_sem,qa,qb,qc,qd,qe,qf,reduceCtorEq,Zc,hn,hlt,a1,a2,g,g',hcc,e1,hcl,hcl',KH,KI,KJ,hfl,hfl',he]
theorem qe3(fS f e:Nat) (hp:prog fS=some (.fn (YN f e))) (hR: ∀ t v,R t v→Zb e v) (τ τ':Bool) (vs vs':List V) (ts ts':List α) (hv:RL R ts vs) (hv':RL R ts' vs') (hw:ts.length≤Lm)
 (hc: ∀ t ∈ ts,∀ t' v v',R t v→R t' v'→cr prog f [v,v']=some (B (decide (t=t')))):
 cr prog fS [.i τ vs,.i τ' vs']=some (B (decide (ts=ts'))):=by
 rw [zp hp rfl]
 by_cases hl:ts'.length=ts.length
 ·have h:=qe2 f e hR τ τ' vs vs' ts ts' hl hv hv' hw hc
  by_cases he:ts=ts'
  ·rw [if_pos he]at h
   simp only [go_sem,qa,qb,qc,qd,qe,qf,reduceCtorEq,YN,kQ hv,kQ hv',hl,h,he]
  ·rw [if_neg he]at h
   simp only [go_sem,qa,qb,qc,qd,qe,qf,reduceCtorEq,YN,kQ hv,kQ hv',hl,h,he]
 ·have he: ¬ ts=ts':=fun h=>hl (by rw [h])
  have hne: ¬ (ts.length:Int)=ts'.length:=by omega
  simp only [go_sem,qa,qb,qc,qd,qe,qf,reduceCtorEq,YN,kQ hv,kQ hv',hne,he]
end
end Go.Vm
namespace Go.Vm
def wS(s:Str):Prop:=s.length≤Lm
structure Cl where
 head:Tm
 body:Tm
 file:Str
noncomputable instance:DecidableEq Cl:=fun a b=>Classical.propDecidable (a=b)
def bCl(x:Cl) (v:V):Prop:= ∃ τ0 vs0 τ1 vs1,v= .a [I x.head.kind,S x.head.name,I x.head.num,.i τ0 vs0,I x.body.kind,S x.body.name,I x.body.num,.i τ1 vs1,S x.file]∧RL BT x.head.kids vs0∧RL BT x.body.kids vs1
def oCl(x:Cl):V:= .a [I x.head.kind,S x.head.name,I x.head.num,.o 4 (x.head.kids.map oT),I x.body.kind,S x.body.name,I x.body.num,.o 4 (x.body.kids.map oT),S x.file]
def iCl(τ:Bool) (x:Cl):V:= .a [I x.head.kind,S x.head.name,I x.head.num,.i τ (x.head.kids.map (iT τ)),I x.body.kind,S x.body.name,I x.body.num,.i τ (x.body.kids.map (iT τ)),S x.file]
def wCl(x:Cl):Prop:=wTm x.head∧wTm x.body∧wS x.file
theorem qba(τ:Bool) (x:Cl):qP τ (oCl x)=iCl τ x:=by simp only [oCl,iCl,go_sem]
theorem qcj(x:Cl):qR (oCl x)=true:=by simp only [oCl,go_sem]
theorem qce(x:Cl):qR (iCl false x)=true:=by simp only [iCl,go_sem]
@[go_sem] theorem qzR(τ:Bool) (x:Cl):qS (iCl τ x)=true:=rfl
@[go_sem] theorem qp1(m:Nat) (T:Mem) (τ:Bool) (x:Cl):qt (m+2) T (iCl τ x)=(iCl τ x,T):=rfl
@[go_sem] theorem qql(τ τ':Bool) (x:Cl):qP τ (iCl τ' x)=iCl τ' x:=rfl
@[go_sem] theorem qty(d:Nat) (τ:Bool) (x:Cl):qE d (iCl τ x)=iCl τ x:=rfl
@[go_sem] theorem qqO(τ:Bool) (x:Cl):z6 (iCl τ x)=[]:=rfl
@[go_sem] theorem qsZ(τ:Bool) (x:Cl):(iCl τ x).isA=true:=rfl
@[go_sem] theorem qtZ(τ:Bool) (x:Cl):qN true 9 (iCl τ x) 0=some (iCl τ x):=rfl
@[go_sem] theorem qo1(τ:Bool) (x:Cl):(iCl τ x).cells=[I x.head.kind,S x.head.name,I x.head.num,.i τ (x.head.kids.map (iT τ)),I x.body.kind,S x.body.name,I x.body.num,.i τ (x.body.kids.map (iT τ)),S x.file]:=rfl
@[go_sem] theorem qaR(x:Cl):clE (oCl x)=true:=rfl
@[go_sem] theorem qpg(τ:Bool) (x:Cl):clE (iCl τ x)=true:=rfl
attribute [go_sem] qba qcj qce
@[go_sem] theorem qqc(τ:Bool) (l:List Cl):qO τ (l.map oCl)=l.map (iCl τ):=kq (qba τ) l
@[go_sem] theorem qvx(l:List Cl):qZ (l.map oCl)=true:=yE qcj l
@[go_sem] theorem qvE(l:List Cl):qZ (l.map (iCl false))=true:=yE qce l
@[go_sem] theorem qaZ(l:List Cl):qx (l.map oCl)=true:=xX qaR l
@[go_sem] theorem quc(m:Nat) (T:Mem) (l:List Cl):qv (zg m) T (l.map oCl)=(l.map oCl,T):=xD m T _ (qaZ l)
@[go_sem] theorem qx9(k:Key) (ob:Ob) (l:List Cl):zm k ob (l.map oCl)=none:=jd k ob _ (qaZ l)
@[go_sem] theorem qti(d:Nat) (l:List Cl):qz d (l.map oCl)=l.map oCl:=kZ qaR d l
structure Db where
 clauses:List Cl
 opn:List Str
noncomputable instance:DecidableEq Db:=fun a b=>Classical.propDecidable (a=b)
def bDb(x:Db) (v:V):Prop:= ∃ τ0 vs0 τ1,v= .a [.i τ0 vs0,.i τ1 (x.opn.map S)]∧RL bCl x.clauses vs0
def oDb(x:Db):V:= .a [.o 9 (x.clauses.map oCl),.o 1 (x.opn.map S)]
def iDb(τ:Bool) (x:Db):V:= .a [.i τ (x.clauses.map (iCl τ)),.i τ (x.opn.map S)]
def wDb(x:Db):Prop:=(x.clauses.length≤Lm∧ ∀ y ∈ x.clauses,wCl y)∧(x.opn.length≤Lm∧ ∀ y ∈ x.opn,wS y)
theorem qbb(τ:Bool) (x:Db):qP τ (oDb x)=iDb τ x:=by simp only [oDb,iDb,go_sem]
theorem qck(x:Db):qR (oDb x)=true:=by simp only [oDb,go_sem]
theorem qcf(x:Db):qR (iDb false x)=true:=by simp only [iDb,go_sem]
@[go_sem] theorem qzS(τ:Bool) (x:Db):qS (iDb τ x)=true:=rfl
@[go_sem] theorem qp2(m:Nat) (T:Mem) (τ:Bool) (x:Db):qt (m+2) T (iDb τ x)=(iDb τ x,T):=rfl
@[go_sem] theorem qqm(τ τ':Bool) (x:Db):qP τ (iDb τ' x)=iDb τ' x:=rfl
@[go_sem] theorem qtz(d:Nat) (τ:Bool) (x:Db):qE d (iDb τ x)=iDb τ x:=rfl
@[go_sem] theorem qqP(τ:Bool) (x:Db):z6 (iDb τ x)=[]:=rfl
@[go_sem] theorem qs0(τ:Bool) (x:Db):(iDb τ x).isA=true:=rfl
@[go_sem] theorem qt0(τ:Bool) (x:Db):qN true 2 (iDb τ x) 0=some (iDb τ x):=rfl
@[go_sem] theorem qo2(τ:Bool) (x:Db):(iDb τ x).cells=[.i τ (x.clauses.map (iCl τ)),.i τ (x.opn.map S)]:=rfl
@[go_sem] theorem qaS(x:Db):clE (oDb x)=true:=rfl
@[go_sem] theorem qph(τ:Bool) (x:Db):clE (iDb τ x)=true:=rfl
attribute [go_sem] qbb qck qcf
@[go_sem] theorem qqd(τ:Bool) (l:List Db):qO τ (l.map oDb)=l.map (iDb τ):=kq (qbb τ) l
@[go_sem] theorem qvy(l:List Db):qZ (l.map oDb)=true:=yE qck l
@[go_sem] theorem qvF(l:List Db):qZ (l.map (iDb false))=true:=yE qcf l
@[go_sem] theorem qa0(l:List Db):qx (l.map oDb)=true:=xX qaS l
@[go_sem] theorem qud(m:Nat) (T:Mem) (l:List Db):qv (zg m) T (l.map oDb)=(l.map oDb,T):=xD m T _ (qa0 l)
@[go_sem] theorem qya(k:Key) (ob:Ob) (l:List Db):zm k ob (l.map oDb)=none:=jd k ob _ (qa0 l)
@[go_sem] theorem qtj(d:Nat) (l:List Db):qz d (l.map oDb)=l.map oDb:=kZ qaS d l
structure Fl where
 name:Str
 text:Str
noncomputable instance:DecidableEq Fl:=fun a b=>Classical.propDecidable (a=b)
def bFl(x:Fl) (v:V):Prop:=v= .a [S x.name,S x.text]
def oFl(x:Fl):V:= .a [S x.name,S x.text]
def iFl(τ:Bool) (x:Fl):V:= .a [S x.name,S x.text]
def wFl(x:Fl):Prop:=wS x.name∧wS x.text
theorem qbc(τ:Bool) (x:Fl):qP τ (oFl x)=iFl τ x:=by simp only [oFl,iFl,go_sem]
theorem qcl(x:Fl):qR (oFl x)=true:=by simp only [oFl,go_sem]
theorem qcg(x:Fl):qR (iFl false x)=true:=by simp only [iFl,go_sem]
@[go_sem] theorem qzT(τ:Bool) (x:Fl):qS (iFl τ x)=true:=rfl
@[go_sem] theorem qp3(m:Nat) (T:Mem) (τ:Bool) (x:Fl):qt (m+2) T (iFl τ x)=(iFl τ x,T):=rfl
@[go_sem] theorem qqn(τ τ':Bool) (x:Fl):qP τ (iFl τ' x)=iFl τ' x:=rfl
@[go_sem] theorem qtA(d:Nat) (τ:Bool) (x:Fl):qE d (iFl τ x)=iFl τ x:=rfl
@[go_sem] theorem qqQ(τ:Bool) (x:Fl):z6 (iFl τ x)=[]:=rfl
@[go_sem] theorem qs1(τ:Bool) (x:Fl):(iFl τ x).isA=true:=rfl
@[go_sem] theorem qt1(τ:Bool) (x:Fl):qN true 2 (iFl τ x) 0=some (iFl τ x):=rfl
@[go_sem] theorem qo3(τ:Bool) (x:Fl):(iFl τ x).cells=[S x.name,S x.text]:=rfl
@[go_sem] theorem qaT(x:Fl):clE (oFl x)=true:=rfl
@[go_sem] theorem qpi(τ:Bool) (x:Fl):clE (iFl τ x)=true:=rfl
attribute [go_sem] qbc qcl qcg
@[go_sem] theorem qqe(τ:Bool) (l:List Fl):qO τ (l.map oFl)=l.map (iFl τ):=kq (qbc τ) l
@[go_sem] theorem qvz(l:List Fl):qZ (l.map oFl)=true:=yE qcl l
@[go_sem] theorem qvG(l:List Fl):qZ (l.map (iFl false))=true:=yE qcg l
@[go_sem] theorem qa1(l:List Fl):qx (l.map oFl)=true:=xX qaT l
@[go_sem] theorem que(m:Nat) (T:Mem) (l:List Fl):qv (zg m) T (l.map oFl)=(l.map oFl,T):=xD m T _ (qa1 l)
@[go_sem] theorem qyb(k:Key) (ob:Ob) (l:List Fl):zm k ob (l.map oFl)=none:=jd k ob _ (qa1 l)
@[go_sem] theorem qtk(d:Nat) (l:List Fl):qz d (l.map oFl)=l.map oFl:=kZ qaT d l
structure Se where
 files:List Fl
 db:Db
 lines:List Str
 out:Str
noncomputable instance:DecidableEq Se:=fun a b=>Classical.propDecidable (a=b)
def bSe(x:Se) (v:V):Prop:= ∃ τ0 vs0 τ1 vs1 τ2 τ3,v= .a [.i τ0 vs0,.i τ1 vs1,.i τ2 (x.db.opn.map S),.i τ3 (x.lines.map S),S x.out]∧RL bFl x.files vs0∧RL bCl x.db.clauses vs1
def oSe(x:Se):V:= .a [.o 2 (x.files.map oFl),.o 9 (x.db.clauses.map oCl),.o 1 (x.db.opn.map S),.o 1 (x.lines.map S),S x.out]
def iSe(τ:Bool) (x:Se):V:= .a [.i τ (x.files.map (iFl τ)),.i τ (x.db.clauses.map (iCl τ)),.i τ (x.db.opn.map S),.i τ (x.lines.map S),S x.out]
def wSe(x:Se):Prop:=(x.files.length≤Lm∧ ∀ y ∈ x.files,wFl y)∧wDb x.db∧(x.lines.length≤Lm∧ ∀ y ∈ x.lines,wS y)∧wS x.out
theorem qbe(τ:Bool) (x:Se):qP τ (oSe x)=iSe τ x:=by simp only [oSe,iSe,go_sem]
theorem qcn(x:Se):qR (oSe x)=true:=by simp only [oSe,go_sem]
theorem qci(x:Se):qR (iSe false x)=true:=by simp only [iSe,go_sem]
@[go_sem] theorem qzV(τ:Bool) (x:Se):qS (iSe τ x)=true:=rfl
@[go_sem] theorem qp5(m:Nat) (T:Mem) (τ:Bool) (x:Se):qt (m+2) T (iSe τ x)=(iSe τ x,T):=rfl
@[go_sem] theorem qqp(τ τ':Bool) (x:Se):qP τ (iSe τ' x)=iSe τ' x:=rfl
@[go_sem] theorem qtC(d:Nat) (τ:Bool) (x:Se):qE d (iSe τ x)=iSe τ x:=rfl
@[go_sem] theorem qqS(τ:Bool) (x:Se):z6 (iSe τ x)=[]:=rfl
@[go_sem] theorem qs3(τ:Bool) (x:Se):(iSe τ x).isA=true:=rfl
@[go_sem] theorem qt3(τ:Bool) (x:Se):qN true 5 (iSe τ x) 0=some (iSe τ x):=rfl
@[go_sem] theorem qo5(τ:Bool) (x:Se):(iSe τ x).cells=[.i τ (x.files.map (iFl τ)),.i τ (x.db.clauses.map (iCl τ)),.i τ (x.db.opn.map S),.i τ (x.lines.map S),S x.out]:=rfl
@[go_sem] theorem qaV(x:Se):clE (oSe x)=true:=rfl
@[go_sem] theorem qpk(τ:Bool) (x:Se):clE (iSe τ x)=true:=rfl
attribute [go_sem] qbe qcn qci
@[go_sem] theorem qqf(τ:Bool) (l:List Se):qO τ (l.map oSe)=l.map (iSe τ):=kq (qbe τ) l
@[go_sem] theorem qvB(l:List Se):qZ (l.map oSe)=true:=yE qcn l
@[go_sem] theorem qvI(l:List Se):qZ (l.map (iSe false))=true:=yE qci l
@[go_sem] theorem qa3(l:List Se):qx (l.map oSe)=true:=xX qaV l
@[go_sem] theorem qug(m:Nat) (T:Mem) (l:List Se):qv (zg m) T (l.map oSe)=(l.map oSe,T):=xD m T _ (qa3 l)
@[go_sem] theorem qyd(k:Key) (ob:Ob) (l:List Se):zm k ob (l.map oSe)=none:=jd k ob _ (qa3 l)
@[go_sem] theorem qtm(d:Nat) (l:List Se):qz d (l.map oSe)=l.map oSe:=kZ qaV d l
end Go.Vm
namespace Go.Vm
structure Rq where
 kind:Int
 name:Str
 text:Str
noncomputable instance:DecidableEq Rq:=fun a b=>Classical.propDecidable (a=b)
def bRq(x:Rq) (v:V):Prop:=v= .a [I x.kind,S x.name,S x.text]
def oRq(x:Rq):V:= .a [I x.kind,S x.name,S x.text]
def iRq(τ:Bool) (x:Rq):V:= .a [I x.kind,S x.name,S x.text]
def wRq(x:Rq):Prop:=inI x.kind∧wS x.name∧wS x.text
theorem qel(τ:Bool) (x:Rq):bRq x (iRq τ x):=rfl
theorem qbd(τ:Bool) (x:Rq):qP τ (oRq x)=iRq τ x:=by simp only [oRq,iRq,go_sem]
theorem qcm(x:Rq):qR (oRq x)=true:=by simp only [oRq,go_sem]
theorem qch(x:Rq):qR (iRq false x)=true:=by simp only [iRq,go_sem]
theorem qed(x:Rq) (v:V) (h:bRq x v):Zb 3 v:=by
 obtain rfl:=h;exact ⟨_,rfl,rfl,rfl⟩
@[go_sem] theorem qzU(τ:Bool) (x:Rq):qS (iRq τ x)=true:=rfl
@[go_sem] theorem qp4(m:Nat) (T:Mem) (τ:Bool) (x:Rq):qt (m+2) T (iRq τ x)=(iRq τ x,T):=rfl
@[go_sem] theorem qqo(τ τ':Bool) (x:Rq):qP τ (iRq τ' x)=iRq τ' x:=rfl
@[go_sem] theorem qtB(d:Nat) (τ:Bool) (x:Rq):qE d (iRq τ x)=iRq τ x:=rfl
@[go_sem] theorem qqR(τ:Bool) (x:Rq):z6 (iRq τ x)=[]:=rfl
@[go_sem] theorem qs2(τ:Bool) (x:Rq):(iRq τ x).isA=true:=rfl
@[go_sem] theorem qt2(τ:Bool) (x:Rq):qN true 3 (iRq τ x) 0=some (iRq τ x):=rfl
@[go_sem] theorem qo4(τ:Bool) (x:Rq):(iRq τ x).cells=[I x.kind,S x.name,S x.text]:=rfl
@[go_sem] theorem qaU(x:Rq):clE (oRq x)=true:=rfl
@[go_sem] theorem qpj(τ:Bool) (x:Rq):clE (iRq τ x)=true:=rfl
attribute [go_sem] qbd qcm qch
@[go_sem] theorem qeJ(τ:Bool) (l:List Rq):qO τ (l.map oRq)=l.map (iRq τ):=kq (qbd τ) l
@[go_sem] theorem qvA(l:List Rq):qZ (l.map oRq)=true:=yE qcm l
@[go_sem] theorem qvH(l:List Rq):qZ (l.map (iRq false))=true:=yE qch l
@[go_sem] theorem qa2(l:List Rq):qx (l.map oRq)=true:=xX qaU l
@[go_sem] theorem quf(m:Nat) (T:Mem) (l:List Rq):qv (zg m) T (l.map oRq)=(l.map oRq,T):=xD m T _ (qa2 l)
@[go_sem] theorem qyc(k:Key) (ob:Ob) (l:List Rq):zm k ob (l.map oRq)=none:=jd k ob _ (qa2 l)
@[go_sem] theorem qtl(d:Nat) (l:List Rq):qz d (l.map oRq)=l.map oRq:=kZ qaU d l
end Go.Vm
set_option linter.unusedSectionVars false
namespace Go.Vm
open Go.RowKit (Below)
def xc(P:Program) (e:TypeId) (zs:List V):V:=
 match P.underlying e with
 |some (.struct _)=> .a zs
 |_=>zs.headD .d
mutual
def Shp(P:Program):Nat→TypeId→List V→Prop
 |0,_,_=>False
 |n+1,t,xs=>match P.underlying t with
  |some .bool=> ∃ b,xs=[B b]
  |some (.int k)=> ∃ m,xs=[.v (.int k m)]∧(Lit.int k m).wf=true
  |some .string=> ∃ l,xs=[S l]
  |some (.slice e)=> ∃ ys:List V,xs=[.i false ys]∧ ∀ y ∈ ys,∃ zs,Shp P n e zs∧y=xc P e zs
  |some (.struct fs)=> ∃ parts:List (List V),xs=parts.flatten∧Zr P n (fs.toList.map (·.type)) parts
  |_=>False
def Zr(P:Program):Nat→List TypeId→List (List V)→Prop
 |_,[],[]=>True
 |n,t::ts,p::ps=>Shp P n t p∧Zr P n ts ps
 |_,_,_=>False
end
mutual
def xV:V→Nat
 | .v (.string s)=>s.size+1
 | .i _ xs=>zu xs+1
 | .o _ xs=>zu xs+1
 | .a xs=>zu xs
 |_=>1
def zu:List V→Nat
 |[]=>0
 |x::xs=>xV x+zu xs
end
theorem qaM: ∀ (xs ys:List V),zu (xs++ys)=zu xs+zu ys
 |[],ys=>by simp [zu]
 |x::xs,ys=>by simp [zu,qaM xs ys,Nat.add_assoc]
mutual
def zC {H:Type}:DataW H→Nat
 | .lit (.string bytes)=>bytes.length+1
 | .lit _=>1
 | .nil=>1
 | .ptr d=>zC d+1
 | .slice elems spare=>yZ elems+yZ spare+1
 | .agg parts=>yZ parts+1
 |_=>1
def yZ {H:Type}:List (DataW H)→Nat
 |[]=>0
 |d::r=>zC d+yZ r
end
def Xz(P:Program):Nat→List Field→Bool
 |_,[]=>true
 |n,f::fs=>decide (f.offset=n)&&Xz P (n+P.cellsOf f.type) fs
def ZH(P:Program):List Field→Nat
 |[]=>0
 |f::fs=>P.cellsOf f.type+ZH P fs
def jF(P:Program) (S:List TypeId) (t:TypeId):Bool:=
 match P.underlying t with
 |some .bool|some (.int _)|some .string=>decide (P.cellsOf t=1)
 |some (.slice e)=>decide (P.cellsOf t=1)&&S.contains e&&decide (0 < P.cellsOf e)
 |some (.struct fs)=>Xz P 0 fs.toList&&decide (ZH P fs.toList=P.cellsOf t)&&fs.toList.all fun f=>S.contains f.type
 |_=>false
def y1(w:World):Env:={w,I:=fun _ b=>b < w.heap.size,μ:=fun _=>none}
def yA(P:Program) (t:TypeId):Bool:=match P.underlying t with|some (.struct _)=>true|_=>false
def jh(P:Program) (t:TypeId) (cs:List Value):Value:=
 match P.underlying t with
 |some (.struct _)=> .agg cs.toArray
 |_=>cs.headD undef
section
variable {H:Type} {enc:TypeId × Value→H} {P:Program} {w:World} {St:List TypeId}
theorem qaQ {a:Addr} {n:Nat} {cs:List Value} (h:w.cells? 0 a n=some cs) (hn:0 < n):
 a.spot=none∧ ∃ cells T fz,w.heap[a.block]? =some (.cells cells T fz)∧cs=seg cells a.off n∧a.off+n≤cells.size∧a.block < w.heap.size:=by
 unfold World.cells? at h
 rw [if_pos (Nat.zero_le _)]at h
 have hl:cs.length=n:=by simpa using mapM_some_length h
 have hg: ∀ i,i < n→w.cell? (a.add i)=cs[i]? :=fun i hi=>mapM_some_get h i i (by simp [hi])
 have h0:=hg 0 hn
 have hc0:cs[0]? =some cs[0]:=List.getElem?_eq_getElem (by omega)
 rw [hc0]at h0
 simp only [Addr.add,if_true,World.cell?]at h0
 split at h0
 case h_2=>cases h0
 rename_i cells T fz hw
 split at h0
 ·cases h0
 rename_i hsp
 have hsp':a.spot=none:=by simpa using hsp
 refine ⟨hsp',cells,T,fz,hw, ?_, ?_,(Array.getElem?_eq_some_iff.1 hw).1⟩
 ·apply List.ext_getElem?
  intro i
  by_cases hi:i < n
  ·have:=hg i hi
   rw [← this]
   have e1:(a.add i).block=a.block∧(a.add i).off=a.off+i∧(a.add i).spot=none:=by
    unfold Addr.add
    split
    ·subst i;exact ⟨rfl,rfl,hsp'⟩
    ·exact ⟨rfl,rfl,rfl⟩
   simp only [World.cell?,e1.1,hw,e1.2.1,e1.2.2]
   simp only [seg,List.getElem?_take,hi,if_true,List.getElem?_drop,Array.getElem?_toList]
   simp
  ·rw [List.getElem?_eq_none (by omega)]
   simp [seg,List.getElem?_take,hi]
 ·have h1:=hg (n - 1) (by omega)
  have e1:(a.add (n - 1)).block=a.block∧(a.add (n - 1)).off=a.off+(n - 1)∧(a.add (n - 1)).spot=none:=by
   unfold Addr.add
   split
   ·rename_i h;rw [h];exact ⟨rfl,rfl,hsp'⟩
   ·exact ⟨rfl,rfl,rfl⟩
  simp only [World.cell?,e1.1,hw,e1.2.1,e1.2.2]at h1
  have hcn:cs[n - 1]? =some cs[n - 1]:=List.getElem?_eq_getElem (by omega)
  rw [hcn]at h1
  have:a.off+(n - 1) < cells.size:=by
   simp only [Option.isSome_none,Bool.false_eq_true,if_false]at h1
   exact (Array.getElem?_eq_some_iff.1 h1).1
  omega
theorem qeZ:(y1 w).cl=y1 w:=rfl
theorem qdi {t:TypeId} {xs:List V} {cs:List Value} (h:qi (y1 w) xs cs c0) (hst:yA P t=true∨(xs.length=1∧zz cs)):
 Rel (y1 w) (xc P t xs) (jh P t cs) c0∧(zz cs→(xc P t xs).cells.length=xs.length∨(xc P t xs).isA=true):=by
 unfold xc jh
 unfold yA at hst
 split at hst
 ·rename_i fs hu
  refine ⟨?_,fun _=> .inr ?_⟩
  ·simp only [Rel];exact ⟨cs.toArray,rfl,by simpa using h⟩
  ·rfl
 ·rename_i hns
  rcases hst with hst|⟨hst,hon⟩
  ·cases hst
  match xs,hst with
  |[x],_=>
   obtain ⟨y,rfl,hr⟩:=ZW h
   refine ⟨by simpa using hr,fun _=> ?_⟩
   by_cases hx:(V.isA x)=true
   ·exact .inr (by simpa using hx)
   ·left
    cases x<;>first|rfl|exact absurd rfl hx
def Rd(P:Program) (w:World) (H:Type) (enc:TypeId × Value→H) (n:Nat) (t:TypeId) (cs:List Value) (d:DataW H):Prop:=
 ∃ xs,qi (y1 w) xs cs c0∧Shp P n t xs∧zu xs≤zC d∧cs.length=P.cellsOf t∧zz cs∧(yA P t=false→ ∃ x,xs=[x]∧x.isA=false)
theorem qgV(s:ByteArray):zz [Value.string s]:=by intro z hz;simp at hz;subst hz;rfl
theorem qee(s:ByteArray):V.v (.string s)=S s.data.toList:=by simp [S]
theorem qbm {n:Nat} (IH: ∀ t cs d ps,t ∈ St→DataW.trod enc P w 0 (fun _=>true) true n t cs=some (d,ps)→Rd P w H enc n t cs d) (cs:List Value):
 ∀ (fs:List Field) (off:Nat) (xs:List (DataW H × List MemPlace)),Xz P off fs=true→off+ZH P fs=cs.length→(fs.all fun f=>St.contains f.type)=true→
  xs.length=fs.length→(∀ (i:Nat) (f:Field),fs[i]? =some f→DataW.trod enc P w 0 (fun _=>true) true n f.type ((cs.drop f.offset).take (P.cellsOf f.type))=xs[i]?)→
  ∃ parts,qi (y1 w) parts.flatten (cs.drop off) c0∧Zr P n (fs.map (·.type)) parts∧zu parts.flatten≤yZ (xs.map (·.1))∧zz (cs.drop off)
 |[],off,xs,_,hs,_,hl,_=>by
  have:xs=[]:=by simpa using hl
  subst this
  have hd:cs.drop off=[]:=List.drop_eq_nil_of_le (by simp only [ZH]at hs;omega)
  rw [hd]
  exact ⟨[],by simp [qi],by simp [Zr],by simp [zu],by intro z hz;cases hz⟩
 |f::fs,off,[],_,_,_,hl,_=>by simp at hl
 |f::fs,off,x::xs,ho,hs,ha,hl,hg=>by
  simp only [Xz,Bool.and_eq_true,decide_eq_true_eq]at ho
  simp only [List.all_cons,Bool.and_eq_true]at ha
  simp only [ZH]at hs
  have h0:=hg 0 f rfl
  rw [ho.1]at h0
  simp only [List.getElem?_cons_zero]at h0
  obtain ⟨ys,hr,hsh,hb,hlen,hon,-⟩:=IH f.type _ x.1 x.2 (by simpa using ha.1) h0
  obtain ⟨parts,hr',hsh',hb',hon'⟩:=qbm IH cs fs (off+P.cellsOf f.type) xs ho.2 (by omega) ha.2 (by simpa using hl) (fun i f' hf'=>by simpa using hg (i+1) f' (by simpa using hf'))
  have hsplit:cs.drop off=(cs.drop off).take (P.cellsOf f.type)++cs.drop (off+P.cellsOf f.type):=by
   rw [← List.drop_drop,List.take_append_drop]
  refine ⟨ys::parts, ?_, ?_, ?_, ?_⟩
  ·rw [hsplit,List.flatten_cons]
   have:=xp hr hr'
   rwa [j8]at this
  ·simp only [List.map_cons,Zr];exact ⟨hsh,hsh'⟩
  ·simp only [List.flatten_cons,qaM,List.map_cons,yZ];omega
  ·rw [hsplit]
   intro z hz
   rcases List.mem_append.1 hz with h|h
   ·exact hon z h
   ·exact hon' z h
theorem qbi {n e:Nat} (he:e ∈ St) (hpos:0 < P.cellsOf e) (IH: ∀ t cs d ps,t ∈ St→DataW.trod enc P w 0 (fun _=>true) true n t cs=some (d,ps)→Rd P w H enc n t cs d)
 (a:Addr) (cells:Array Value):
 ∀ (elems:List (DataW H × List MemPlace)) (off:Nat),(∀ i,i < elems.length→((w.cells? 0 ⟨a.block,a.off+(off+i)*P.cellsOf e,none⟩ (P.cellsOf e)).bind (DataW.trod enc P w 0 (fun _=>true) true n e))=elems[i]?)→
  (∃ T fz,w.heap[a.block]? =some (.cells cells T fz))→
  ∃ ys,ys.length=elems.length∧qj (y1 w) (P.cellsOf e) ys (seg cells (a.off+off*P.cellsOf e) (elems.length*P.cellsOf e)) c0∧(∀ y ∈ ys,∃ zs,Shp P n e zs∧y=xc P e zs)∧zu ys≤yZ (elems.map (·.1))
 |[],off,_,_=>⟨[],rfl,by simp [qj,seg],by simp,by simp [zu]⟩
 |x::elems,off,hg,hw=>by
  have h0:=hg 0 (by simp)
  simp only [Nat.add_zero,List.getElem?_cons_zero,Option.bind_eq_some_iff]at h0
  obtain ⟨cs,hcs,hx⟩:=h0
  obtain ⟨xs,hr,hsh,hb,hlen,hon,hns⟩:=IH e cs x.1 x.2 he hx
  obtain ⟨ys,hyl,hyr,hys,hyb⟩:=qbi he hpos IH a cells elems (off+1) (fun i hi=>by
   have:=hg (i+1) (by simp;omega)
   rw [show off+1+i=off+(i+1)by omega];simpa using this) hw
  obtain ⟨T,fz,hw'⟩:=hw
  obtain ⟨-,cells',T',fz',hw'',hseg,hle,-⟩:=qaQ hcs hpos
  simp only [hw']at hw''
  obtain ⟨rfl,rfl,rfl⟩:cells=cells'∧T=T'∧fz=fz':=by simpa using hw''
  have hst:yA P e=true∨(xs.length=1∧zz cs):=by
   cases hi:yA P e
   ·obtain ⟨x',hx',-⟩:=hns hi;exact .inr ⟨by simp [hx'],hon⟩
   ·exact .inl rfl
  have hrel:=(qdi (P:=P) (t:=e) hr hst).1
  have hlx:=ye hr
  have hval:(jh P e cs).cells.toList=cs∧(xc P e xs).cells.length=P.cellsOf e∧xV (xc P e xs)≤zu xs:=by
   unfold jh xc
   cases hi:yA P e
   ·obtain ⟨x',rfl,hxa⟩:=hns hi
    obtain ⟨y,rfl,hr1⟩:=ZW hr
    have hy:y.oneCell=true:=hon y (by simp)
    unfold yA at hi
    split at hi
    ·cases hi
    ·rename_i hq
     refine ⟨?_, ?_, ?_⟩
     ·simp only [List.headD_cons];cases y<;>first|rfl|(simp [Value.oneCell]at hy)
     ·simp only [List.headD_cons];rw [← hlen,List.length_singleton];cases x'<;>first|rfl|(simp [V.isA]at hxa)
     ·simp [zu]
   ·unfold yA at hi
    split at hi
    ·refine ⟨by simp [Value.cells], ?_, ?_⟩
     ·simp only [V.cells];omega
     ·simp [xV]
    ·cases hi
  refine ⟨xc P e xs::ys,by simp [hyl], ?_, ?_, ?_⟩
  ·simp only [qj]
   refine ⟨jh P e cs,seg cells (a.off+(off+1)*P.cellsOf e) (elems.length*P.cellsOf e),c0,c0, ?_, ?_,hval.2.1, ?_,hrel,hyr,rfl⟩
   ·rw [hval.1,hseg]
    simp only [seg,List.length_cons]
    have e1:(elems.length+1)*P.cellsOf e=P.cellsOf e+elems.length*P.cellsOf e:=by rw [Nat.add_mul];omega
    have e2:a.off+(off+1)*P.cellsOf e=a.off+off*P.cellsOf e+P.cellsOf e:=by rw [Nat.add_mul];omega
    rw [e1,List.take_add,e2,List.drop_drop]
   ·have hq:(jh P e cs).cells.size=cs.length:=by rw [← Array.length_toList,hval.1]
    rw [hq,hlen]
   ·rw [hval.1];exact hon
  ·intro y hy
   rcases List.mem_cons.1 hy with rfl|hy
   ·exact ⟨xs,hsh,rfl⟩
   ·exact hys y hy
  ·simp only [zu,List.map_cons,yZ];have:=hval.2.2;omega
theorem qdW(hS: ∀ t ∈ St,jF P St t=true): ∀ (n:Nat) (t:TypeId) (cs:List Value) (d:DataW H) (ps:List MemPlace),t ∈ St→
 DataW.trod enc P w 0 (fun _=>true) true n t cs=some (d,ps)→Rd P w H enc n t cs d
 |0,t,cs,d,ps,_,h=>by simp [DataW.trod]at h
 |n+1,t,cs,d,ps,ht,h=>by
  have IH:=qdW hS n
  have hok:=hS t ht
  unfold jF at hok
  split at hok
  ·rename_i hu
   obtain ⟨b,rfl,hx⟩:=DataW.trod_bool hu h
   refine ⟨[B b], ?_, ?_, ?_, ?_, ?_,fun _=>⟨_,rfl,rfl⟩⟩
   ·exact zL (by simp [B,Rel,zI])
   ·simp only [Shp,hu];exact ⟨b,rfl⟩
   ·simp only [Prod.mk.injEq]at hx;rw [hx.1];simp [zu,xV,B,zC]
   ·simpa using (of_decide_eq_true hok).symm
   ·intro z hz;simp at hz;subst hz;rfl
  ·rename_i k hu
   obtain ⟨m,rfl,hx,hwf⟩:=DataW.trod_int hu h
   refine ⟨[.v (.int k m)], ?_, ?_, ?_, ?_, ?_,fun _=>⟨_,rfl,rfl⟩⟩
   ·exact zL (by simp [Rel,zI])
   ·simp only [Shp,hu];exact ⟨m,rfl,hwf⟩
   ·simp only [Prod.mk.injEq]at hx;rw [hx.1];simp [zu,xV,zC]
   ·simpa using (of_decide_eq_true hok).symm
   ·intro z hz;simp at hz;subst hz;rfl
  ·rename_i hu
   obtain ⟨s,rfl,hx,-⟩:=DataW.trod_string hu h
   refine ⟨[.v (.string s)], ?_, ?_, ?_, ?_, ?_,fun _=>⟨_,rfl,rfl⟩⟩
   ·exact zL (by simp [Rel,zI])
   ·simp only [Shp,hu];exact ⟨s.data.toList,by rw [qee]⟩
   ·simp only [Prod.mk.injEq]at hx;rw [hx.1];show s.data.size+1+0≤s.data.toList.length+1;simp
   ·simpa using (of_decide_eq_true hok).symm
   ·exact qgV s
  ·rename_i e hu
   simp only [Bool.and_eq_true,decide_eq_true_eq,List.contains_iff_mem]at hok
   obtain ⟨⟨hc1,heS⟩,hpos⟩:=hok
   rcases DataW.trod_slice hu h with ⟨rfl,hx⟩|⟨a,len,cap,elems,rest,m,hm,rfl,hx,-,hle,-,hel,hg,-,-⟩
   ·refine ⟨[.i false []], ?_, ?_, ?_, ?_, ?_,fun _=>⟨_,rfl,rfl⟩⟩
    ·exact zL (by simp only [Rel];exact ⟨by trivial,none,0,rfl,Nat.le_refl _,.inl trivial⟩)
    ·simp only [Shp,hu];exact ⟨[],rfl,by simp⟩
    ·simp only [Prod.mk.injEq]at hx;rw [hx.1];simp [zu,xV,zC]
    ·simpa using hc1.symm
    ·intro z hz;simp at hz;subst hz;rfl
   ·have hmn:m=n:=by omega
    subst hmn
    by_cases hz:len=0
    ·subst hz
     refine ⟨[.i false []], ?_, ?_, ?_, ?_, ?_,fun _=>⟨_,rfl,rfl⟩⟩
     ·exact zL (by simp only [Rel];exact ⟨by trivial,some a,cap,rfl,Nat.zero_le _,.inl trivial⟩)
     ·simp only [Shp,hu];exact ⟨[],rfl,by simp⟩
     ·simp only [Prod.mk.injEq]at hx;rw [hx.1];simp [zu,xV,zC]
     ·simpa using hc1.symm
     ·intro z hz;simp at hz;subst hz;rfl
    ·have h0:=hg 0 (by omega)
     have he0:elems[0]? =some elems[0]:=List.getElem?_eq_getElem (by omega)
     rw [he0,Option.bind_eq_some_iff]at h0
     obtain ⟨cs0,hcs0,-⟩:=h0
     have ha0:a.add (0*P.cellsOf e)=a:=by simp [Addr.add]
     rw [ha0]at hcs0
     obtain ⟨hsp,cells,T,fz,hw,-,-,hlt⟩:=qaQ hcs0 hpos
     have ha:a=⟨a.block,a.off,none⟩:=by obtain ⟨b,o,s⟩:=a;simp only at hsp;subst hsp;rfl
     obtain ⟨ys,hyl,hyr,hys,hyb⟩:=qbi heS hpos IH a cells elems 0 (fun i hi=>by
      have:=hg i (by omega)
      rw [← this]
      congr 2
      rw [Nat.zero_add]
      unfold Addr.add
      split
      ·rename_i hq;rw [hq,Nat.add_zero];exact ha.symm
      ·rfl) ⟨T,fz,hw⟩
     simp only [Nat.zero_mul,Nat.add_zero]at hyr
     refine ⟨[.i false ys], ?_, ?_, ?_, ?_, ?_,fun _=>⟨_,rfl,rfl⟩⟩
     ·refine zL ?_
      simp only [Rel]
      refine ⟨by trivial,some a,cap,by rw [hyl,hel],by omega,.inr ⟨a.block,a.off,P.cellsOf e,cells,T,fz,by rw [← ha],hlt,hw, ?_⟩⟩
      rw [hyl];exact hyr
     ·simp only [Shp,hu];exact ⟨ys,rfl,hys⟩
     ·simp only [Prod.mk.injEq]at hx;rw [hx.1];simp only [zu,xV,zC];omega
     ·simpa using hc1.symm
     ·intro z hz;simp at hz;subst hz;rfl
  ·rename_i fs hu
   simp only [Bool.and_eq_true,decide_eq_true_eq]at hok
   obtain ⟨xs,m,hm,hx,hlen,hxl,hg⟩:=DataW.trod_struct hu h
   have hmn:m=n:=by omega
   subst hmn
   obtain ⟨parts,h1,h2,h3,h4⟩:=qbm IH cs fs.toList 0 xs hok.1.1 (by rw [hlen, ← hok.1.2];omega) hok.2 (by simpa using hxl) (fun i f hf=>hg i f (by simpa using hf))
   refine ⟨parts.flatten,by simpa using h1, ?_, ?_,hlen,by simpa using h4,fun hi=> ?_⟩
   ·simp only [Shp,hu];exact ⟨parts,rfl,h2⟩
   ·simp only [Prod.mk.injEq]at hx;rw [hx.1];simp only [zC];omega
   ·unfold yA at hi;rw [hu]at hi;cases hi
  ·cases hok
theorem qhs {f:Func} {s:ChangeSpec} {apart yO handsOn:Bool} {W W':World} {args:Array Value} {v:Value} {ds gs:List (DataW H)} {before pa pv:List MemPlace}
 (hW:DataW.Whole enc P f.params.toList s.vars apart W args.toList ds gs before)
 (hres: ∀ (b:Nat) (sp:Nat→Bool) (hd:Bool),DataW.TrodAll enc P W' b sp hd f.resultTypes.toList (v.resultList f.resultTypes.size) (s.fn H (ds++gs)).results [])
 (hargs: ∀ sp:Nat→Bool,(∀ p ∈ before,sp p.block=true)→DataW.TrodAll enc P W' 0 sp true f.params.toList args.toList (s.fn H (ds++gs)).args pa)
 (hvars: ∀ sp:Nat→Bool,(∀ p ∈ before,sp p.block=true)→DataW.TrodVars enc P W' sp s.vars (s.fn H (ds++gs)).vars pv)
 (hps:before=pa++pv) (hk:W.keptBut W' (· ∈ before)):
 s.post enc P f apart yO handsOn false W args v W':=by
 have hold: ∀ p ∈ before,(fun b=>decide (b < W.heap.size)) p.block=true:=fun p hp=>by simpa using hW.lt p hp
 refine ⟨ds,gs,before,[],pa,pv,hW,hres _ _ _,hargs _ hold,hvars _ hold,World.keptBut_mono (fun p hp=>⟨hp, ?_⟩) hk,fun h=>by cases h⟩
 rw [hps,List.mem_append]at hp
 exact Or.inr hp
theorem qen {W W':World} (h:Below W.heap.size W W') (may:MemPlace→Prop):W.keptBut W' may:=by
 refine ⟨h.os,h.output,fun i hi=> ?_⟩
 rw [h.block i hi]
 have hx:W.heap[i]? =some W.heap[i]:=Array.getElem?_eq_getElem hi
 rw [hx]
 cases W.heap[i]with
 |cells c t fr=>exact ⟨rfl,rfl,rfl,fun _ _=>rfl⟩
 |map es clock=>exact .inr ⟨rfl,rfl⟩
 |_=>first|rfl|trivial
theorem qdV(hl:laidOutB P=true) {W W':World} (hb:Below W.heap.size W W'): ∀ {ts:List TypeId} {vs:List Value} {ds:List (DataW H)} {ps:List MemPlace},(ts.all fun t=>P.readableRec t&&decide (t < P.types.size))=true→
 DataW.TrodAll enc P W 0 (fun _=>true) true ts vs ds ps→(∀ p ∈ ps,p.block < W.heap.size)→ ∀ sp:Nat→Bool,(∀ p ∈ ps,sp p.block=true)→DataW.TrodAll enc P W' 0 sp true ts vs ds ps
 |[],[],[],ps,_,h,_,_,_=>h
 |t::ts,v::vs,d::ds,ps,hr,h,hlt,sp,hsp=>by
  simp only [List.all_cons,Bool.and_eq_true,decide_eq_true_eq]at hr
  obtain ⟨p,q,h1,h2,rfl⟩:=h
  refine ⟨p,q, ?_, ?_,rfl⟩
  ·exact WideElems.Trod_stays hl hr.1.1 hr.1.2 h1 (fun x hx=>hb.same (hlt x (List.mem_append_left _ hx))) (fun x hx=>hsp x (List.mem_append_left _ hx))
  ·exact qdV hl hb hr.2 h2 (fun x hx=>hlt x (List.mem_append_right _ hx)) sp (fun x hx=>hsp x (List.mem_append_right _ hx))
 |[],_::_,_,_,_,h,_,_,_=>h.elim
 |[],[],_::_,_,_,h,_,_,_=>h.elim
 |_::_,[],_,_,_,h,_,_,_=>h.elim
 |_::_,_::_,[],_,_,h,_,_,_=>h.elim
section
variable [Lay]
def Y6(w:World):Prop:=(∀ b,Lay.B b→b < w.heap.size)∧Lay.L w
theorem qe9(w:World) (h:Y6 w):Good (y1 w) c0:=⟨fun _=>Nat.zero_le _,fun _ _ h=>⟨rfl,h⟩,fun _ h=>h,fun _ h=>absurd rfl h,⟨fun b hb=>h.1 b hb,h.2⟩⟩
theorem qgv {prog:Nat→Option AE} (hK:jt P prog) {f:FuncId} {xs:List V} {vs:List Value} {outs:List V} {fn:Func} (hfn:P.funcs[f]? =some fn) (hb:fn.body.isSome=true) (hn:(fn.name== "runtime.NumGoroutine")=false)
 (h:cw prog f xs=some (B true,outs)) (hr:qi (y1 w) xs vs c0) (hL:Y6 w):
 Calls P f vs.toArray w fun e w'=>e= .returned (.bool true)∧Below w.heap.size w w':=by
 obtain ⟨n,hn'⟩:=Qb.1 h
 have hc:=qau hK n f xs (B true) outs hn' (y1 w) vs c0 (by rw [qeZ];exact hr) (qe9 w hL)
 obtain ⟨code,hcode⟩:=Option.isSome_iff_exists.1 hb
 have hne:fn.name ≠ "runtime.NumGoroutine" :=by simpa using hn
 have hcf:(callFunc f vs.toArray).run P w= .ok (.enter f vs.toArray) w:=by
  simp [callFunc,hfn,hne,hcode]
 rw [show (y1 w).w=w from rfl,hcf]at hc
 refine hc.2.mono ?_
 rintro e w' ⟨y,rfl,E',cr,co,rfl,hy,-,-,hA⟩
 refine ⟨?_,hA.os,hA.tape,hA.output,hA.size,fun b hb=>hA.frame b hb rfl⟩
 simp only [B,Rel]at hy
 rw [hy.1]
theorem qgR {base:Nat} {t:TypeId} {v:Value} (hok:jF P St t=true) (h:Value.okWide P w .any base t v):
 (yA P t=true→ ∃ cs,v= .agg cs)∧(yA P t=false→v.cells.toList=[v]):=by
 unfold jF at hok
 unfold Value.okWide at h
 unfold yA
 cases hu:P.underlying t with
 |none=>rw [hu]at hok;cases hok
 |some u=>
  rw [hu]at hok
  simp only [hu]at h ⊢
  cases u<;>first|cases hok|skip
  all_goals first
   |(obtain ⟨cs,rfl,-⟩:=h;exact ⟨fun _=>⟨cs,rfl⟩,fun h=>(by cases h)⟩)
   |skip
  all_goals refine ⟨fun h=>(by cases h),fun _=> ?_⟩
  all_goals cases v<;>first|rfl|skip
  all_goals exfalso;unfold Cell.okWide at h;rw [hu]at h;simp only at h;unfold Cell.ok at h;rw [hu]at h;exact h
theorem qek(hS: ∀ t ∈ St,jF P St t=true) {base:Nat} {t:TypeId} {v:Value} {d:DataW H} {ps:List MemPlace} (ht:t ∈ St) (hv:Value.okWide P w .any base t v) (h:DataW.Trod enc P w 0 (fun _=>true) true t v d ps):
 ∃ n xs,Rel (y1 w) (xc P t xs) v c0∧Shp P n t xs∧zu xs≤zC d:=by
 obtain ⟨n,h⟩:=h
 obtain ⟨xs,hr,hsh,hb,hlen,hon,hx⟩:=qdW hS n t v.cells.toList d ps ht h
 refine ⟨n,xs, ?_,hsh,hb⟩
 have hst:yA P t=true∨(xs.length=1∧zz v.cells.toList):=by
  cases hi:yA P t
  ·obtain ⟨x',hx',-⟩:=hx hi;exact .inr ⟨by simp [hx'],hon⟩
  ·exact .inl rfl
 have h1:=(qdi (P:=P) (t:=t) hr hst).1
 have hl:=qgR (hS t ht) hv
 have:jh P t v.cells.toList=v:=by
  unfold jh
  unfold yA at hl
  split
  ·rename_i fs hu
   simp only [hu]at hl
   obtain ⟨cs,rfl⟩:=hl.1 trivial
   simp [Value.cells]
  ·rename_i hq
   have h2:v.cells.toList=[v]:=hl.2 (by
    split
    ·rename_i fs hu;exact absurd hu (hq fs)
    ·rfl)
   rw [h2];rfl
 rwa [this]at h1
theorem qgw {prog:Nat→Option AE} (hK:jt P prog) (hl:laidOutB P=true) {f:FuncId} {fn:Func} (hfn:P.funcs[f]? =some fn) (hb:fn.body.isSome=true) (hn:(fn.name== "runtime.NumGoroutine")=false)
 {tb:TypeId} (hres:fn.resultTypes= #[tb]) (htb:P.underlying tb=some .bool) (hread:(fn.params.toList.all fun t=>P.readableRec t&&decide (t < P.types.size))=true)
 {s:ChangeSpec} (hvars:s.vars=[]) {apart yO handsOn:Bool} {W:World} {args:Array Value} {ds gs:List (DataW H)} {before:List MemPlace}
 (hW:DataW.Whole enc P fn.params.toList s.vars apart W args.toList ds gs before) (hspec:gs=[]→s.fn H (ds++gs)={results:=[.lit (.bool true)],args:=ds})
 (hL:Y6 W) (hH: ∃ xs outs,qi (y1 W) xs args.toList c0∧cw prog f xs=some (B true,outs)):
 Calls P f args W fun e W'=> ∃ v,e= .returned v∧s.post enc P fn apart yO handsOn false W args v W':=by
 obtain ⟨xs,outs,hr,hc⟩:=hH
 have hlt:=hW.lt
 have hW':=hW
 obtain ⟨p,q,hA,hV,rfl,hfz,hnd⟩:=hW
 rw [hvars]at hV
 obtain ⟨rfl,rfl⟩:gs=[]∧q=[]:=by
  cases gs with
  |nil=>exact ⟨rfl,hV⟩
  |cons=>exact hV.elim
 have hsp:=hspec rfl
 have hcall:=qgv hK hfn hb hn hc hr hL
 rw [Array.toArray_toList]at hcall
 refine hcall.mono ?_
 rintro e W' ⟨rfl,hbel⟩
 refine ⟨_,rfl,qhs (pa:=p) (pv:=[]) hW' ?_ ?_ ?_ rfl (qen hbel _)⟩
 ·intro b sp hd
  rw [hsp,hres]
  exact ChangeShapes.trodAll_mk1 (RowKit.shut_bool htb true)
 ·intro sp hsp'
  rw [hsp]
  exact qdV hl hbel hread hA (fun x hx=>hlt x (by simpa using hx)) sp (fun x hx=>hsp' x (by simpa using hx))
 ·intro sp _
  rw [hsp,hvars]
  rfl
end
theorem qiB {n:Nat} {t:TypeId} {xs:List V} (hu:P.underlying t=some .string) (h:Shp P n t xs): ∃ l,xs=[S l]:=by
 cases n with
 |zero=>simp [Shp]at h
 |succ n=>simp only [Shp,hu]at h;exact h
theorem qja {e:TypeId} {z:V} (hu:P.underlying e=some .string):xc P e [z]=z:=by simp [xc,hu]
theorem qew(l:List UInt8):xV (S l)=l.length+1:=by simp [S,xV,ByteArray.size]
structure TyTerm (P:Program) (tT tS ti ts:TypeId):Prop where
 hT: ∃ fs,P.underlying tT=some (.struct fs)∧fs.toList.map (·.type)=[ti,ts,ti,tS]
 hS:P.underlying tS=some (.slice tT)
 hi:P.underlying ti=some (.int .i64)
 hs:P.underlying ts=some .string
def RdC(P:Program) (t:TypeId) {α:Type} (Rc:α→List V→Prop) (W:α→Prop):Prop:=
 ∀ n xs,Shp P n t xs→zu xs≤Lm→1≤zu xs∧ ∃ x,Rc x xs∧W x
def cI(n:Int) (xs:List V):Prop:=xs=[I n]
def cB(b:Bool) (xs:List V):Prop:=xs=[B b]
def cS(s:Str) (xs:List V):Prop:=xs=[S s]
def cA {α:Type} (R:α→V→Prop) (x:α) (xs:List V):Prop:=R x (.a xs)
def cL {α:Type} (R:α→V→Prop) (l:List α) (xs:List V):Prop:= ∃ vs,xs=[.i false vs]∧RL R l vs
def wL {α:Type} (W:α→Prop) (l:List α):Prop:=l.length≤Lm∧ ∀ x ∈ l,W x
theorem qhI {t:TypeId} (hu:P.underlying t=some .string):RdC P t cS (fun s=>s.length≤Lm):=fun n xs h hb=>by
 obtain ⟨k,rfl⟩:=qiB hu h
 simp only [zu,qew]at hb ⊢
 exact ⟨by omega,k,rfl,by omega⟩
end
end Go.Vm
namespace Go.Vm
section
variable [Lay] {P:Program} {E:Env} {c:Cnt} {w':World}
structure Adds (w w':World):Prop where
 os:w'.os=w.os
 tape:w'.tape=w.tape
 output:w'.output=w.output
 size:w.heap.size≤w'.heap.size
 old: ∀ b,b < w.heap.size→w'.heap[b]? =w.heap[b]?
theorem qd0(w:World):Adds w w:=⟨rfl,rfl,rfl,Nat.le_refl _,fun _ _=>rfl⟩
theorem Adds.adv(h:Adds E.w w') (hg:Good E c):Mono E {E with w:=w'} c∧Good {E with w:=w'} c∧Adv E c {E with w:=w'} c:=by
 refine ⟨⟨fun τ b hb=>⟨hb,h.old b (hg.imm τ b hb).2⟩,fun b hb=>h.old b (hg.bnd b hb),fun k l h=>h⟩,
  ⟨hg.one,fun τ b hb=>⟨(hg.imm τ b hb).1,Nat.lt_of_lt_of_le (hg.imm τ b hb).2 h.size⟩,hg.sub,fun b hb=>Nat.lt_of_lt_of_le (hg.bnd b hb) h.size,hg.lay.next (fun b hb=>hb) (fun b hb=>h.old b (hg.imm false b hb).2)⟩,
  ⟨fun b n hn=>by rw [Zy (h.old b (Xd hn))];exact hn,h.os,h.tape,h.output,h.size,fun b hb _=>h.old b hb,fun _ _ h=>h,fun b hb=> .inl hb,fun τ b hb=> .inl hb⟩⟩
theorem qhu {f:Nat} {fn:Func} {xs:List V} {r:V} {x:Value} (hfn:P.funcs[f]? =some fn) (hb:fn.body.isSome=true) (hn:(fn.name== "runtime.NumGoroutine")=false) (hr:r= .v x) (hx:zI x=false)
 (h: ∀ (E:Env) (vs:List Value),qi E.cl xs vs c0→Lay.L E.w→Calls P f vs.toArray E.w fun e w'=>e= .returned x∧Adds E.w w') (hz: ∀ (E:Env) vs c,qi E.cl xs vs c→c=c0):
 jZ P f xs r xs:=by
 intro E vs c hxs hg
 have h0:=hz E vs c hxs
 subst h0
 obtain ⟨code,hcode⟩:=Option.isSome_iff_exists.1 hb
 have hne:fn.name ≠ "runtime.NumGoroutine" :=by simpa using hn
 have hcf:(callFunc f vs.toArray).run P E.w= .ok (.enter f vs.toArray) E.w:=by
  simp [callFunc,hfn,hne,hcode]
 rw [hcf]
 refine ⟨rfl,(h E vs hxs hg.lay.ll).mono ?_⟩
 rintro e w' ⟨rfl,ha⟩
 obtain ⟨hm,hg',hA⟩:=ha.adv hg
 refine ⟨x,rfl,{E with w:=w'},c0,c0,rfl, ?_,yf hxs (hm.cl), ?_, ?_⟩
 ·subst hr;simp [Rel,hx]
 ·rw [j8];exact hg'
 ·rw [j8];exact hA
end
def qtb:List V→Option (V × List V)
 |[.v (.int .i64 n)]=>if -9223372036854775808≤n∧n≤9223372036854775807 then some (S (Lib.itoa n),[I n])else none
 |_=>none
theorem qbh {prog:Nat→Option AE} {f:Nat} {g:List V→Option (V × List V)} (h:prog f=some (.prim g)) (xs:List V):cw prog f xs=g xs:=by
 apply xl
 intro r
 rw [Qb]
 constructor
 ·rintro ⟨n,hn⟩
  cases n with
  |zero=>simp [qX]at hn
  |succ n=>simpa only [qX,h]using hn
 ·intro hr
  exact ⟨1,by simpa only [qX,h]using hr⟩
def qte:List V→Option (V × List V)
 |[.v (.string s),.v (.int .u8 c)]=>some (I (Lib.indexByte s.data.toList c.toNat.toUInt8),[.v (.string s),.v (.int .u8 c)])
 |_=>none
def qiR:V→Option Str
 | .v (.string s)=>some s.data.toList
 |_=>none
def qdL:List V→Option (List Str)
 |[]=>some []
 |x::xs=>match qiR x,qdL xs with
  |some s,some ss=>some (s::ss)
  |_,_=>none
def qtf:List V→Option (V × List V)
 |[.i τ xs,.v (.string p)]=>match qdL xs with
  |some ss=>if xs.length≤140737488355328∧(Lib.join ss p.data.toList).length≤140737488355328 then some (S (Lib.join ss p.data.toList),[.i τ xs,.v (.string p)])else none
  |none=>none
 |_=>none
def jS:List V→Option (V × List V)
 |[.v (.string s),.v (.string p)]=>match p.data.toList with
  |[c]=>if c.toNat < 128∧s.size≤9223372036854775807 then some (S (Lib.trimB s.data.toList c),[.v (.string s),.v (.string p)])else none
  |_=>none
 |_=>none
theorem qeN {prog:Nat→Option AE} {f:Nat} (h:prog f=some (.prim jS)) (s:Str) (c:UInt8) (h0:c.toNat < 128) (h1:s.length≤9223372036854775807):cr prog f [S s,S [c]]=some (S (Lib.trimB s c)):=by
 unfold cr
 rw [qbh h]
 show (jS [.v (.string ⟨s.toArray⟩),.v (.string ⟨[c].toArray⟩)]).map _=_
 simp only [jS]
 rw [if_pos ⟨h0,by show s.toArray.size≤_;simpa using h1⟩]
 rfl
def jN:List V→Option (V × List V)
 |[.v (.string s),.v (.string p)]=>match p.data.toList with
  |[c]=>if s.size < 4294967281 then some (.i false ((Lib.split s.data.toList [c]).map S),[.v (.string s),.v (.string p)])else none
  |_=>none
 |_=>none
theorem qeM {prog:Nat→Option AE} {f:Nat} (h:prog f=some (.prim jN)) (s:Str) (c:UInt8) (h1:s.length < 4294967281):cr prog f [S s,S [c]]=some (.i false ((Lib.split s [c]).map S)):=by
 unfold cr
 rw [qbh h]
 show (jN [.v (.string ⟨s.toArray⟩),.v (.string ⟨[c].toArray⟩)]).map _=_
 simp only [jN]
 rw [if_pos (by show s.toArray.size < _;simpa using h1)]
 rfl
theorem qc8(E:Env): ∀ ss:List Str,qj E 1 (ss.map S) (ss.map fun s=> .string ⟨s.toArray⟩) c0
 |[]=>by simp [qj]
 |s::ss=>by
  simp only [List.map_cons,qj]
  refine ⟨.string ⟨s.toArray⟩,_,c0,c0,rfl,rfl,rfl, ?_, ?_,qc8 E ss,rfl⟩
  ·intro z hz
   simp [Value.cells]at hz;subst hz;rfl
  ·simp [S,Rel,zI]
theorem qhv [Lay] {P:Program} {f:Nat} {fn:Func} {xs:List V} {ss:List Str} (hfn:P.funcs[f]? =some fn) (hb:fn.body.isSome=true) (hn:(fn.name== "runtime.NumGoroutine")=false)
 (h: ∀ (E:Env) (vs:List Value),qi E.cl xs vs c0→Lay.L E.w→Calls P f vs.toArray E.w fun e w'=> ∃ T,e= .returned (.slice (some ⟨E.w.heap.size,0,none⟩) ss.length ss.length)∧w'=E.w.alloc (.cells (ss.map fun s=>Value.string ⟨s.toArray⟩).toArray T)) (hz: ∀ (E:Env) vs c,qi E.cl xs vs c→c=c0):
 jZ P f xs (.i false (ss.map S)) xs:=by
 intro E vs c hxs hg
 have h0:=hz E vs c hxs
 subst h0
 obtain ⟨code,hcode⟩:=Option.isSome_iff_exists.1 hb
 have hne:fn.name ≠ "runtime.NumGoroutine" :=by simpa using hn
 have hcf:(callFunc f vs.toArray).run P E.w= .ok (.enter f vs.toArray) E.w:=by
  simp [callFunc,hfn,hne,hcode]
 rw [hcf]
 refine ⟨rfl,(h E vs hxs hg.lay.ll).mono ?_⟩
 rintro e w' ⟨T,rfl,rfl⟩
 have hold: ∀ b,b < E.w.heap.size→(E.w.alloc (.cells (ss.map fun s=>Value.string ⟨s.toArray⟩).toArray T)).heap[b]? =E.w.heap[b]? :=fun b hb=>by
  show (E.w.heap.push _)[b]? =_
  rw [Array.getElem?_push_lt hb,Array.getElem?_eq_getElem hb]
 have hsz:(E.w.alloc (.cells (ss.map fun s=>Value.string ⟨s.toArray⟩).toArray T)).heap.size=E.w.heap.size+1:=by
  show (E.w.heap.push _).size=_;simp
 have hnew:(E.w.alloc (.cells (ss.map fun s=>Value.string ⟨s.toArray⟩).toArray T)).heap[E.w.heap.size]? =some (.cells (ss.map fun s=>Value.string ⟨s.toArray⟩).toArray T (0,0)):=by
  show (E.w.heap.push _)[E.w.heap.size]? =_
  simp
 refine ⟨_,rfl,{E with w:=E.w.alloc (.cells (ss.map fun s=>Value.string ⟨s.toArray⟩).toArray T),I:=fun τ b=>E.I τ b∨b=E.w.heap.size},c0,c0,rfl, ?_, ?_, ?_, ?_⟩
 ·simp only [Rel]
  refine ⟨by trivial,some ⟨E.w.heap.size,0,none⟩,ss.length,by simp,by simp,.inr ⟨E.w.heap.size,0,1,_,T,(0,0),rfl,.inr rfl,hnew, ?_⟩⟩
  have hs:seg (ss.map fun s=>Value.string ⟨s.toArray⟩).toArray 0 ((ss.map S).length*1)=ss.map fun s=>Value.string ⟨s.toArray⟩:=by
   simp only [seg,List.drop_zero,List.length_map,Nat.mul_one]
   exact List.take_of_length_le (by simp)
  rw [hs]
  exact qc8 _ ss
 ·exact yf hxs ⟨fun τ b hb=>⟨.inl hb,hold b (hg.imm τ b hb).2⟩,fun b hb=>absurd rfl hb,fun k l hk=>hk⟩
 ·rw [j8]
  refine ⟨fun b=>Nat.zero_le _,fun τ b hb=>⟨rfl, ?_⟩,fun b hb=> ?_,fun b hb=>absurd rfl hb,hg.lay.next (fun b hb=> .inl hb) (fun b hb=>hold b (hg.imm false b hb).2)⟩
  ·rcases hb with hb|rfl
   ·exact Nat.lt_of_lt_of_le (hg.imm τ b hb).2 (by rw [hsz];omega)
   ·show E.w.heap.size < _;rw [hsz];omega
  ·exact hb.imp (hg.sub b) id
 ·rw [j8]
  refine ⟨fun b n hn=> ?_,rfl,rfl,rfl,by show E.w.heap.size≤_;rw [hsz];omega,fun b hb _=>hold b hb,fun _ _ h=> .inl h,fun b hb=>absurd rfl hb,fun τ b hb=> ?_⟩
  ·rw [Zy (hold b (Xd hn))];exact hn
  ·rcases hb with hb|rfl
   ·exact .inl hb
   ·exact .inr (.inr (Nat.le_refl _))
end Go.Vm
