import Derived.Test.YtbbkmeicdhnihaaGreatDoorT02
import Derived.Laws.Strings
import Derived.ChangeArms
import Derived.ProofKit
import Derived.OpenShut
import Derived.Sort.Grow
import Derived.Deep.Draws
import Derived.Lib.LaidTab
import Derived.Lib.ItoaNum
import Derived.Lib.Bytealg
import Derived.Lib.Join
import Derived.Lib.Split
import Derived.Lib.TrimByte
import Derived.Lib.SliceRun
set_option autoImplicit false
set_option linter.unusedVariables false
set_option linter.unusedSimpArgs false
namespace Go.Vm
section
variable {prog:Nat→Option AE} {st:St} {σ:Sl} {T:Mem} {call:ze} {a b:Int} {x y:List UInt8}
@[go_sem] theorem qJ4:qD .add (I a) (I b)=some (I (w64 (a+b))):=(rfl)
@[go_sem] theorem qKc:qD .sub (I a) (I b)=some (I (w64 (a - b))):=(rfl)
@[go_sem] theorem qKa:qD .mul (I a) (I b)=some (I (w64 (a*b))):=(rfl)
@[go_sem] theorem qJ9:qD .lss (I a) (I b)=some (B (decide (a < b))):=(rfl)
@[go_sem] theorem qJ8:qD .leq (I a) (I b)=some (B (decide (a≤b))):=(rfl)
@[go_sem] theorem qJ7:qD .gtr (I a) (I b)=some (B (decide (b < a))):=(rfl)
@[go_sem] theorem qJ6:qD .geq (I a) (I b)=some (B (decide (b≤a))):=(rfl)
@[go_sem] theorem qJ5:qD .eql (I a) (I b)=some (B (decide (a=b))):=by
 have:(a==b)=decide (a=b):=by rw [Bool.eq_iff_iff];simp
 exact congrArg (fun t=>some (B t)) this
@[go_sem] theorem qKb:qD .neq (I a) (I b)=some (B (decide (a ≠ b))):=by
 have:(a != b)=decide (a ≠ b):=by rw [Bool.eq_iff_iff];simp
 exact congrArg (fun t=>some (B t)) this
@[go_sem] theorem qJY:qD .lss (U8 a) (U8 b)=some (B (decide (a < b))):=(rfl)
@[go_sem] theorem qJX:qD .leq (U8 a) (U8 b)=some (B (decide (a≤b))):=(rfl)
@[go_sem] theorem qJW:qD .gtr (U8 a) (U8 b)=some (B (decide (b < a))):=(rfl)
@[go_sem] theorem qJV:qD .geq (U8 a) (U8 b)=some (B (decide (b≤a))):=(rfl)
@[go_sem] theorem qJT:qD .add (U8 a) (U8 b)=some (U8 (IntKind.u8.wrap (a+b))):=(rfl)
@[go_sem] theorem qJU:qD .eql (U8 a) (U8 b)=some (B (decide (a=b))):=by
 have:(a==b)=decide (a=b):=by rw [Bool.eq_iff_iff];simp
 exact congrArg (fun t=>some (B t)) this
@[go_sem] theorem qJZ:qD .neq (U8 a) (U8 b)=some (B (decide (a ≠ b))):=by
 have:(a != b)=decide (a ≠ b):=by rw [Bool.eq_iff_iff];simp
 exact congrArg (fun t=>some (B t)) this
theorem qgG:(ByteArray.mk x.toArray).toList=x:=by rw [ByteArray.toList_eq]
@[go_sem] theorem qJ0:qD .eql (S x) (S y)=some (B (decide (x=y))):=by
 have:(Op.stringOp .eql ⟨x.toArray⟩ ⟨y.toArray⟩).val? =some (.bool (decide (x=y))):=by
  simp only [Op.stringOp,qgG]
  have:(x==y)=decide (x=y):=by rw [Bool.eq_iff_iff];simp
  rw [this];rfl
 exact congrArg (Option.map V.v) this
@[go_sem] theorem qJ3:qD .neq (S x) (S y)=some (B (decide (x ≠ y))):=by
 have:(Op.stringOp .neq ⟨x.toArray⟩ ⟨y.toArray⟩).val? =some (.bool (decide (x ≠ y))):=by
  simp only [Op.stringOp,qgG]
  have:(!x==y)=decide (x ≠ y):=by rw [Bool.eq_iff_iff];simp
  rw [this];rfl
 exact congrArg (Option.map V.v) this
@[go_sem] theorem qJ2:qD .lss (S x) (S y)=some (B (Op.bytesLess x y)):=by
 have:(Op.stringOp .lss ⟨x.toArray⟩ ⟨y.toArray⟩).val? =some (.bool (Op.bytesLess x y)):=by
  simp only [Op.stringOp,qgG];rfl
 exact congrArg (Option.map V.v) this
@[go_sem] theorem qJ1:qD .gtr (S x) (S y)=some (B (!(Op.bytesLess x y||decide (x=y)))):=by
 have:(Op.stringOp .gtr ⟨x.toArray⟩ ⟨y.toArray⟩).val? =some (.bool (!(Op.bytesLess x y||decide (x=y)))):=by
  simp only [Op.stringOp,qgG]
  have:(x==y)=decide (x=y):=by rw [Bool.eq_iff_iff];simp
  rw [this];rfl
 exact congrArg (Option.map V.v) this
theorem zl(h:x.length+y.length≤9223372036854775807):qD .add (S x) (S y)=some (S (x++y)):=by
 have:(Op.stringOp .add ⟨x.toArray⟩ ⟨y.toArray⟩).val? =some (.string ⟨(x++y).toArray⟩):=by
  simp only [Op.stringOp,ByteArray.size,List.size_toArray]
  rw [if_neg (by simp [IntKind.max,IntKind.signed,IntKind.bits];omega)]
  have:(ByteArray.mk x.toArray++ByteArray.mk y.toArray)=⟨(x++y).toArray⟩:=by
   apply ByteArray.ext
   simp
  rw [this];rfl
 exact congrArg (Option.map V.v) this
theorem qlu(h:b ≠ 0):qD .quo (I a) (I b)=some (I (w64 (a.tdiv b))):=by
 have:(Op.intDiv .quo .i64 a b).val? =some (.int .i64 (w64 (a.tdiv b))):=by
  simp only [Op.intDiv,if_neg h];rfl
 exact congrArg (Option.map V.v) this
theorem ZK(h:b ≠ 0):qD .rem (I a) (I b)=some (I (a.tmod b)):=by
 have:(Op.intDiv .rem .i64 a b).val? =some (.int .i64 (a.tmod b)):=by
  simp only [Op.intDiv,if_neg h];rfl
 exact congrArg (Option.map V.v) this
@[go_sem] theorem qOa {p q:Bool}:eqV 0 (B p) (B q)=some (p==q):=(rfl)
@[go_sem] theorem qOc {e e':Nat}:eqV 2 (.n e) (.n e')=some true:=(rfl)
@[go_sem] theorem qOb {e:Nat} {τ:Bool} {z:V} {zs:List V}:eqV 2 (.i τ (z::zs)) (.n e)=some false:=(rfl)
@[go_sem] theorem qQA {α β:Type} {f:α→β} {z:α}:(some z).map f=some (f z):=(rfl)
def ldO(ob:Option Ob) (idx:Nat) (agg:Bool) (size off:Nat):Option V:=
 match ob with
 |some ob=>qr ob.2[idx]? fun x=>zh agg size x off
 |none=>none
@[go_sem] theorem qPV {e idx size off:Nat} {xs:List V} {agg:Bool}:ldO (some (e,xs)) idx agg size off=qr xs[idx]? fun x=>zh agg size x off:=(rfl)
@[go_sem] theorem qQk {k:Key} {idx off size:Nat} {agg:Bool}:x6 T agg size (.p k idx off)=ldO (qt T k) idx agg size off:=by
 simp only [x6,ldO]
 cases qt T k with
 |none=>rfl
 |some ob=>simp only;cases ob.2[idx]? <;>rfl
@[go_sem] theorem qQl {τ:Bool} {xs:List V} {idx off size:Nat} {agg:Bool}:x6 T agg size (.q τ xs idx off)=qr xs[idx]? fun x=>zh agg size x off:=by
 simp only [x6];cases xs[idx]? <;>rfl
@[go_sem] theorem qP6 {n:Nat} {cs:List V} {off:Nat}:zh true n (.a cs) off=if off=0∧cs.length=n then some (.a cs)else if off+n≤cs.length then some (.a ((cs.drop off).take n))else none:=by
 unfold zh
 simp only [V.cells,V.isA,if_true]
 by_cases h:off=0∧cs.length=n
 ·simp only [h.1,h.2,and_self,if_true]
 ·rw [if_neg h,if_neg (fun h'=>h ⟨h'.1,h'.2.1⟩)];by_cases h2:off+n≤cs.length<;>simp only [h2,if_true,if_false]
@[go_sem] theorem qP7 {n:Nat} {cs:List V} {off:Nat}:zh false n (.a cs) off=cs[off]? :=(rfl)
@[go_sem] theorem qP0 {n:Nat}:zh false n (I a) 0=some (I a):=(rfl)
@[go_sem] theorem qP2 {n:Nat}:zh false n (S x) 0=some (S x):=(rfl)
@[go_sem] theorem qPZ {n:Nat} {p:Bool}:zh false n (B p) 0=some (B p):=(rfl)
@[go_sem] theorem qP4 {n:Nat}:zh false n (U8 a) 0=some (U8 a):=(rfl)
@[go_sem] theorem qP9 {n:Nat} {τ:Bool} {xs:List V}:zh false n (.i τ xs) 0=some (.i τ xs):=(rfl)
@[go_sem] theorem qQd {n:Nat} {k:Key} {lo len:Nat}:zh false n (.s k lo len) 0=some (.s k lo len):=(rfl)
@[go_sem] theorem qQc {n e:Nat} {xs:List V}:zh false n (.o e xs) 0=some (.o e xs):=(rfl)
@[go_sem] theorem qQb {n e:Nat}:zh false n (.n e) 0=some (.n e):=(rfl)
@[go_sem] theorem qP8 {n:Nat} {fn:Fn} {xs ys:List V}:zh false n (.f fn xs ys) 0=some (.f fn xs ys):=(rfl)
def stO(T:Mem) (k:Key) (ob:Option Ob) (idx off:Nat) (y:V):Option Mem:=
 match ob with
 |some ob=>match ob.2[idx]? with
  |some x=>match Z2 x off y with
   |some x'=>some ((k,ob.1,ob.2.set idx x')::qE T k)
   |none=>none
  |none=>none
 |none=>none
@[go_sem] theorem qU6 {k:Key} {idx off:Nat} {y:V}:Z3 T (.p k idx off) y=stO T k (qt T k) idx off y:=(rfl)
@[go_sem] theorem qU4 {k:Key} {idx off e:Nat} {xs:List V} {y:V}:stO T k (some (e,xs)) idx off y=qr xs[idx]? fun x=>qr (Z2 x off y) fun x'=>some ((k,e,xs.set idx x')::qE T k):=by
 simp only [stO]
 cases xs[idx]? with
 |none=>rfl
 |some x=>simp only [qr];cases Z2 x off y<;>rfl
attribute [go_sem] Z2
@[go_sem] theorem qNX {z:V} {zs:List V}:(z::zs)[0]? =some z:=(rfl)
@[go_sem] theorem qNY {z:V} {zs:List V} {n:Nat}:(z::zs)[n+1]? =zs[n]? :=by simp
@[go_sem] theorem qUY {z z':V} {zs:List V}:(z::zs).set 0 z'=z'::zs:=(rfl)
@[go_sem] theorem qUZ {z z':V} {zs:List V} {n:Nat}:(z::zs).set (n+1) z'=z::zs.set n z':=(rfl)
attribute [go_sem] List.length_cons List.length_nil List.take_zero List.take_succ_cons List.drop_zero List.drop_succ_cons List.nil_append List.cons_append List.append_nil List.length_append
def ixO(k:Key) (lo len e:Nat) (i:Int) (ob:Option Ob):Option V:=
 match ob with
 |some ob=>if ob.1=e∧lo+len≤ob.2.length then (yj i len).map fun j=> .p k (lo+j) 0 else none
 |none=>none
@[go_sem] theorem qJq {k:Key} {lo len e:Nat} {i:Int}:jj T e (.s k lo len) i=ixO k lo len e i (qt T k):=(rfl)
theorem x3 {k:Key} {len e:Nat} {xs:List V} {i:Nat} (h:i < len) (hl:len≤xs.length):ixO k 0 len e (i:Int) (some (e,xs))=some (.p k i 0):=by
 simp only [ixO,yj]
 rw [if_pos ⟨trivial,by omega⟩,if_pos ⟨by omega,by omega⟩]
 simp
theorem qZ {τ:Bool} {xs:List V} {e:Nat} {i:Nat} {z:V} (h:xs[i]? =some z) (hz:z.cells.length=e):jj T e (.i τ xs) (i:Int)=some (.q τ xs i 0):=by
 have hl:i < xs.length:=(List.getElem?_eq_some_iff.1 h).1
 simp only [jj,yj]
 rw [if_pos ⟨by omega,by omega⟩]
 simp only [Int.toNat_natCast,h,Option.getD_some,hz,if_true]
def elO(e lo len:Nat) (ob:Option Ob):Option (List V):=
 match ob with
 |some ob=>if ob.1=e∧lo+len≤ob.2.length then some ((ob.2.drop lo).take len)else none
 |none=>none
@[go_sem] theorem qN1 {k:Key} {lo len e:Nat}:jM T e (.s k lo len)=elO e lo len (qt T k):=(rfl)
@[go_sem] theorem qNW {e e' lo len:Nat} {xs:List V}:elO e lo len (some (e',xs))=if e'=e∧lo+len≤xs.length then some ((xs.drop lo).take len)else none:=(rfl)
@[go_sem] theorem qNZ {e:Nat} {τ:Bool} {xs:List V}:jM T e (.i τ xs)=some xs:=(rfl)
@[go_sem] theorem qN0 {e e':Nat}:jM T e (.n e')=some []:=(rfl)
def apO(e lo len:Nat) (T':Mem) (ob:Option Ob):Option (List V × Mem):=
 match ob with
 |some ob=>if ob.1=e∧lo+len≤ob.2.length then some ((ob.2.drop lo).take len,T')else none
 |none=>none
@[go_sem] theorem qJv {e e':Nat}:QW T e (.n e')=some ([],T):=(rfl)
@[go_sem] theorem qJw {k:Key} {lo len e:Nat}:QW T e (.s k lo len)=apO e lo len (qE T k) (qt T k):=(rfl)
@[go_sem] theorem qJt {e e' lo len:Nat} {xs:List V}:apO e lo len T (some (e',xs))=if e'=e∧lo+len≤xs.length then some ((xs.drop lo).take len,T)else none:=(rfl)
def XD {α:Type} (r:Option (List V × Mem)) (k:List V→Mem→Option α):Option α:=
 match r with
 |some (xs,T)=>k xs T
 |none=>none
@[congr] theorem qKt {α:Type} {r r':Option (List V × Mem)} {k:List V→Mem→Option α} (h:r=r'):XD r k=XD r' k:=by rw [h]
@[go_sem] theorem qKu {α:Type} {xs:List V} {k:List V→Mem→Option α}:XD (some (xs,T)) k=k xs T:=(rfl)
@[go_sem] theorem qJu {e:Nat} {y:V}:JQ T e y=yC (jM T e y) fun ys=>zW (ya ys) (some (ys,T)) (QW T e y):=by
 unfold JQ
 cases jM T e y with
 |none=>rfl
 |some ys=>simp only [yC,zW]
@[go_sem] theorem qOr {d e bytes:Nat} {x y:AO}:qp call ⟨σ,T⟩ (.app d e bytes x y)=qr (ev σ x) fun x=>qr (ev σ y) fun y=>XD (JQ T e y) fun ys Ty=>XD (QW Ty e x) fun xs T'=>
 kS (xV e ys&&decide ((xs.length+ys.length)*bytes≤lim)&&decide (xs.length+ys.length≤lim))
  (some ⟨(d,.s (d,0) 0 (xs.length+ys.length))::x5 d σ,((d,0),e,qB d (xs++ys))::wT d T'⟩):=by
 simp only [qp,qj,qh2]
 cases ev σ x with
 |none=>rfl
 |some x=>cases ev σ y with
  |none=>rfl
  |some y=>
   simp only [qr]
   cases JQ T e y with
   |none=>rfl
   |some q=>
    obtain ⟨ys,Ty⟩:=q
    simp only [XD]
    cases QW Ty e x<;>rfl
theorem qM:lim=1099511627776:=(rfl)
def qcE(d:Option Nat) (k:Nat):Bool:=
 match d with
 |none=>false
 |some d=>decide (d=k)
@[go_sem] theorem qNc {k:Nat}:qcE none k=false:=(rfl)
@[go_sem] theorem qNd {d k:Nat}:qcE (some d) k=decide (d=k):=(rfl)
def YE {α:Type} (o:Option Nat) (x:α) (k:Nat→α):α:=
 match o with
 |none=>x
 |some d=>k d
@[congr] theorem qNe {α:Type} {o o':Option Nat} {x:α} {k:Nat→α} (h:o=o'):YE o x k=YE o' x k:=by rw [h]
@[go_sem] theorem qNg {α:Type} {d:Nat} {x:α} {k:Nat→α}:YE (some d) x k=k d:=(rfl)
@[go_sem] theorem qNf {α:Type} {x:α} {k:Nat→α}:YE none x k=x:=(rfl)
@[go_sem] theorem qJy:zZ call [] [] st=some st:=(rfl)
@[go_sem] theorem qJx {p:Dp} {ps:List Dp} {i:AI} {is:List AI}:zZ call (p::ps) (i::is) st=jm (kd call p i st) fun st=>zZ call ps is st:=by
 simp only [zZ];cases kd call p i st<;>rfl
@[go_sem] theorem qU5 {p:Dp} {i:AI}:kd call p i ⟨σ,T⟩=jm (qp call ⟨zL σ (qY i),x8 T p.ks⟩ i) fun st'=>YE (qx i) (some ⟨σ,XQ p none st'.T T⟩)
 (fun d=>qr (qF st'.σ d) fun x=>some ⟨(d,x)::σ,XQ p (some d) st'.T T⟩):=by
 unfold kd YE
 simp only
 cases qp call ⟨zL σ (qY i),x8 T p.ks⟩ i with
 |none=>rfl
 |some st'=>
  simp only [jm]
  cases qx i with
  |none=>rfl
  |some d=>simp only;cases qF st'.σ d<;>rfl
attribute [go_sem] QE qgI qL YI
@[go_sem] theorem qJs:yg [] []=[]:=(rfl)
@[go_sem] theorem qJr {k:Nat} {ks:List Key} {ps:List Dp} {i:AI} {is:List AI}:yg (⟨k,ks⟩::ps) (i::is)=if k=0 then yg ps is else YE (qx i) (yg ps is) fun d=>d::yg ps is:=by
 simp only [yg];cases qx i<;>rfl
@[go_sem] theorem qTd {k:Nat} {ks:List Key} {d:Option Nat} {x:Key}:Dp.own ⟨k,ks⟩ d x=((decide (k=1)&&xZ x ks)||(!decide (k=0)&&qcE d x.1)):=by
 have h1: ∀ ks:List Key,ks.contains x=xZ x ks:=by
  intro ks
  induction ks with
  |nil=>rfl
  |cons u r ih=>
   simp only [List.contains_cons,xZ,ih]
   by_cases h:u=x
   ·subst h;simp
   ·have:(x==u)=false:=by simpa using fun h'=>h h'.symm
    simp [h,this]
 simp only [Dp.own,h1]
 have h2:(d==some x.1)=qcE d x.1:=by
  cases d with
  |none=>rfl
  |some d=>simp only [qcE];by_cases h:d=x.1<;>simp [h]
 rw [h2]
 have h3:(k==1)=decide (k=1):=by rw [Bool.eq_iff_iff];simp
 have h4:(k != 0)= !decide (k=0):=by rw [Bool.eq_iff_iff];simp
 rw [h3,h4]
@[go_sem] theorem qVN:kg [] st=st:=(rfl)
@[go_sem] theorem qVh {n:Nat}:qQ (.t n)=[n]:=(rfl)
@[go_sem] theorem qVg {z:V}:qQ (.c z)=[]:=(rfl)
@[go_sem] theorem qVe:Zk none=[]:=(rfl)
@[go_sem] theorem qVf {z:AO}:Zk (some z)=qQ z:=(rfl)
@[go_sem] theorem qNA {d:Nat} {x:AO}:qx (.mv d x)=some d:=(rfl)
@[go_sem] theorem qVB {d:Nat} {x:AO}:qY (.mv d x)=qQ x:=(rfl)
@[go_sem] theorem qNE {d:Nat} {x:AO} {y:AO} {z:AO}:qx (.pick d x y z)=some d:=(rfl)
@[go_sem] theorem qVF {d:Nat} {x:AO} {y:AO} {z:AO}:qY (.pick d x y z)=qQ x++(qQ y++qQ z):=(rfl)
@[go_sem] theorem qNC {d:Nat} {x:AO}:qx (.new d x)=some d:=(rfl)
@[go_sem] theorem qVD {d:Nat} {x:AO}:qY (.new d x)=qQ x:=(rfl)
@[go_sem] theorem qNj {d:Nat} {v:V} {bs:List (Nat × Nat × AO)}:qx (.build d v bs)=some d:=(rfl)
@[go_sem] theorem qVk {d:Nat} {v:V} {bs:List (Nat × Nat × AO)}:qY (.build d v bs)=qgI bs:=(rfl)
@[go_sem] theorem qNz {d:Nat} {e:Nat} {xs:List AO}:qx (.mks d e xs)=some d:=(rfl)
@[go_sem] theorem qVA {d:Nat} {e:Nat} {xs:List AO}:qY (.mks d e xs)=QE xs:=(rfl)
@[go_sem] theorem qNy {d:Nat} {e:Nat} {v:V} {n:Nat} {x:AO} {y:AO}:qx (.mk d e v n x y)=some d:=(rfl)
@[go_sem] theorem qVz {d:Nat} {e:Nat} {v:V} {n:Nat} {x:AO} {y:AO}:qY (.mk d e v n x y)=qQ x++qQ y:=(rfl)
@[go_sem] theorem qNv {d:Nat} {p:Bool} {n:Nat} {x:AO}:qx (.ld d p n x)=some d:=(rfl)
@[go_sem] theorem qVw {d:Nat} {p:Bool} {n:Nat} {x:AO}:qY (.ld d p n x)=qQ x:=(rfl)
@[go_sem] theorem qNw {d:Nat} {p:Bool} {n:Nat} {x:AO}:qx (.ldq d p n x)=some d:=(rfl)
@[go_sem] theorem qVx {d:Nat} {p:Bool} {n:Nat} {x:AO}:qY (.ldq d p n x)=qQ x:=(rfl)
@[go_sem] theorem qND {d:Nat} {x:AO}:qx (.nilc d x)=some d:=(rfl)
@[go_sem] theorem qVE {d:Nat} {x:AO}:qY (.nilc d x)=qQ x:=(rfl)
@[go_sem] theorem qNi {d:Nat} {op:BinOp} {x:AO} {y:AO}:qx (.bin d op x y)=some d:=(rfl)
@[go_sem] theorem qVj {d:Nat} {op:BinOp} {x:AO} {y:AO}:qY (.bin d op x y)=qQ x++qQ y:=(rfl)
@[go_sem] theorem qNm {d:Nat} {n:Nat} {p:Bool} {x:AO} {y:AO}:qx (.eqs d n p x y)=some d:=(rfl)
@[go_sem] theorem qVn {d:Nat} {n:Nat} {p:Bool} {x:AO} {y:AO}:qY (.eqs d n p x y)=qQ x++qQ y:=(rfl)
@[go_sem] theorem qNK {d:Nat} {uo:UnOp} {x:AO}:qx (.un d uo x)=some d:=(rfl)
@[go_sem] theorem qVL {d:Nat} {uo:UnOp} {x:AO}:qY (.un d uo x)=qQ x:=(rfl)
@[go_sem] theorem qNF {d:Nat} {e:Nat} {x:AO} {ox:Option AO} {oy:Option AO}:qx (.sl d e x ox oy)=some d:=(rfl)
@[go_sem] theorem qVG {d:Nat} {e:Nat} {x:AO} {ox:Option AO} {oy:Option AO}:qY (.sl d e x ox oy)=qQ x++(Zk ox++Zk oy):=(rfl)
@[go_sem] theorem qNH {d:Nat} {x:AO} {ox:Option AO} {oy:Option AO}:qx (.ssl d x ox oy)=some d:=(rfl)
@[go_sem] theorem qVI {d:Nat} {x:AO} {ox:Option AO} {oy:Option AO}:qY (.ssl d x ox oy)=qQ x++(Zk ox++Zk oy):=(rfl)
@[go_sem] theorem qNG {d:Nat} {x:AO}:qx (.slen d x)=some d:=(rfl)
@[go_sem] theorem qVH {d:Nat} {x:AO}:qY (.slen d x)=qQ x:=(rfl)
@[go_sem] theorem qNo {d:Nat} {x:AO} {n:Nat}:qx (.fa d x n)=some d:=(rfl)
@[go_sem] theorem qVp {d:Nat} {x:AO} {n:Nat}:qY (.fa d x n)=qQ x:=(rfl)
@[go_sem] theorem qNp {d:Nat} {p:Bool} {n:Nat} {x:AO} {m:Nat}:qx (.fld d p n x m)=some d:=(rfl)
@[go_sem] theorem qVq {d:Nat} {p:Bool} {n:Nat} {x:AO} {m:Nat}:qY (.fld d p n x m)=qQ x:=(rfl)
@[go_sem] theorem qNs {d:Nat} {e:Nat} {x:AO} {y:AO}:qx (.ia d e x y)=some d:=(rfl)
@[go_sem] theorem qVt {d:Nat} {e:Nat} {x:AO} {y:AO}:qY (.ia d e x y)=qQ x++qQ y:=(rfl)
@[go_sem] theorem qNu {d:Nat} {x:AO} {y:AO}:qx (.ix d x y)=some d:=(rfl)
@[go_sem] theorem qVv {d:Nat} {x:AO} {y:AO}:qY (.ix d x y)=qQ x++qQ y:=(rfl)
@[go_sem] theorem qNn {d:Nat} {x:AO} {n:Nat}:qx (.ext d x n)=some d:=(rfl)
@[go_sem] theorem qVo {d:Nat} {x:AO} {n:Nat}:qY (.ext d x n)=qQ x:=(rfl)
@[go_sem] theorem qNq {d:Nat} {fn:Fn} {xs:List AO} {ys:List AO}:qx (.fun d fn xs ys)=some d:=(rfl)
@[go_sem] theorem qVr {d:Nat} {fn:Fn} {xs:List AO} {ys:List AO}:qY (.fun d fn xs ys)=QE xs++QE ys:=(rfl)
@[go_sem] theorem qNh {d:Nat} {e:Nat} {n:Nat} {x:AO} {y:AO}:qx (.app d e n x y)=some d:=(rfl)
@[go_sem] theorem qVi {d:Nat} {e:Nat} {n:Nat} {x:AO} {y:AO}:qY (.app d e n x y)=qQ x++qQ y:=(rfl)
@[go_sem] theorem qNx {d:Nat} {x:AO}:qx (.len d x)=some d:=(rfl)
@[go_sem] theorem qVy {d:Nat} {x:AO}:qY (.len d x)=qQ x:=(rfl)
@[go_sem] theorem qNB {d:Nat} {p:Bool} {xs:List AO}:qx (.mx d p xs)=some d:=(rfl)
@[go_sem] theorem qVC {d:Nat} {p:Bool} {xs:List AO}:qY (.mx d p xs)=QE xs:=(rfl)
@[go_sem] theorem qNt {d:Nat} {ik:IntKind} {x:AO}:qx (.int d ik x)=some d:=(rfl)
@[go_sem] theorem qVu {d:Nat} {ik:IntKind} {x:AO}:qY (.int d ik x)=qQ x:=(rfl)
@[go_sem] theorem qNJ {d:Nat} {x:AO}:qx (.str d x)=some d:=(rfl)
@[go_sem] theorem qVK {d:Nat} {x:AO}:qY (.str d x)=qQ x:=(rfl)
@[go_sem] theorem qNk {d:Nat} {x:AO}:qx (.byt d x)=some d:=(rfl)
@[go_sem] theorem qVl {d:Nat} {x:AO}:qY (.byt d x)=qQ x:=(rfl)
@[go_sem] theorem qNI {n:Nat} {x y:AO}:qx (.st n x y)=none:=(rfl)
@[go_sem] theorem qVJ {n:Nat} {x y:AO}:qY (.st n x y)=qQ x++qQ y:=(rfl)
@[go_sem] theorem qNl {o:Option Nat} {x:AO} {xs:List AO} {m:Md}:qx (.call o x xs m)=o:=(rfl)
@[go_sem] theorem qVm {o:Option Nat} {x:AO} {xs:List AO} {m:Md}:qY (.call o x xs m)=qQ x++QE xs:=(rfl)
@[go_sem] theorem qNr {n:Nat} {p:Bool} {o:Option Nat} {i:AI}:qx (.gd n p o i)=o:=(rfl)
@[go_sem] theorem qVs {n:Nat} {p:Bool} {o:Option Nat} {i:AI}:qY (.gd n p o i)=n::qY i:=(rfl)
@[go_sem] theorem qQD {k:Nat} {ks:List Key} {d:Option Nat} {T':Mem}:XQ ⟨k,ks⟩ d T' T=if k=0 then T else qL (Dp.own ⟨k,ks⟩ d) T'++qL (fun x=> !Dp.own ⟨k,ks⟩ d x) T:=(rfl)
@[go_sem] theorem qVM {ds:List Nat} {d:Nat}:kg (d::ds) ⟨σ,T⟩=kg ds ⟨x5 d σ,wT d T⟩:=(rfl)
def qgd(n:Nat) (σ:Sl) (T:Mem):St:=YB n (xp σ) σ (X2 (xp σ) (xY σ++xW T (xp σ)) T)
@[go_sem] theorem qTz {ls:List Nat} {ks:List Key}:kB ls ks ⟨σ,T⟩=qgd (qcx ks) (zL σ ls) T:=(rfl)
@[go_sem] theorem qKI:qcx []=0:=(rfl)
@[go_sem] theorem qKH {n m:Nat} {r:List Key}:qcx ((n,m)::r)=n:=(rfl)
theorem qn8: ∀ (ks:List Key),xh [] ks=[]
 |[]=>rfl
 |k::ks=>by simp only [xh,qt,qn8 ks]
theorem qlQ(bx:List Key): ∀ (ks:List Key),Q3 bx ks []=[]
 |[]=>rfl
 |k::ks=>by
  have:XG [] k=[]:=rfl
  simp only [Q3,this,ite_self,qlQ bx ks]
@[go_sem] theorem qTy {n:Nat}:qgd n σ []=YB n (xp σ) σ []:=by
 simp only [qgd,X2,qlQ,qn8]
@[go_sem] theorem qTx {n:Nat} {ob:Key × Ob}:qgd n σ (ob::T)=YB n (xp σ) σ (X2 (xp σ) (xY σ++xW (ob::T) (xp σ)) (ob::T)):=(rfl)
@[go_sem] theorem qU0 {bx k0:List Key}:X2 bx k0 T=xh (Q3 bx k0 T) k0:=(rfl)
@[go_sem] theorem qL3 {bx:List Key}:Q3 bx [] T=T:=(rfl)
@[go_sem] theorem qL2 {bx ks:List Key} {k:Key}:Q3 bx (k::ks) T=Q3 bx ks (zW (xZ k bx) T (XG T k)):=(rfl)
def qgu(T:Mem) (k:Key) (ob:Option Ob):Mem:=
 match ob with
 |none=>T
 |some ob=>zW (qC ob.2) T ((k,ob.1,(qy (zf 30) (qE T k) ob.2).1)::(qy (zf 30) (qE T k) ob.2).2)
@[go_sem] theorem qL1 {k:Key}:XG T k=qgu T k (qt T k):=by
 unfold XG qgu zW;cases qt T k<;>rfl
@[go_sem] theorem qUN {k:Key}:qgu T k none=T:=(rfl)
@[go_sem] theorem qUO {k:Key} {ob:Ob}:qgu T k (some ob)=zW (qC ob.2) T ((k,ob.1,(qy (zf 30) (qE T k) ob.2).1)::(qy (zf 30) (qE T k) ob.2).2):=(rfl)
@[go_sem] theorem qL0 {m:Nat} {x:V}:zf m T x=zW (clE x) (x,T) (qz m T x):=(rfl)
theorem Qu(m:Nat): ∀ (xs ys:List V) (T:Mem),qy (zf m) T (xs++ys)=((qy (zf m) T xs).1++(qy (zf m) (qy (zf m) T xs).2 ys).1,(qy (zf m) (qy (zf m) T xs).2 ys).2)
 |[],ys,T=>rfl
 |x::xs,ys,T=>by simp only [List.cons_append,qy,Qu m xs ys]
theorem ku(m:Nat) (T:Mem): ∀ (xs:List V),qC xs=true→qy (zf m) T xs=(xs,T)
 |[],_=>rfl
 |x::xs,h=>by
  simp only [qC,Bool.and_eq_true]at h
  have:zf m T x=(x,T):=by unfold zf;rw [if_pos h.1]
  simp only [qy,this,ku m T xs h.2]
attribute [go_sem] Qu
def qh6(n:Nat) (bx:List Key) (σ:Sl) (T:Mem):St:=⟨Zg (ju n (xY σ++xW T bx)) σ,jY (ju n (xY σ++xW T bx)) (xh T (xY σ++xW T bx))⟩
@[go_sem] theorem qrw {n:Nat} {bx:List Key}:YB n bx σ T=qh6 n bx (kw σ) (jx σ++xx bx T):=(rfl)
def qlF(n:Nat) (kk:List Key) (σ:Sl) (T:Mem):St:=⟨Zg (ju n kk) σ,jY (ju n kk) (xh T kk)⟩
@[go_sem] theorem qLb {n:Nat} {bx:List Key}:qh6 n bx σ T=qlF n (xY σ++xW T bx) σ T:=(rfl)
@[go_sem] theorem qLc {n:Nat} {kk:List Key}:qlF n kk σ T=⟨Zg (ju n kk) σ,jY (ju n kk) (xh T kk)⟩:=(rfl)
@[go_sem] theorem qIP:NB=200000:=(rfl)
@[go_sem] theorem qC3:CN=100000:=(rfl)
attribute [go_sem] kw jx xW ju YF Zg zV z8
@[go_sem] theorem qLd {n:Nat} {σ:Sl}:YB n [] σ []=qh6 n [] (kw σ) (jx σ):=by rw [qrw];simp only [xx,List.append_nil]
section nm
variable {t i j d e n lo len:Nat} {k k':Key} {x:V} {xs:List V} {bx tb:List Key} {r:Sl} {M:Mem} {τ nm:Bool} {u:Int} {l:List UInt8} {fn:Fn} {ys:List V}
@[go_sem] theorem qK3:xp []=[]:=(rfl)
def xo(x:V) (r:List Key):List Key:=match x with| .p k _ _=>k::r|_=>r
@[go_sem] theorem qK2:xp ((t,x)::r)=xo x (xp r):=by cases x<;>rfl
@[go_sem] theorem qKX {r:List Key}:xo (.p k i j) r=k::r:=(rfl)
@[go_sem] theorem qKZ {r:List Key}:xo (.s k i j) r=r:=(rfl)
@[go_sem] theorem qKN {r:List Key}:xo (I u) r=r:=(rfl)
@[go_sem] theorem qKL {b:Bool} {r:List Key}:xo (B b) r=r:=(rfl)
@[go_sem] theorem qKO {r:List Key}:xo (S l) r=r:=(rfl)
@[go_sem] theorem qKQ {r:List Key}:xo (U8 u) r=r:=(rfl)
@[go_sem] theorem qKP {r:List Key}:xo (U32 u) r=r:=(rfl)
@[go_sem] theorem qKU {r:List Key}:xo (.i τ xs) r=r:=(rfl)
@[go_sem] theorem qKY {r:List Key}:xo (.q τ xs i j) r=r:=(rfl)
@[go_sem] theorem qKW {r:List Key}:xo (.o e xs) r=r:=(rfl)
@[go_sem] theorem qKV {r:List Key}:xo (.n e) r=r:=(rfl)
@[go_sem] theorem qKR {r:List Key}:xo (.a xs) r=r:=(rfl)
@[go_sem] theorem qK0 {r:List Key}:xo (.t xs) r=r:=(rfl)
@[go_sem] theorem qKT {r:List Key}:xo (.f fn xs ys) r=r:=(rfl)
@[go_sem] theorem qKS {r:List Key}:xo .d r=r:=(rfl)
@[go_sem] theorem qK1 {r:List Key}:xo yI r=r:=(rfl)
@[go_sem] theorem qKM {g:Nat} {r:List Key}:xo (Fc g) r=r:=(rfl)
@[go_sem] theorem qMZ:qij (some (e,[x]))=xd x:=(rfl)
@[go_sem] theorem qMY:qij none=[]:=(rfl)
@[go_sem] theorem qQV:qW d i nm (I u)=I u:=(rfl)
@[go_sem] theorem qQT {b:Bool}:qW d i nm (B b)=B b:=(rfl)
@[go_sem] theorem qQW:qW d i nm (S l)=S l:=(rfl)
@[go_sem] theorem qQY:qW d i nm (U8 u)=U8 u:=(rfl)
@[go_sem] theorem qQX:qW d i nm (U32 u)=U32 u:=(rfl)
@[go_sem] theorem qRb:qW d i nm yI=yI:=(rfl)
@[go_sem] theorem qQU {g:Nat}:qW d i nm (Fc g)=Fc g:=(rfl)
@[go_sem] theorem qQ3:qW d i nm (.i τ xs)= .i τ xs:=(rfl)
@[go_sem] theorem qxu:qW d i nm (.q τ xs lo len)= .q τ xs lo len:=(rfl)
@[go_sem] theorem qQ7:qW d i nm (.o e xs)= .o e xs:=(rfl)
@[go_sem] theorem qQ0:qW d i nm (.b x)= .b x:=(rfl)
@[go_sem] theorem qQ1:qW d i nm .d= .d:=(rfl)
@[go_sem] theorem qQ5:qW d i true (.n e)= .s (d,i) 0 0:=(rfl)
@[go_sem] theorem qQ6:qW d i false (.n e)= .n e:=(rfl)
@[go_sem] theorem qQ8:qW d i nm (.p k lo len)=if NB≤k.1 then .d else .p k lo len:=(rfl)
@[go_sem] theorem qQ9:qW d i nm (.s k lo len)=if NB≤k.1 then .d else .s k lo len:=(rfl)
@[go_sem] theorem qQ2:qW d i nm (.f fn xs ys)= .f fn (zV d i false xs) (zV d i false ys):=(rfl)
@[go_sem] theorem qQZ:qW d i nm (.a xs)= .a (zV d i nm xs):=(rfl)
@[go_sem] theorem qRa:qW d i nm (.t xs)= .t (zV d i false xs):=(rfl)
def kx(d i:Nat) (x:V):Mem:=match x with| .n e=>[((d,i),e,[])]|_=>[]
@[go_sem] theorem qQI:Q8 d i []=[]:=(rfl)
@[go_sem] theorem qQH:Q8 d i (x::xs)=kx d i x++Q8 d (i+1) xs:=by cases x<;>rfl
@[go_sem] theorem qRm:kx d i (.n e)=[((d,i),e,[])]:=(rfl)
@[go_sem] theorem qRe:kx d i (I u)=[]:=(rfl)
@[go_sem] theorem qRd {b:Bool}:kx d i (B b)=[]:=(rfl)
@[go_sem] theorem qRf:kx d i (S l)=[]:=(rfl)
@[go_sem] theorem qRh:kx d i (U8 u)=[]:=(rfl)
@[go_sem] theorem qRg:kx d i (U32 u)=[]:=(rfl)
@[go_sem] theorem qRl:kx d i (.i τ xs)=[]:=(rfl)
@[go_sem] theorem qRn:kx d i (.o e xs)=[]:=(rfl)
@[go_sem] theorem qRq:kx d i (.s k lo len)=[]:=(rfl)
@[go_sem] theorem qRo:kx d i (.p k lo len)=[]:=(rfl)
@[go_sem] theorem qRp:kx d i (.q τ xs lo len)=[]:=(rfl)
@[go_sem] theorem qRi:kx d i (.b x)=[]:=(rfl)
@[go_sem] theorem qRk:kx d i (.f fn xs ys)=[]:=(rfl)
@[go_sem] theorem qRj:kx d i .d=[]:=(rfl)
@[go_sem] theorem qRt:yx d i (I u)=[]:=(rfl)
@[go_sem] theorem qRr {b:Bool}:yx d i (B b)=[]:=(rfl)
@[go_sem] theorem qRu:yx d i (S l)=[]:=(rfl)
@[go_sem] theorem qRw:yx d i (U8 u)=[]:=(rfl)
@[go_sem] theorem qRv:yx d i (U32 u)=[]:=(rfl)
@[go_sem] theorem qRI:yx d i yI=[]:=(rfl)
@[go_sem] theorem qRs {g:Nat}:yx d i (Fc g)=[]:=(rfl)
@[go_sem] theorem qRB:yx d i (.i τ xs)=[]:=(rfl)
@[go_sem] theorem qRD:yx d i (.o e xs)=[]:=(rfl)
@[go_sem] theorem qRG:yx d i (.s k lo len)=[]:=(rfl)
@[go_sem] theorem qRE:yx d i (.p k lo len)=[]:=(rfl)
@[go_sem] theorem qRF:yx d i (.q τ xs lo len)=[]:=(rfl)
@[go_sem] theorem qRy:yx d i (.b x)=[]:=(rfl)
@[go_sem] theorem qRA:yx d i (.f fn xs ys)=[]:=(rfl)
@[go_sem] theorem qRH:yx d i (.t xs)=[]:=(rfl)
@[go_sem] theorem qRz:yx d i .d=[]:=(rfl)
@[go_sem] theorem qRC:yx d i (.n e)=[((d,i),e,[])]:=(rfl)
@[go_sem] theorem qRx:yx d i (.a xs)=Q8 d i xs:=(rfl)
def qif(xs:List V):List V:=zW (qC xs) xs (zV 0 0 false xs)
@[go_sem] theorem qMs:qif xs=zW (qC xs) xs (zV 0 0 false xs):=(rfl)
@[go_sem] theorem qQP:jw d i true [x]=[qW d i true x]:=(rfl)
@[go_sem] theorem qQQ:jw d i false xs=qif xs:=by
 unfold jw qif zW
 split
 ·simp only [Bool.false_eq_true,if_false,qC,Bool.and_true,zV]
 ·rfl
@[go_sem] theorem qQN:XT d i true [x]=yx d i x:=(rfl)
@[go_sem] theorem qQO:XT d i false xs=[]:=by unfold XT;split<;>rfl
@[go_sem] theorem qQS:xx bx []=[]:=(rfl)
@[go_sem] theorem qQR {ob:Ob}:xx bx ((k,ob)::M)=if NB≤k.1 then xx bx M else XT (2*NB+k.1) (10*k.2) (xZ k bx) ob.2++(k,ob.1,jw (2*NB+k.1) (10*k.2) (xZ k bx) ob.2)::xx bx M:=(rfl)
def qgo(o:Option Nat) (k:Key):Option Key:=match o with|some i=>some (CN,i)|none=>if k.1=CN then none else some k
@[go_sem] theorem qTD:kb tb k=qgo (YF k 0 tb) k:=by unfold kb qgo;cases YF k 0 tb<;>rfl
@[go_sem] theorem qTC:qgo (some i) k=some (CN,i):=(rfl)
@[go_sem] theorem qTB:qgo none k=if k.1=CN then none else some k:=(rfl)
def sOf(o:Option Key) (a b:Nat):V:=match o with|some k=> .s k a b|none=> .d
def pOf(o:Option Key) (a b:Nat):V:=match o with|some k=> .p k a b|none=> .d
@[go_sem] theorem qUT:sOf (some k) i j= .s k i j:=(rfl)
@[go_sem] theorem qTh:pOf (some k) i j= .p k i j:=(rfl)
@[go_sem] theorem qUS:sOf none i j= .d:=(rfl)
@[go_sem] theorem qTg:pOf none i j= .d:=(rfl)
@[go_sem] theorem qTX:zc tb (.s k i j)=sOf (kb tb k) i j:=by simp only [zc,sOf];cases kb tb k<;>rfl
@[go_sem] theorem qTW:zc tb (.p k i j)=pOf (kb tb k) i j:=by simp only [zc,pOf];cases kb tb k<;>rfl
@[go_sem] theorem qTK:zc tb (I u)=I u:=(rfl)
@[go_sem] theorem qTI {b:Bool}:zc tb (B b)=B b:=(rfl)
@[go_sem] theorem qTL:zc tb (S l)=S l:=(rfl)
@[go_sem] theorem qTN:zc tb (U8 u)=U8 u:=(rfl)
@[go_sem] theorem qTM:zc tb (U32 u)=U32 u:=(rfl)
@[go_sem] theorem qTZ:zc tb yI=yI:=(rfl)
@[go_sem] theorem qTJ {g:Nat}:zc tb (Fc g)=Fc g:=(rfl)
@[go_sem] theorem qTS:zc tb (.i τ xs)= .i τ xs:=(rfl)
@[go_sem] theorem qAu:zc tb (.q τ xs i j)= .q τ xs i j:=(rfl)
@[go_sem] theorem qTV:zc tb (.o e xs)= .o e xs:=(rfl)
@[go_sem] theorem qTP:zc tb (.b x)= .b x:=(rfl)
@[go_sem] theorem qTU:zc tb (.n e)= .n e:=(rfl)
@[go_sem] theorem qTQ:zc tb .d= .d:=(rfl)
@[go_sem] theorem qTR:zc tb (.f fn xs ys)= .f fn (z8 tb xs) (z8 tb ys):=(rfl)
@[go_sem] theorem qTO:zc tb (.a xs)= .a (z8 tb xs):=(rfl)
@[go_sem] theorem qTY:zc tb (.t xs)= .t (z8 tb xs):=(rfl)
def qgp(o:Option Key) (e:Nat) (xs:List V) (r:Mem):Mem:=match o with|some k=>(k,e,xs)::r|none=>r
@[go_sem] theorem qTF {r:Mem}:qgp (some k) e xs r=(k,e,xs)::r:=(rfl)
@[go_sem] theorem qTE {r:Mem}:qgp none e xs r=r:=(rfl)
@[go_sem] theorem qTH:jY tb []=[]:=(rfl)
@[go_sem] theorem qTG {ob:Ob}:jY tb ((k,ob)::M)=qgp (kb tb k) ob.1 (zW (qC ob.2) ob.2 (z8 tb ob.2)) (jY tb M):=by
 obtain ⟨e,xs⟩:=ob
 simp only [jY,qgp,zW]
 cases kb tb k<;>rfl
end nm
attribute [go_sem] xd YD xY xZ qje qo2 List.reverse_cons List.reverse_nil
@[go_sem] theorem qM2 {n:Int}:xd (I n)=[]:=(rfl)
@[go_sem] theorem qM0 {b:Bool}:xd (B b)=[]:=(rfl)
@[go_sem] theorem qM3 {l:List UInt8}:xd (S l)=[]:=(rfl)
@[go_sem] theorem qM5 {n:Int}:xd (U8 n)=[]:=(rfl)
@[go_sem] theorem qM4 {n:Int}:xd (U32 n)=[]:=(rfl)
@[go_sem] theorem qM1 {g:Nat}:xd (Fc g)=[]:=(rfl)
@[go_sem] theorem qM6:xd yI=[]:=(rfl)
def qgs(T:Mem) (k:Key) (ob:Option Ob):Mem:=
 match ob with
 |none=>T
 |some ob=>zW (qC ob.2) (jz k ob (qE T k)) T
@[go_sem] theorem qUM {k:Key}:qjE T k=qgs T k (qt T k):=by
 unfold qjE qgs zW;cases qt T k<;>rfl
@[go_sem] theorem qUK {k:Key}:qgs T k none=T:=(rfl)
@[go_sem] theorem qUL {k:Key} {ob:Ob}:qgs T k (some ob)=zW (qC ob.2) (jz k ob (qE T k)) T:=(rfl)
def qf4(d:Nat) (k:Key) (i:Nat) (σ:Sl) (T:Mem) (ob:Option Ob):St:=
 match ob with
 |some ob=>(match ob.2[i]? with
  |some x=>⟨σ,(qX d 0 x).2.2++((k,ob.1,ob.2.set i (qX d 0 x).1)::qE T k)⟩
  |none=>⟨σ,T⟩)
 |none=>⟨σ,T⟩
def qjc(d:Nat) (k:Key) (i:Nat) (σ:Sl) (T:Mem) (ob:Ob) (x:Option V):St:=
 match x with
 |some x=>⟨σ,(qX d 0 x).2.2++((k,ob.1,ob.2.set i (qX d 0 x).1)::qE T k)⟩
 |none=>⟨σ,T⟩
def qcG(d:Nat) (v:Option V):List (Nat × Key × Nat):=
 match v with
 |some (.p k idx _)=>[(d,k,idx)]
 |_=>[]
def JZ(d:Nat) (v w:Option V):List (Nat × Key × Nat):=
 match v with
 |some (.s k lo _)=>match w with
  |some (.v (.int _ n))=>[(d,k,lo+n.toNat)]
  |_=>[]
 |_=>[]
@[congr] theorem qNU {d:Nat} {v v':Option V} (h:v=v'):qcG d v=qcG d v':=by rw [h]
@[congr] theorem qNP {d:Nat} {v v' w w':Option V} (h:v=v') (h':w=w'):JZ d v w=JZ d v' w':=by rw [h,h']
@[go_sem] theorem qNS {d r:Nat}:jL σ d r none=qcG d (qF σ r):=by
 unfold jL qcG
 cases qF σ r with
 |none=>rfl
 |some v=>cases v<;>rfl
@[go_sem] theorem qNT {d r i:Nat}:jL σ d r (some i)=JZ d (qF σ r) (qF σ i):=by
 unfold jL JZ
 cases qF σ r with
 |none=>rfl
 |some v=>cases v<;>rfl
@[go_sem] theorem qNV {d a b:Nat} {k:Key}:qcG d (some (.p k a b))=[(d,k,a)]:=(rfl)
@[go_sem] theorem qNQ {d a b:Nat} {k:Key} {w:Option V}:JZ d (some (.p k a b)) w=[]:=(rfl)
def qfJ(d:Nat) (ob:Option Ob) (w:Option V):List (Nat × Key × Nat):=
 match ob with
 |some (_,[.a (.s k' lo _::_)])=>match w with
  |some (.v (.int _ n))=>[(d,k',lo+n.toNat)]
  |_=>[]
 |_=>[]
def qfI(d:Nat) (T:Mem) (v w:Option V):List (Nat × Key × Nat):=
 match v with
 |some (.p k _ _)=>qfJ d (qt T k) w
 |_=>[]
@[go_sem] theorem qNO {d r i:Nat}:XI ⟨σ,T⟩ d r (some i)=qfI d T (qF σ r) (qF σ i):=by
 unfold XI qfI qfJ
 simp only
 cases qF σ r with
 |none=>rfl
 |some v=>cases v<;>rfl
@[go_sem] theorem qNL {d a b:Nat} {k:Key} {w:Option V}:qfI d T (some (.p k a b)) w=qfJ d (qt T k) w:=(rfl)
@[go_sem] theorem qNM {d a b:Nat} {k:Key} {w:Option V}:qfI d T (some (.s k a b)) w=[]:=(rfl)
@[go_sem] theorem qNN {d e a b:Nat} {k:Key} {xs:List V} {n:Int}:qfJ d (some (e,[.a (.s k a b::xs)])) (some (I n))=[(d,k,a+n.toNat)]:=(rfl)
@[go_sem] theorem qNR {d a b:Nat} {k:Key} {n:Int}:JZ d (some (.s k a b)) (some (I n))=[(d,k,a+n.toNat)]:=(rfl)
@[go_sem] theorem qSo:Qx [] st=st:=(rfl)
@[go_sem] theorem qSm {d r:Nat} {os:List (Nat × Nat × Option Nat)}:Qx ((d,r,none)::os) ⟨σ,T⟩=Qx os (kY (jL σ d r none) ⟨σ,T⟩):=(rfl)
@[go_sem] theorem qSn {d r i:Nat} {os:List (Nat × Nat × Option Nat)}:Qx ((d,r,some i)::os) ⟨σ,T⟩=Qx os (kY (jL σ d r (some i)) (kY (XI ⟨σ,T⟩ d r (some i)) ⟨σ,T⟩)):=(rfl)
@[go_sem] theorem qS3:kY [] st=st:=(rfl)
@[go_sem] theorem qS2 {d i:Nat} {k:Key} {r:List (Nat × Key × Nat)}:kY ((d,k,i)::r) ⟨σ,T⟩=kY r (qae d k i ⟨x5 d σ,wT d T⟩):=(rfl)
@[go_sem] theorem qS6 {d i:Nat} {k:Key}:qae d k i ⟨σ,T⟩=qf4 d k i σ T (qt T k):=by
 unfold qae qf4;simp only;cases qt T k<;>rfl
@[go_sem] theorem qS5 {d i:Nat} {k:Key} {ob:Ob}:qf4 d k i σ T (some ob)=qjc d k i σ T ob ob.2[i]? :=(rfl)
@[go_sem] theorem qS4 {d i:Nat} {k:Key}:qf4 d k i σ T none=⟨σ,T⟩:=(rfl)
@[go_sem] theorem qS7 {d i:Nat} {k:Key} {ob:Ob} {x:V}:qjc d k i σ T ob (some x)=⟨σ,(qX d 0 x).2.2++((k,ob.1,ob.2.set i (qX d 0 x).1)::qE T k)⟩:=(rfl)
structure Lp where
 ls:List Nat
 ks:List Key
 body:AC
def lpC(l:Lp):AC:= .loop l.ls l.ks l.body
noncomputable def lw(prog:Nat→Option AE) (l:Lp) (s:St):Option (AX × St):=jl (xw prog l.body s) fun st'=>xw prog (lpC l) st'
@[go_sem] theorem qCN {l:Lp}:xw prog (lpC l) st=lw prog l (kB l.ls l.ks st):=by
 unfold lw lpC;exact qCM
theorem ql(l:Lp) (s:St):lw prog l s=jl (xw prog l.body s) fun st'=>lw prog l (kB l.ls l.ks st'):=by
 unfold lw
 congr 1
 funext st'
 rw [qCN];rfl
def qgq(T:Mem) (k:Key) (agg:Bool) (size:Nat) (ob:Option Ob):Option (V × Mem):=
 match ob with
 |some (_,[x])=>(zh agg size x 0).bind fun y=>if x.cells.length=y.cells.length then some (y,qE T k)else none
 |_=>none
def qcw {α:Type} (r:Option (V × Mem)) (k:V→Mem→Option α):Option α:=
 match r with
 |some (x,T)=>k x T
 |none=>none
@[congr] theorem qKv {α:Type} {r r':Option (V × Mem)} {k:V→Mem→Option α} (h:r=r'):qcw r k=qcw r' k:=by rw [h]
@[go_sem] theorem qKw {α:Type} {z:V} {k:V→Mem→Option α}:qcw (some (z,T)) k=k z T:=(rfl)
@[go_sem] theorem qUI {t:Nat}:Zh ⟨σ,T⟩ (.tmp t)=qr (qF σ t) fun x=>some (x,T):=by
 simp only [Zh];cases qF σ t<;>rfl
def qjm(x:V) (k:Key→Option (V × Mem)):Option (V × Mem):=
 match x with
 | .p k' 0 0=>k k'
 |_=>none
@[go_sem] theorem qTA {k':Key} {k:Key→Option (V × Mem)}:qjm (.p k' 0 0) k=k k':=(rfl)
@[go_sem] theorem qUH {t size:Nat} {agg:Bool}:Zh ⟨σ,T⟩ (.cell t agg size)=qr (qF σ t) fun x=>qjm x fun k=>qgq T k agg size (qt T k):=by
 simp only [Zh]
 cases qF σ t with
 |none=>rfl
 |some x=>
  cases x<;>first|rfl|skip
  rename_i k idx off
  cases idx with
  |succ=>rfl
  |zero=>cases off with
   |succ=>rfl
   |zero=>
    simp only [qr,qjm,qgq]
    cases qt T k with
    |none=>rfl
    |some ob=>obtain ⟨e,xs⟩:=ob;rcases xs with _|⟨x,_|⟨y,r⟩⟩<;>rfl
@[go_sem] theorem qUE {k:Key} {agg:Bool} {e size:Nat} {z:V}:qgq T k agg size (some (e,[z]))=qr (zh agg size z 0) fun y=>if z.cells.length=y.cells.length then some (y,qE T k)else none:=by
 simp only [qgq];cases zh agg size z 0<;>rfl
@[go_sem] theorem qUG:jA σ T []=some ([],T):=(rfl)
@[go_sem] theorem qUF {r:AR} {rs:List AR}:jA σ T (r::rs)=qcw (Zh ⟨σ,T⟩ r) fun x T'=>XD (jA σ T' rs) fun xs T''=>some (x::xs,T''):=by
 simp only [jA]
 cases Zh ⟨σ,T⟩ r with
 |none=>rfl
 |some xT=>obtain ⟨x,T'⟩:=xT;simp only [qcw];cases jA σ T' rs<;>rfl
@[go_sem] theorem qR3 {z:V}:jT [z]=z:=(rfl)
@[go_sem] theorem qR4 {z z':V} {zs:List V}:jT (z::z'::zs)= .t (z::z'::zs):=(rfl)
@[go_sem] theorem qR2:jT []= .t []:=(rfl)
attribute [go_sem] zq xO qrt Option.some_beq_none Option.some_beq_some Option.none_beq_some
attribute [go_sem] Bool.true_and Bool.and_true Bool.false_and Bool.and_false Bool.not_true Bool.not_false Bool.or_true Bool.true_or Bool.or_false Bool.false_or if_true if_false
 decide_true decide_false decide_eq_true_eq ne_eq not_true_eq_false not_false_eq_true and_self and_true true_and and_false false_and beq_self_eq_true Bool.not_eq_eq_eq_not Bool.false_eq_true decide_not ite_not Bool.not_not
 eq_self Prod.mk.injEq List.contains_nil List.contains_cons Option.isNone_none Option.isNone_some
end
end Go.Vm
namespace Go.Vm
section
variable {prog:Nat→Option AE} {st:St} {σ:Sl} {T:Mem} {call:ze} {d j e lo:Nat} {k:Key} {es:List (Int × Int)} {τ:Bool} {n u:Int} {o:Option Bool} {tb:List Key} {nm:Bool}
def ky {α:Type} (x:V) (g:Int→Option α):Option α:=
 match x with
 | .v (.int .i64 n)=>g n
 |_=>none
@[go_sem] theorem qR1 {α:Type} {g:Int→Option α}:ky (I n) g=g n:=(rfl)
def QY {α:Type} (r:Option (List (Int × Int))) (g:List (Int × Int)→Option α):Option α:=
 match r with
 |some es=>g es
 |none=>none
@[congr] theorem qKd {α:Type} {r r':Option (List (Int × Int))} {g:List (Int × Int)→Option α} (h:r=r'):QY r g=QY r' g:=by rw [h]
@[go_sem] theorem qKe {α:Type} {g:List (Int × Int)→Option α}:QY (some es) g=g es:=(rfl)
def qmb(ob:Option Ob):Option (List (Int × Int)):=
 match ob with
 |some (_,[.w _ es])=>some es
 |_=>none
@[go_sem] theorem qN9:qmb (some (e,[.w o es]))=some es:=(rfl)
@[go_sem] theorem qN7:xt T (.m k)=qmb (qt T k):=(rfl)
@[go_sem] theorem qN8:xt T (.w (some τ) es)=some es:=(rfl)
def qpt(T:Mem) (k:Key) (ob:Option Ob) (es:List (Int × Int)):Option Mem:=
 match ob with
 |some _=>some ((k,0,[.w (some true) es])::qE T k)
 |none=>none
@[go_sem] theorem qUX {ob:Ob}:qpt T k (some ob) es=some ((k,0,[.w (some true) es])::qE T k):=(rfl)
@[go_sem] theorem qUW:j0 T (.m k) es=qpt T k (qt T k) es:=(rfl)
@[go_sem] theorem qON:qp call ⟨σ,T⟩ (.mkm d)=some ⟨(d,.m (d,0))::x5 d σ,((d,0),0,[.w (some true) []])::wT d T⟩:=(rfl)
@[go_sem] theorem qOP {m k v:AO}:qp call ⟨σ,T⟩ (.mset m k v)=qr (ev σ m) fun m=>qr (ev σ k) fun k=>qr (ev σ v) fun v=>ky k fun k=>ky v fun v=>QY (xt T m) fun es=>ZL (j0 T m (zF k v es)) fun T'=>some ⟨σ,T'⟩:=by
 simp only [qp,qj]
 cases ev σ m with
 |none=>rfl
 |some m=>
 cases ev σ k with
 |none=>rfl
 |some k=>
 cases ev σ v with
 |none=>simp only [qr]
 |some v=>
 simp only [qr]
 split
 ·rename_i h1 h2 h3
  simp only [Option.some.injEq]at h1 h2 h3;subst h1;subst h2;subst h3
  simp only [ky]
  cases xt T m with
  |none=>rfl
  |some es=>simp only [QY];cases j0 T m _<;>rfl
 ·rename_i h
  unfold ky
  split
  ·split
   ·exact absurd rfl (h _ _ _ rfl rfl)
   ·rfl
  ·rfl
@[go_sem] theorem qOL {m k:AO}:qp call ⟨σ,T⟩ (.mget d m k)=qr (ev σ m) fun m=>qr (ev σ k) fun k=>ky k fun k=>QY (xt T m) fun es=>some ⟨(d,I ((qU k es).getD 0))::σ,T⟩:=by
 simp only [qp,qj]
 cases ev σ m with
 |none=>rfl
 |some m=>
 cases ev σ k with
 |none=>rfl
 |some k=>
 simp only [qr]
 split
 ·rename_i h1 h2
  simp only [Option.some.injEq]at h1 h2;subst h1;subst h2
  simp only [ky]
  cases xt T m<;>rfl
 ·rename_i h
  unfold ky
  split
  ·exact absurd rfl (h _ _ rfl)
  ·rfl
@[go_sem] theorem qOJ {m k:AO}:qp call ⟨σ,T⟩ (.men d m k)=qr (ev σ m) fun m=>qr (ev σ k) fun k=>ky k fun k=>QY (xt T m) fun es=>ZL (j0 T m (zF k ((qU k es).getD 0) es)) fun T'=>some ⟨(d,.t [I ((qU k es).getD 0),I (zy k es)])::σ,T'⟩:=by
 simp only [qp,qj]
 cases ev σ m with
 |none=>rfl
 |some m=>
 cases ev σ k with
 |none=>rfl
 |some k=>
 simp only [qr]
 split
 ·rename_i h1 h2
  simp only [Option.some.injEq]at h1 h2;subst h1;subst h2
  simp only [ky]
  cases xt T m with
  |none=>rfl
  |some es=>simp only [QY];cases j0 T m _<;>rfl
 ·rename_i h
  unfold ky
  split
  ·exact absurd rfl (h _ _ rfl)
  ·rfl
def qcK {α:Type} (i:Option Nat) (g:Nat→Option α):Option α:=
 match i with
 |some i=>g i
 |none=>none
@[congr] theorem qO8 {α:Type} {i i':Option Nat} {g:Nat→Option α} (h:i=i'):qcK i g=qcK i' g:=by rw [h]
@[go_sem] theorem qO9 {α:Type} {i:Nat} {g:Nat→Option α}:qcK (some i) g=g i:=(rfl)
@[go_sem] theorem qOK {m k v:AO}:qp call ⟨σ,T⟩ (.mes m k v)=qr (ev σ m) fun m=>qr (ev σ k) fun k=>qr (ev σ v) fun v=>ky k fun s=>ky v fun v=>QY (xt T m) fun es=>qcK (yj s es.length) fun i=>ZL (j0 T m (es.modify i fun e=>(e.1,v))) fun T'=>some ⟨σ,T'⟩:=by
 simp only [qp,qj]
 cases ev σ m with
 |none=>rfl
 |some m=>
 cases ev σ k with
 |none=>rfl
 |some k=>
 cases ev σ v with
 |none=>simp only [qr]
 |some v=>
 simp only [qr]
 split
 ·rename_i h1 h2 h3
  simp only [Option.some.injEq]at h1 h2 h3;subst h1;subst h2;subst h3
  simp only [ky]
  cases xt T m with
  |none=>rfl
  |some es=>
   simp only [QY]
   cases yj _ es.length with
   |none=>rfl
   |some i=>simp only [qcK];cases j0 T m _<;>rfl
 ·rename_i h
  unfold ky
  split
  ·split
   ·exact absurd rfl (h _ _ _ rfl rfl)
   ·rfl
  ·rfl
theorem qno(k v w:Int): ∀ (es:List (Int × Int)),(zF k w es).modify (zy k es) (fun e=>(e.1,v))=zF k v es
 |[]=>rfl
 |(a,b)::r=>by
  simp only [zF,zy]
  split
  ·rfl
  ·simp only [List.modify_succ_cons,qno k v w r]
theorem qoa(k w:Int): ∀ (es:List (Int × Int)),zy k es < (zF k w es).length
 |[]=>by simp [zF,zy]
 |(a,b)::r=>by
  simp only [zF,zy]
  split
  ·simp
  ·have:=qoa k w r;simp only [List.length_cons];omega
theorem qsC(k w:Int) (es:List (Int × Int)):yj (zy k es:Int) (zF k w es).length=some (zy k es):=by
 have:=qoa k w es
 unfold yj
 rw [if_pos ⟨by omega,by omega⟩];simp
attribute [go_sem] qno qsC
@[go_sem] theorem qJa:qj call ⟨σ,T⟩ (.mkm d)=qp call ⟨σ,T⟩ (.mkm d):=(rfl)
@[go_sem] theorem qJc {m k v:AO}:qj call ⟨σ,T⟩ (.mset m k v)=qp call ⟨σ,T⟩ (.mset m k v):=(rfl)
@[go_sem] theorem qI8 {m k:AO}:qj call ⟨σ,T⟩ (.mget d m k)=qp call ⟨σ,T⟩ (.mget d m k):=(rfl)
@[go_sem] theorem qI6 {m k:AO}:qj call ⟨σ,T⟩ (.men d m k)=qp call ⟨σ,T⟩ (.men d m k):=(rfl)
@[go_sem] theorem qI7 {m k v:AO}:qj call ⟨σ,T⟩ (.mes m k v)=qp call ⟨σ,T⟩ (.mes m k v):=(rfl)
@[go_sem] theorem qLt:(V.m k).cells=[V.m k]:=(rfl)
@[go_sem] theorem qLB:(V.w o es).cells=[V.w o es]:=(rfl)
@[go_sem] theorem qSf:(V.m k).one=true:=(rfl)
@[go_sem] theorem qSl:(V.w o es).one=true:=(rfl)
@[go_sem] theorem qPp:(V.m k).isA=false:=(rfl)
@[go_sem] theorem qPt:(V.w o es).isA=false:=(rfl)
@[go_sem] theorem qSX:zB d j (.m k)=(.m k,j,[]):=(rfl)
@[go_sem] theorem qS0:zB d j (.w none es)=(.m (d,j),j+1,[((d,j),0,[.w (some true) es])]):=(rfl)
@[go_sem] theorem qS1:zB d j (.w (some τ) es)=(.w (some τ) es,j,[]):=(rfl)
def mK(T':Mem) (ob:Option Ob) (T:Mem):V × Mem:=
 match ob with
 |some (_,[.w _ es])=>(.w none es,T')
 |_=>(.d,T)
@[go_sem] theorem qQm {T':Mem}:mK T' (some (e,[.w o es])) T=(.w none es,T'):=(rfl)
@[go_sem] theorem qMe {m:Nat}:qz (m+1) T (.m k)=mK (qE T k) (qt T k) T:=(rfl)
@[go_sem] theorem qMk {m:Nat}:qz (m+1) T (.w o es)=(.w o es,T):=(rfl)
@[go_sem] theorem qQ4 {i:Nat}:qW d i nm (.m k)=if NB≤k.1 then .d else .m k:=(rfl)
@[go_sem] theorem qRc {i:Nat}:qW d i nm (.w o es)= .w o es:=(rfl)
def mOf(o:Option Key):V:=match o with|some k=> .m k|none=> .d
@[congr] theorem qQn {o o':Option Key} (h:o=o'):mOf o=mOf o':=by rw [h]
@[go_sem] theorem qQo:mOf (some k)= .m k:=(rfl)
@[go_sem] theorem qTT:zc tb (.m k)=mOf (kb tb k):=by simp only [zc,mOf];cases kb tb k<;>rfl
@[go_sem] theorem qT0:zc tb (.w o es)= .w o es:=(rfl)
@[go_sem] theorem qQa {n:Nat}:zh false n (.m k) 0=some (.m k):=(rfl)
@[go_sem] theorem qQe {n:Nat}:zh false n (.w o es) 0=some (.w o es):=(rfl)
end
end Go.Vm
namespace Go.Vm
abbrev Str:=List UInt8
theorem zP {α:Type} {l:List α} {i:Nat} {x:α} (h:l[i]? =some x):l.drop i=x::l.drop (i+1):=by
 obtain ⟨hl,rfl⟩:=List.getElem?_eq_some_iff.1 h
 exact List.drop_eq_getElem_cons hl
theorem qV {α:Type} {l:List α} {i:Nat} (h:i < l.length): ∃ x,l[i]? =some x:=⟨_,List.getElem?_eq_getElem h⟩
def RL {α:Type} (R:α→V→Prop):List α→List V→Prop
 |[],vs=>vs=[]
 |t::ts,vs=> ∃ v vs',vs=v::vs'∧R t v∧RL R ts vs'
section
variable {α:Type} {R R':α→V→Prop}
theorem qS: ∀ {ts:List α} {vs:List V},RL R ts vs→vs.length=ts.length
 |[],vs,h=>by simp only [RL]at h;simp [h]
 |t::ts,vs,h=>by
  simp only [RL]at h
  obtain ⟨v,vs',rfl,-,h⟩:=h
  simp [qS h]
theorem yJ: ∀ {ts:List α} {vs:List V} {i:Nat} {t:α},RL R ts vs→ts[i]? =some t→ ∃ v,vs[i]? =some v∧R t v
 |[],vs,i,t,h,ht=>by simp at ht
 |t'::ts,vs,i,t,h,ht=>by
  simp only [RL]at h
  obtain ⟨v,vs',rfl,h1,h2⟩:=h
  cases i with
  |zero=>simp at ht;subst ht;exact ⟨v,rfl,h1⟩
  |succ i=>simpa using yJ h2 (by simpa using ht)
theorem xR {f:α→V} (h: ∀ t,R t (f t)): ∀ (ts:List α),RL R ts (ts.map f)
 |[]=>rfl
 |t::ts=>by simp only [RL,List.map_cons];exact ⟨_,_,rfl,h t,xR h ts⟩
theorem qhM: ∀ {ts us:List α} {vs ws:List V},RL R ts vs→RL R us ws→RL R (ts++us) (vs++ws)
 |[],us,vs,ws,h,h'=>by simp only [RL]at h;subst h;exact h'
 |t::ts,us,vs,ws,h,h'=>by
  simp only [RL]at h
  obtain ⟨v,vs',rfl,h1,h2⟩:=h
  simp only [List.cons_append,RL]
  exact ⟨v,vs'++ws,rfl,h1,qhM h2 h'⟩
theorem qkX: ∀ {ts:List α} {vs:List V} (n:Nat),RL R ts vs→RL R (ts.take n) (vs.take n)
 |ts,vs,0,h=>by simp [RL]
 |[],vs,n+1,h=>by simp only [RL]at h;subst h;simp [RL]
 |t::ts,vs,n+1,h=>by
  simp only [RL]at h
  obtain ⟨v,vs',rfl,h1,h2⟩:=h
  simp only [List.take_succ_cons,RL]
  exact ⟨_,_,rfl,h1,qkX n h2⟩
theorem qkW {f:α→V} (h: ∀ t v,R t v→v=f t): ∀ {ts:List α} {vs:List V},RL R ts vs→vs=ts.map f
 |[],vs,hv=>hv
 |t::ts,vs,hv=>by
  simp only [RL]at hv
  obtain ⟨v,vs',rfl,h1,h2⟩:=hv
  rw [h t v h1,qkW h h2,List.map_cons]
end
def RI(n:Int) (v:V):Prop:=v=I n
def RS(s:Str) (v:V):Prop:=v=S s
mutual
theorem qmZ(d:Nat): ∀ (x:V),clB x=true→qN d x=x
 | .v _,_| .q ..,_| .i ..,_| .o ..,_| .b _,_| .n _,_| .w ..,_=>rfl
 | .f fn first caps,h=>by
   simp only [clB,Bool.and_eq_true]at h
   simp only [qN,qfP d first h.1,qfP d caps h.2]
 | .p ..,h| .s ..,h| .a _,h| .t _,h| .m _,h| .d,h=>by simp [clB]at h
theorem qfP(d:Nat): ∀ (xs:List V),xX xs=true→qB d xs=xs
 |[],_=>rfl
 |x::xs,h=>by
  simp only [xX,Bool.and_eq_true]at h
  simp only [qB,qmZ d x h.1,qfP d xs h.2]
end
theorem qiK(d:Nat) (x:V) (h:clE x=true):qN d x=x:=by
 cases x
 case a cs=>simp only [clE]at h;simp only [qN,qfP d cs h]
 all_goals exact qmZ d _ h
theorem ZR(d:Nat): ∀ (xs:List V),qC xs=true→qB d xs=xs
 |[],_=>rfl
 |x::xs,h=>by
  simp only [qC,Bool.and_eq_true]at h
  simp only [qB,qiK d x h.1,ZR d xs h.2]
theorem Qn: ∀ (xs ys:List V),qC (xs++ys)=(qC xs&&qC ys)
 |[],ys=>by simp [qC]
 |x::xs,ys=>by simp only [List.cons_append,qC,Qn xs ys,Bool.and_assoc]
theorem Qt(d:Nat): ∀ (xs ys:List V),qB d (xs++ys)=qB d xs++qB d ys
 |[],ys=>rfl
 |x::xs,ys=>by simp only [List.cons_append,qB,Qt d xs ys]
theorem JW(τ:Bool): ∀ (xs ys:List V),qT τ (xs++ys)=qT τ xs++qT τ ys
 |[],ys=>rfl
 |x::xs,ys=>by simp only [List.cons_append,qT,JW τ xs ys]
theorem qcA(n:Nat) (z:V) (h:clE z=true):qC (List.replicate n z)=true:=by
 induction n with
 |zero=>rfl
 |succ n ih=>simp only [List.replicate_succ,qC,h,ih,Bool.and_self]
theorem qiJ(d n:Nat) (z:V) (h:clE z=true):qB d (List.replicate n z)=List.replicate n z:=ZR d _ (qcA n z h)
section
variable {α:Type} {f:α→V}
theorem jr(h: ∀ x,clE (f x)=true): ∀ (l:List α),qC (l.map f)=true
 |[]=>rfl
 |x::l=>by simp only [List.map_cons,qC,h x,jr h l,Bool.and_self]
theorem ZQ(h: ∀ x,clE (f x)=true) (d:Nat) (l:List α):qB d (l.map f)=l.map f:=ZR d _ (jr h l)
theorem jK {g:α→V} {τ:Bool} (h: ∀ x,zb τ (f x)=g x): ∀ (l:List α),qT τ (l.map f)=l.map g
 |[]=>rfl
 |x::l=>by simp only [List.map_cons,qT,h x,jK h l]
theorem x7(h: ∀ x,zd (f x)=true): ∀ (l:List α),qH (l.map f)=true
 |[]=>rfl
 |x::l=>by simp only [List.map_cons,qH,h x,x7 h l,Bool.and_self]
theorem JP {e:Nat} (h: ∀ x,yT (f x).cells=true∧(f x).cells.length=e): ∀ (l:List α),xV e (l.map f)=true
 |[]=>rfl
 |x::l=>by simp only [List.map_cons,xV,(h x).1,(h x).2,JP h l,beq_self_eq_true,Bool.and_self]
theorem qdk(h: ∀ x,zk (f x)=true): ∀ (l:List α),ya (l.map f)=true
 |[]=>rfl
 |x::l=>by simp only [List.map_cons,ya,h x,qdk h l,Bool.and_self]
theorem QA(k:Key) (ob:Ob): ∀ (xs ys:List V),qC xs=true→zG k ob (xs++ys)=(zG k ob ys).map (xs++ ·)
 |[],ys,_=>by simp
 |x::xs,ys,h=>by
  simp only [qC,Bool.and_eq_true]at h
  have hC: ∀ (c:V),clB c=true→yV k ob c=none:=by intro c hc;cases c<;>first|rfl|(simp [clB]at hc)
  have hCs: ∀ (cs:List V),xX cs=true→kC k ob cs=none:=by
   intro cs
   induction cs with
   |nil=>intro _;rfl
   |cons c cs ih=>
    intro h
    simp only [xX,Bool.and_eq_true]at h
    simp only [kC,hC c h.1,ih h.2,Option.map_none]
  have hE:kD k ob x=none:=by
   cases x
   case a cs=>simp only [clE]at h;simp only [kD,hCs cs h.1,Option.map_none]
   all_goals exact hC _ h.1
  simp only [List.cons_append,zG,hE,QA k ob xs ys h.2]
  cases zG k ob ys<;>rfl
end
@[go_sem] theorem qlK(l:List Int):qC (l.map I)=true:=jr (fun _=>rfl) l
@[go_sem] theorem qlL(l:List Str):qC (l.map S)=true:=jr (fun _=>rfl) l
@[go_sem] theorem qPw(d:Nat) (l:List Int):qB d (l.map I)=l.map I:=ZQ (fun _=>rfl) d l
@[go_sem] theorem qPx(d:Nat) (l:List Str):qB d (l.map S)=l.map S:=ZQ (fun _=>rfl) d l
@[go_sem] theorem qMt(τ:Bool) (l:List Int):qT τ (l.map I)=l.map I:=jK (fun _=>rfl) l
@[go_sem] theorem qMu(τ:Bool) (l:List Str):qT τ (l.map S)=l.map S:=jK (fun _=>rfl) l
@[go_sem] theorem qRK(l:List Int):qH (l.map I)=true:=x7 (fun _=>rfl) l
@[go_sem] theorem qRL(l:List Str):qH (l.map S)=true:=x7 (fun _=>rfl) l
attribute [go_sem] Qn Qt JW qcA qiJ
@[go_sem] theorem qrE(n:Nat) (l:Str):qC (List.replicate n (S l))=true:=qcA n _ rfl
@[go_sem] theorem qLG(n:Nat) (i:Int):qC (List.replicate n (I i))=true:=qcA n _ rfl
@[go_sem] theorem qPG(d n:Nat) (l:Str):qB d (List.replicate n (S l))=List.replicate n (S l):=qiJ d n _ rfl
@[go_sem] theorem qPF(d n:Nat) (i:Int):qB d (List.replicate n (I i))=List.replicate n (I i):=qiJ d n _ rfl
attribute [go_sem] List.length_map List.length_replicate Nat.zero_add Nat.add_zero Nat.le_refl List.take_length
@[go_sem] theorem qQz {α:Type} {f:α→V} {l:List α} {x:α}:l.map f++[f x]=(l++[x]).map f:=by simp
@[go_sem] theorem qVa {α:Type} {f:α→V} {l:List α} {x:α}:((l++[x]).map f).take (l.length+1)=(l++[x]).map f:=by
 apply List.take_of_length_le;simp
@[go_sem] theorem qU9 {α:Type} {f:α→V} {l:List α}:(l.map f).take l.length=l.map f:=by
 rw [← List.length_map (f:=f),List.take_length]
theorem jZ(k:Key) (ob:Ob) (xs:List V) (h:qC xs=true):zG k ob xs=none:=by
 have:=QA k ob xs [] h
 rw [List.append_nil]at this
 rw [this];rfl
@[go_sem] theorem qQp(m:Nat) (T:Mem) (l:List Int):qy (zf m) T (l.map I)=(l.map I,T):=ku m T _ (qlK l)
@[go_sem] theorem qQq(m:Nat) (T:Mem) (l:List Str):qy (zf m) T (l.map S)=(l.map S,T):=ku m T _ (qlL l)
@[go_sem] theorem qQx(m n:Nat) (T:Mem) (z:V) (h:clE z=true):qy (zf m) T (List.replicate n z)=(List.replicate n z,T):=ku m T _ (qcA n z h)
@[go_sem] theorem qQy(m n:Nat) (T:Mem) (l:Str):qy (zf m) T (List.replicate n (S l))=(List.replicate n (S l),T):=ku m T _ (qrE n l)
@[go_sem] theorem qUi(k:Key) (ob:Ob) (l:List Int):zG k ob (l.map I)=none:=jZ k ob _ (qlK l)
@[go_sem] theorem qUj(k:Key) (ob:Ob) (l:List Str):zG k ob (l.map S)=none:=jZ k ob _ (qlL l)
section lit
variable {k:Key} {lo len e:Nat} {xs:List V}
theorem qmR {i:Nat} (h:i < len) (hl:lo+len≤xs.length):ixO k lo len e (i:Int) (some (e,xs))=some (.p k (lo+i) 0):=by
 simp only [ixO,yj]
 rw [if_pos ⟨trivial,hl⟩,if_pos ⟨by omega,by omega⟩]
 simp
@[go_sem] theorem qPu:ixO k lo len e 0 (some (e,xs))=if 1≤len∧lo+len≤xs.length then some (.p k (lo+0) 0)else none:=by
 split
 ·rename_i h;exact qmR (i:=0) h.1 h.2
 ·rename_i h
  simp only [ixO,yj]
  split
  ·rename_i h2;rw [if_neg (by omega)];rfl
  ·rfl
@[go_sem] theorem qPv:ixO k lo len e 1 (some (e,xs))=if 2≤len∧lo+len≤xs.length then some (.p k (lo+1) 0)else none:=by
 split
 ·rename_i h;exact qmR (i:=1) h.1 h.2
 ·rename_i h
  simp only [ixO,yj]
  split
  ·rename_i h2;rw [if_neg (by omega)];rfl
  ·rfl
@[go_sem] theorem qJo {T:Mem} {τ:Bool} {x:V}:jj T e (.i τ (x::xs)) 0=if x.cells.length=e then some (.q τ (x::xs) 0 0)else none:=by
 have h0:yj 0 (x::xs).length=some 0:=by
  unfold yj;rw [if_pos ⟨by omega,by simp only [List.length_cons];omega⟩];rfl
 simp only [jj,h0];rfl
@[go_sem] theorem qJp {T:Mem} {τ:Bool} {x y:V}:jj T e (.i τ (x::y::xs)) 1=if y.cells.length=e then some (.q τ (x::y::xs) 1 0)else none:=by
 have h0:yj 1 (x::y::xs).length=some 1:=by
  unfold yj;rw [if_pos ⟨by omega,by simp only [List.length_cons];omega⟩];rfl
 simp only [jj,h0];rfl
end lit
section rep
variable {k:Key} {ob:Ob} {k':Key} {e:Nat} {xs:List V} {T:Mem}
def qan(k:Key) (ob:Ob) (r:Option (List V)) (k':Key) (e:Nat) (xs:List V) (T:Mem):Mem:=
 match r with
 |some xs'=>(k',e,xs')::T
 |none=>(k',e,xs)::jz k ob T
@[congr] theorem qUs {r r':Option (List V)} (h:r=r'):qan k ob r k' e xs T=qan k ob r' k' e xs T:=by rw [h]
@[go_sem] theorem qUD:jz k ob []=[]:=(rfl)
@[go_sem] theorem qUC:jz k ob ((k',e,xs)::T)=qan k ob (zG k ob xs) k' e xs T:=by
 simp only [jz,qan];cases zG k ob xs<;>rfl
@[go_sem] theorem qUu {xs':List V}:qan k ob (some xs') k' e xs T=(k',e,xs')::T:=(rfl)
@[go_sem] theorem qUt:qan k ob none k' e xs T=(k',e,xs)::jz k ob T:=(rfl)
def qap(k:Key) (ob:Ob) (r:Option V) (x:V) (xs:List V):Option (List V):=
 match r with
 |some x'=>some (x'::xs)
 |none=>yC (zG k ob xs) fun ys=>some (x::ys)
def qao(k:Key) (ob:Ob) (r:Option V) (x:V) (xs:List V):Option (List V):=
 match r with
 |some x'=>some (x'::xs)
 |none=>yC (kC k ob xs) fun ys=>some (x::ys)
@[congr] theorem qUy {r r':Option V} {x:V} (h:r=r'):qap k ob r x xs=qap k ob r' x xs:=by rw [h]
@[congr] theorem qUv {r r':Option V} {x:V} (h:r=r'):qao k ob r x xs=qao k ob r' x xs:=by rw [h]
@[go_sem] theorem qUA {x x':V}:qap k ob (some x') x xs=some (x'::xs):=(rfl)
@[go_sem] theorem qUz {x:V}:qap k ob none x xs=yC (zG k ob xs) fun ys=>some (x::ys):=(rfl)
@[go_sem] theorem qUx {x x':V}:qao k ob (some x') x xs=some (x'::xs):=(rfl)
@[go_sem] theorem qUw {x:V}:qao k ob none x xs=yC (kC k ob xs) fun ys=>some (x::ys):=(rfl)
@[go_sem] theorem qUr:zG k ob []=none:=(rfl)
@[go_sem] theorem qUl {x:V}:zG k ob (x::xs)=qap k ob (kD k ob x) x xs:=by
 simp only [zG,qap]
 cases kD k ob x with
 |some y=>rfl
 |none=>simp only;cases zG k ob xs<;>rfl
@[go_sem] theorem qUb:kC k ob []=none:=(rfl)
@[go_sem] theorem qUa {x:V}:kC k ob (x::xs)=qao k ob (yV k ob x) x xs:=by
 simp only [kC,qao]
 cases yV k ob x with
 |some y=>rfl
 |none=>simp only;cases kC k ob xs<;>rfl
@[go_sem] theorem qUf:kD k ob (.a xs)=yC (kC k ob xs) fun ys=>some (.a ys):=by
 simp only [kD];cases kC k ob xs<;>rfl
@[go_sem] theorem qUh {lo len:Nat}:kD k ob (.s k' lo len)=yV k ob (.s k' lo len):=(rfl)
@[go_sem] theorem qUg {lo len:Nat}:kD k ob (.p k' lo len)=yV k ob (.p k' lo len):=(rfl)
@[go_sem] theorem qT9 {lo len:Nat} {zs:List V}:yV k (e,zs) (.s k' lo len)=if k'=k∧lo=0∧len=zs.length then some (.o e zs)else none:=(rfl)
@[go_sem] theorem qT8 {i o:Nat} {z:V}:yV k (e,[z]) (.p k' i o)=if k'=k∧i=0∧o=0 then some (.b z)else none:=(rfl)
@[go_sem] theorem qT2 {n:Int}:yV k ob (I n)=none:=(rfl)
@[go_sem] theorem qT3 {l:Str}:yV k ob (S l)=none:=(rfl)
@[go_sem] theorem qT1 {b:Bool}:yV k ob (B b)=none:=(rfl)
@[go_sem] theorem qT4 {n:Int}:yV k ob (U8 n)=none:=(rfl)
@[go_sem] theorem qT5 {τ:Bool}:yV k ob (.i τ xs)=none:=(rfl)
@[go_sem] theorem qT7:yV k ob (.o e xs)=none:=(rfl)
@[go_sem] theorem qT6:yV k ob (.n e)=none:=(rfl)
@[go_sem] theorem qUd {n:Int}:kD k ob (I n)=none:=(rfl)
@[go_sem] theorem qUe {l:Str}:kD k ob (S l)=none:=(rfl)
@[go_sem] theorem qUc {b:Bool}:kD k ob (B b)=none:=(rfl)
end rep
inductive Tm where
 |mk (kind:Int) (name:Str) (num:Int) (kids:List Tm)
def Tm.kind:Tm→Int| .mk k _ _ _=>k
def Tm.name:Tm→Str| .mk _ s _ _=>s
def Tm.num:Tm→Int| .mk _ _ n _=>n
def Tm.kids:Tm→List Tm| .mk _ _ _ ks=>ks
noncomputable instance:DecidableEq Tm:=fun a b=>Classical.propDecidable (a=b)
section
variable {k n:Int} {s:Str} {ks:List Tm}
@[go_sem] theorem yq:(Tm.mk k s n ks).kind=k:=(rfl)
@[go_sem] theorem yr:(Tm.mk k s n ks).name=s:=(rfl)
@[go_sem] theorem yB:(Tm.mk k s n ks).num=n:=(rfl)
@[go_sem] theorem zU:(Tm.mk k s n ks).kids=ks:=(rfl)
end
theorem jH {P:Tm→Prop} (h: ∀ k s n ks,(∀ t ∈ ks,P t)→P (.mk k s n ks)) (t:Tm):P t:=
 Tm.rec (motive_1:=P) (motive_2:=fun ks=> ∀ t ∈ ks,P t) (fun k s n ks ih=>h k s n ks ih) (fun t ht=>by cases ht)
  (fun x xs hx hxs t ht=>by
   rcases List.mem_cons.1 ht with rfl|ht
   ·exact hx
   ·exact hxs t ht) t
mutual
def BT:Tm→V→Prop
 | .mk k s n ks,v=> ∃ τ vs,v= .a [I k,S s,I n,.i τ vs]∧BTs ks vs
def BTs:List Tm→List V→Prop
 |[],vs=>vs=[]
 |t::ts,vs=> ∃ v vs',vs=v::vs'∧BT t v∧BTs ts vs'
end
theorem qkm: ∀ (ts:List Tm) (vs:List V),BTs ts vs↔RL BT ts vs
 |[],vs=>by simp only [BTs,RL]
 |t::ts,vs=>by simp only [BTs,RL,qkm ts]
theorem qa9 {k n:Int} {s:Str} {ks:List Tm} {v:V}:BT (.mk k s n ks) v↔ ∃ τ vs,v= .a [I k,S s,I n,.i τ vs]∧RL BT ks vs:=by
 simp only [BT,qkm]
theorem qR {t:Tm} {v:V} (h:BT t v): ∃ τ vs,v= .a [I t.kind,S t.name,I t.num,.i τ vs]∧RL BT t.kids vs:=by
 cases t;exact qa9.1 h
theorem Qd {t:Tm} {v:V} (h:BT t v):v.cells.length=4:=by
 obtain ⟨τ,vs,rfl,-⟩:=qR h;rfl
theorem kJ {t:Tm} {τ:Bool} {vs:List V} (h:RL BT t.kids vs):BT t (.a [I t.kind,S t.name,I t.num,.i τ vs]):=by
 cases t;exact qa9.2 ⟨τ,vs,rfl,h⟩
mutual
def oT:Tm→V
 | .mk k s n ks=> .a [I k,S s,I n,.o 4 (oTs ks)]
def oTs:List Tm→List V
 |[]=>[]
 |t::ts=>oT t::oTs ts
end
mutual
def iT(τ:Bool):Tm→V
 | .mk k s n ks=> .a [I k,S s,I n,.i τ (iTs τ ks)]
def iTs(τ:Bool):List Tm→List V
 |[]=>[]
 |t::ts=>iT τ t::iTs τ ts
end
theorem qnN: ∀ (ts:List Tm),oTs ts=ts.map oT
 |[]=>rfl
 |t::ts=>by simp only [oTs,List.map_cons,qnN ts]
theorem qmF(τ:Bool): ∀ (ts:List Tm),iTs τ ts=ts.map (iT τ)
 |[]=>rfl
 |t::ts=>by simp only [iTs,List.map_cons,qmF τ ts]
theorem qv(t:Tm):oT t= .a [I t.kind,S t.name,I t.num,.o 4 (t.kids.map oT)]:=by cases t;simp only [oT,qnN];rfl
theorem ye(τ:Bool) (t:Tm):iT τ t= .a [I t.kind,S t.name,I t.num,.i τ (t.kids.map (iT τ))]:=by cases t;simp only [iT,qmF];rfl
theorem xl(τ:Bool): ∀ (t:Tm),BT t (iT τ t):=by
 refine jH ?_
 intro k s n ks ih
 rw [ye]
 refine qa9.2 ⟨τ,_,rfl, ?_⟩
 simp only [zU]
 induction ks with
 |nil=>rfl
 |cons t ts ih'=>exact ⟨_,_,rfl,ih t (by simp),ih' fun u hu=>ih u (by simp [hu])⟩
theorem jG(τ:Bool) (ts:List Tm):RL BT ts (ts.map (iT τ)):=xR (xl τ) ts
mutual
theorem qih(τ:Bool): ∀ (t:Tm),zb τ (oT t)=iT τ t
 | .mk k s n ks=>by simp only [oT,iT,zb,qT,qrQ,qrR,qlU τ ks]
theorem qlU(τ:Bool): ∀ (ts:List Tm),qT τ (oTs ts)=iTs τ ts
 |[]=>rfl
 |t::ts=>by simp only [oTs,iTs,qT,qih τ t,qlU τ ts]
end
mutual
theorem qi5: ∀ (t:Tm),zd (oT t)=true
 | .mk k s n ks=>by simp only [oT,zd,qH,qfV,qfW,qnE ks,Bool.and_self]
theorem qnE: ∀ (ts:List Tm),qH (oTs ts)=true
 |[]=>rfl
 |t::ts=>by simp only [oTs,qH,qi5 t,qnE ts,Bool.and_self]
end
mutual
theorem qi4: ∀ (t:Tm),zd (iT false t)=true
 | .mk k s n ks=>by simp only [iT,zd,qH,qfV,qfW,qnD ks,Bool.and_self,Bool.not_false]
theorem qnD: ∀ (ts:List Tm),qH (iTs false ts)=true
 |[]=>rfl
 |t::ts=>by simp only [iTs,qH,qi4 t,qnD ts,Bool.and_self]
end
theorem JT(t:Tm):clE (oT t)=true:=by rw [qv];rfl
theorem qrD(τ:Bool) (t:Tm):clE (iT τ t)=true:=by rw [ye];rfl
@[go_sem] theorem qWa(τ:Bool) (t:Tm):zk (iT τ t)=true:=by rw [ye];rfl
@[go_sem] theorem qMp(m:Nat) (T:Mem) (τ:Bool) (t:Tm):qz (m+2) T (iT τ t)=(iT τ t,T):=by rw [ye];rfl
@[go_sem] theorem qMK(τ τ':Bool) (t:Tm):zb τ (iT τ' t)=iT τ' t:=by rw [ye];rfl
@[go_sem] theorem qPT(d:Nat) (τ:Bool) (t:Tm):qN d (iT τ t)=iT τ t:=qiK d _ (by rw [ye];rfl)
@[go_sem] theorem qNb(τ:Bool) (t:Tm):xd (iT τ t)=[]:=by rw [ye];rfl
@[go_sem] theorem qPo(τ:Bool) (t:Tm):(iT τ t).isA=true:=by rw [ye];rfl
@[go_sem] theorem qLs(τ:Bool) (t:Tm):(iT τ t).cells=[I t.kind,S t.name,I t.num,.i τ (t.kids.map (iT τ))]:=by rw [ye];rfl
@[go_sem] theorem qQj(τ:Bool) (t:Tm):zh true 4 (iT τ t) 0=some (iT τ t):=by rw [ye];rfl
attribute [go_sem] qih qi5 qi4 JT qrD
@[go_sem] theorem qMB(τ:Bool) (ts:List Tm):qT τ (ts.map oT)=ts.map (iT τ):=jK (qih τ) ts
@[go_sem] theorem qRS(ts:List Tm):qH (ts.map oT)=true:=x7 qi5 ts
@[go_sem] theorem qad(ts:List Tm):qH (ts.map (iT false))=true:=x7 qi4 ts
@[go_sem] theorem Q1(ts:List Tm):qC (ts.map oT)=true:=jr JT ts
@[go_sem] theorem qPE(d:Nat) (ts:List Tm):qB d (ts.map oT)=ts.map oT:=ZQ JT d ts
@[go_sem] theorem qQw(m:Nat) (T:Mem) (l:List Tm):qy (zf m) T (l.map oT)=(l.map oT,T):=ku m T _ (Q1 l)
@[go_sem] theorem qUq(k:Key) (ob:Ob) (l:List Tm):zG k ob (l.map oT)=none:=jZ k ob _ (Q1 l)
@[go_sem] theorem qPN(d:Nat) (t:Tm):qN d (oT t)=oT t:=qiK d _ (JT t)
@[go_sem] theorem qR5(t:Tm):yT (oT t).cells=true:=by rw [qv];rfl
@[go_sem] theorem qLw(t:Tm):(oT t).cells.length=4:=by rw [qv];rfl
def Lm:Nat:=16777216
def inI(n:Int):Prop:= -9223372036854775808≤n∧n < 9223372036854775808
mutual
def WT:Tm→Prop
 | .mk k s n ks=>inI k∧s.length≤Lm∧inI n∧ks.length≤Lm∧WTs ks
def WTs:List Tm→Prop
 |[]=>True
 |t::ts=>WT t∧WTs ts
end
theorem qk5: ∀ {ts:List Tm} {t:Tm},WTs ts→t ∈ ts→WT t
 |x::xs,t,h,ht=>by
  simp only [WTs]at h
  rcases List.mem_cons.1 ht with rfl|ht
  ·exact h.1
  ·exact qk5 h.2 ht
theorem qk6: ∀ {ts:List Tm},(∀ t ∈ ts,WT t)→WTs ts
 |[],_=>trivial
 |t::ts,h=>⟨h t (by simp),qk6 fun u hu=>h u (by simp [hu])⟩
theorem qhU {t:Tm} (h:WT t):inI t.kind:=by cases t;exact h.1
theorem XB {t:Tm} (h:WT t):t.name.length≤Lm:=by cases t;exact h.2.1
theorem qhW {t:Tm} (h:WT t):inI t.num:=by cases t;exact h.2.2.1
theorem km {t:Tm} (h:WT t):t.kids.length≤Lm:=by cases t;exact h.2.2.2.1
theorem yt {t:Tm} (h:WT t): ∀ u ∈ t.kids,WT u:=by cases t;exact fun u hu=>qk5 h.2.2.2.2 hu
theorem xS {k n:Int} {s:Str} {ks:List Tm} (h1:inI k) (h2:s.length≤Lm) (h3:inI n) (h4:ks.length≤Lm) (h5: ∀ u ∈ ks,WT u):WT (.mk k s n ks):=⟨h1,h2,h3,h4,qk6 h5⟩
mutual
def nT:Tm→Nat
 | .mk _ _ _ ks=>nTs ks+1
def nTs:List Tm→Nat
 |[]=>0
 |t::ts=>nT t+nTs ts
end
theorem jS(t:Tm):1≤nT t:=by cases t;simp only [nT];omega
theorem qiY: ∀ {ts:List Tm} {t:Tm},t ∈ ts→nT t≤nTs ts
 |x::xs,t,h=>by
  simp only [nTs]
  rcases List.mem_cons.1 h with rfl|h
  ·omega
  ·have:=qiY h;omega
theorem qns(t:Tm):nTs t.kids+1=nT t:=by cases t;rfl
def wTm(t:Tm):Prop:=WT t∧nT t≤Lm
end Go.Vm
namespace Go.Vm
section
variable {α:Type} {f:α→V} {z x:V}
theorem qAD {ts:List α} {i:Nat} {t:α} (h:ts[i]? =some t) (zs:List V):(ts.take i).map f++f t::zs=(ts.take (i+1)).map f++zs:=by
 rw [List.take_succ_eq_append_getElem (List.getElem?_eq_some_iff.1 h).1]
 simp [(List.getElem?_eq_some_iff.1 h).2]
theorem qry(xs:List V) (y:V) (zs:List V) (i:Nat) (h:xs.length=i):(xs++y::zs)[i]? =some y:=by
 subst h;simp
theorem qrA(xs:List V) (y y':V) (zs:List V) (i:Nat) (h:xs.length=i):(xs++y::zs).set i y'=xs++y'::zs:=by
 subst h;simp
end
end Go.Vm
namespace Go.Vm
theorem ZN {β:Type} (ts:List β) (P:Nat→List β→Prop) (hlim:ts.length < 2^62) (h0:P ts.length [])
 (hs: ∀ i t r,ts[i]? =some t→i < ts.length→(i:Int) < ts.length→w64 ((i:Int)+1)=((i+1:Nat):Int)→i+(r.length+1)=ts.length→t ∈ ts→(∀ u ∈ r,u ∈ ts)→P (i+1) r→P i (t::r)):P 0 ts:=by
 have key: ∀ m i,i+m=ts.length→P i (ts.drop i):=by
  intro m
  induction m with
  |zero=>
   intro i hi
   obtain rfl:i=ts.length:=by omega
   rw [List.drop_length];exact h0
  |succ m ih=>
   intro i hi
   obtain ⟨t,ht⟩:=qV (l:=ts) (i:=i) (by omega)
   rw [zP ht]
   refine hs i t _ ht (by omega) (by omega) (by rw [qm]<;>omega) (by rw [List.length_drop];omega) (List.mem_of_getElem? ht) (fun u hu=>List.mem_of_mem_drop hu) (ih (i+1) (by omega))
 have:=key ts.length 0 (by omega)
 simpa using this
theorem qBB(l:List Tm) (t:Tm):l.map oT++[.a [I t.kind,S t.name,I t.num,.o 4 (t.kids.map oT)]]=(l++[t]).map oT:=by
 rw [List.map_append,List.map_cons,List.map_nil,qv]
theorem qxd(a:Int):(a < a)=False:=eq_false (Int.lt_irrefl a)
attribute [go_sem] qBB qxd Int.natCast_zero
end Go.Vm
set_option maxRecDepth 100000
namespace Go.Vm
def qkA(f e:Nat):AC:=
 (.seq
  (.seq
   (.reg [.mv 11 (.t 5),
    .mv 12 (.t 0),
    .len 13 (.t 12),
    .bin 14 .lss (.t 11) (.t 13)])
  (.keep [0,1,5,14]
   (.cond (.t 14)
    .skip
    (.keep []
     (.exit 0)))))
 (.keep [0,1,5]
  (.seq
   (.block 1
    (.seq
     (.dreg [⟨0,[]⟩,⟨0,[]⟩,⟨0,[(0,0),(0,1),(0,2),(0,3),(100000,0),(100000,1),(100000,2),(100000,3),(100000,4),(100000,5)]⟩,⟨0,[(0,0),(0,1),(0,2),(0,3),(100000,0),(100000,1),(100000,2),(100000,3),(100000,4),(100000,5)]⟩,⟨0,[]⟩,⟨0,[]⟩,⟨0,[(1,0),(1,1),(1,2),(1,3),(100000,0),(100000,1),(100000,2),(100000,3),(100000,4),(100000,5)]⟩,⟨0,[(1,0),(1,1),(1,2),(1,3),(100000,0),(100000,1),(100000,2),(100000,3),(100000,4),(100000,5)]⟩,⟨2,[(0,0),(0,1),(0,2),(0,3),(1,0),(1,1),(1,2),(1,3),(20,0),(24,0),(100000,0),(100000,1),(100000,2),(100000,3),(100000,4),(100000,5)]⟩,⟨0,[]⟩]
      [.mv 17 (.t 0),
       .mv 18 (.t 5),
       .ia 19 e (.t 17) (.t 18),
       .ldq 20 true e (.t 19),
       .mv 21 (.t 1),
       .mv 22 (.t 5),
       .ia 23 e (.t 21) (.t 22),
       .ldq 24 true e (.t 23),
       .call (some 25) (.c (Fc f)) [(.t 20),(.t 24)] (.ro true),
       .un 26 .not (.t 25)])
    (.keep [0,1,5,26]
     (.cond (.t 26)
      (.seq
       (.reg [.mv 4 (.c (B false))])
      (.keep [4]
       .ret))
      .skip))))
  (.keep [0,1,5]
   (.reg [.mv 15 (.t 5),
    .bin 16 .add (.t 15) (.c (I 1)),
    .mv 5 (.t 16)])))))
def qeO(f e:Nat):Lp:=⟨[0,1,5],[(2,0)],qkA f e⟩
@[go_sem] theorem qFb {f e:Nat}:(qeO f e).ls=[0,1,5]:=rfl
@[go_sem] theorem qFa {f e:Nat}:(qeO f e).ks=[(2,0)]:=rfl
@[go_sem] theorem qE9 {f e:Nat}:(qeO f e).body=qkA f e:=rfl
def qE6(f e:Nat):AF where
 nargs:=2
 ntmps:=27
 res:=[.tmp 4]
 body:=
  (.seq
   (.reg [.mv 4 (.c (B false))])
  (.seq
   (.seq
    (.reg [.mv 6 (.t 0),
     .len 7 (.t 6),
     .mv 8 (.t 1),
     .len 9 (.t 8),
     .bin 10 .neq (.t 7) (.t 9)])
   (.keep [0,1,10]
    (.cond (.t 10)
     (.seq
      (.reg [.mv 4 (.c (B false))])
     (.keep [4]
      .ret))
     .skip)))
  (.keep [0,1]
   (.seq
    (.seq
     (.reg [.mv 5 (.c (I 0))])
    (.block 0
     (lpC (qeO f e))))
   (.keep []
    (.seq
     (.reg [.mv 4 (.c (B true))])
    (.keep [4]
     .ret)))))))
def qkB(f e:Nat):AC:=
        (.seq
         (.seq
          (.reg [.mv 12 (.t 5),
           .mv 13 (.t 0),
           .len 14 (.t 13),
           .bin 15 .lss (.t 12) (.t 14)])
         (.keep [0,1,5,15]
          (.cond (.t 15)
           .skip
           (.keep [1]
            (.exit 0)))))
        (.keep [0,1,5]
         (.seq
          (.block 1
           (.seq
            (.reg [.mv 18 (.t 0),
             .mv 19 (.t 5),
             .ia 20 e (.t 18) (.t 19),
             .ld 21 true e (.t 20),
             .mv 22 (.t 1),
             .call (some 23) (.c (Fc f)) [(.t 21),(.t 22)] (.ro false),
             .mv 1 (.t 23)])
           (.keep [0,1,5]
            (.seq
             (.reg [.mv 24 (.t 1),
              .bin 25 .lss (.t 24) (.c (I 0))])
            (.cond (.t 25)
             (.seq
              (.reg [.mv 4 (.c (I (-1)))])
             (.keep [4]
              .ret))
             .skip)))))
         (.keep [0,1,5]
          (.reg [.mv 16 (.t 5),
           .bin 17 .add (.t 16) (.c (I 1)),
           .mv 5 (.t 17)])))))
def qeP(f e:Nat):Lp:=⟨[0,1,5],[(2,0)],qkB f e⟩
@[go_sem] theorem qFe {f e:Nat}:(qeP f e).ls=[0,1,5]:=rfl
@[go_sem] theorem qFd {f e:Nat}:(qeP f e).ks=[(2,0)]:=rfl
@[go_sem] theorem qFc {f e:Nat}:(qeP f e).body=qkB f e:=rfl
def qE7(f e:Nat):AF where
 nargs:=2
 ntmps:=27
 res:=[.tmp 4]
 body:=
  (.seq
   (.reg [.mv 4 (.c (I 0))])
  (.seq
   (.reg [.mv 6 (.t 1),
    .mv 7 (.t 0),
    .len 8 (.t 7),
    .bin 9 .sub (.t 6) (.t 8),
    .mv 1 (.t 9)])
  (.keep [0,1]
   (.seq
    (.seq
     (.reg [.mv 10 (.t 1),
      .bin 11 .lss (.t 10) (.c (I 0))])
    (.cond (.t 11)
     (.seq
      (.reg [.mv 4 (.c (I (-1)))])
     (.keep [4]
      .ret))
     .skip))
   (.keep [0,1]
    (.seq
     (.seq
      (.reg [.mv 5 (.c (I 0))])
     (.block 0
      (lpC (qeP f e))))
    (.keep [1]
     (.seq
      (.reg [.mv 26 (.t 1),
       .mv 4 (.t 26)])
     (.keep [4]
      .ret)))))))))
def qkC(f e b:Nat) (z:V):AC:=
 (.seq
  (.seq
   (.reg [.mv 8 (.t 4),
    .mv 9 (.t 0),
    .len 10 (.t 9),
    .bin 11 .lss (.t 8) (.t 10)])
  (.keep [0,3,4,11]
   (.cond (.t 11)
    .skip
    (.keep [3]
     (.exit 0)))))
 (.keep [0,3,4]
  (.seq
   (.block 1
    (.reg [.mv 14 (.t 3),
     .mv 15 (.t 4),
     .mv 16 (.t 0),
     .mv 17 (.t 4),
     .ia 18 e (.t 16) (.t 17),
     .ld 19 true e (.t 18),
     .call (some 20) (.c (Fc f)) [(.t 19)] (.ro false),
     .ia 21 e (.t 14) (.t 15),
     .st e (.t 21) (.t 20)]))
  (.keep [0,3,4]
   (.reg [.mv 12 (.t 4),
    .bin 13 .add (.t 12) (.c (I 1)),
    .mv 4 (.t 13)])))))
def qeQ(f e b:Nat) (z:V):Lp:=⟨[0,3,4],[(1,0)],qkC f e b z⟩
@[go_sem] theorem qFh {f e b:Nat} {z:V}:(qeQ f e b z).ls=[0,3,4]:=rfl
@[go_sem] theorem qFg {f e b:Nat} {z:V}:(qeQ f e b z).ks=[(1,0)]:=rfl
@[go_sem] theorem qFf {f e b:Nat} {z:V}:(qeQ f e b z).body=qkC f e b z:=rfl
def qE8(f e b:Nat) (z:V):AF where
 nargs:=1
 ntmps:=23
 res:=[.tmp 2]
 body:=
  (.seq
   (.reg [.mv 2 (.c (.n e))])
  (.seq
   (.reg [.mv 5 (.t 0),
    .len 6 (.t 5),
    .mk 7 e z b (.t 6) (.t 6),
    .mv 3 (.t 7)])
  (.keep [0,3]
   (.seq
    (.seq
     (.reg [.mv 4 (.c (I 0))])
    (.block 0
     (lpC (qeQ f e b z))))
   (.keep [3]
    (.seq
     (.reg [.mv 22 (.t 3),
      .mv 2 (.t 22)])
    (.keep [2]
     .ret)))))))
end Go.Vm
namespace Go.Vm
def qso:V→Bool
 | .v _=>true
 | .i _ _=>true
 |_=>false
def qml:List V→Bool
 |[]=>true
 |c::cs=>qso c&&qml cs
def qkz(e:Nat) (v:V):Prop:= ∃ cs,v= .a cs∧cs.length=e∧qml cs=true
theorem qkz.cells {e:Nat} {v:V} (h:qkz e v):v.cells.length=e:=by obtain ⟨cs,rfl,h,-⟩:=h;exact h
section
variable {prog:Nat→Option AE} {α:Type} {R:α→V→Prop}
noncomputable local instance:DecidableEq α:=fun a b=>Classical.propDecidable (a=b)
end
end Go.Vm
namespace Go.Vm
def wS(s:Str):Prop:=s.length≤Lm
structure Cl where
 head:Tm
 body:Tm
 file:Str
noncomputable instance:DecidableEq Cl:=fun a b=>Classical.propDecidable (a=b)
def bCl(x:Cl) (v:V):Prop:= ∃ τ0 vs0 τ1 vs1,v= .a [I x.head.kind,S x.head.name,I x.head.num,.i τ0 vs0,I x.body.kind,S x.body.name,I x.body.num,.i τ1 vs1,S x.file]∧RL BT x.head.kids vs0∧RL BT x.body.kids vs1
def oCl(x:Cl):V:= .a [I x.head.kind,S x.head.name,I x.head.num,.o 4 (x.head.kids.map oT),I x.body.kind,S x.body.name,I x.body.num,.o 4 (x.body.kids.map oT),S x.file]
def iCl(τ:Bool) (x:Cl):V:= .a [I x.head.kind,S x.head.name,I x.head.num,.i τ (x.head.kids.map (iT τ)),I x.body.kind,S x.body.name,I x.body.num,.i τ (x.body.kids.map (iT τ)),S x.file]
def wCl(x:Cl):Prop:=wTm x.head∧wTm x.body∧wS x.file
theorem yY(τ:Bool) (x:Cl):bCl x (iCl τ x):=⟨τ,_,τ,_,rfl,jG τ _,jG τ _⟩
theorem qlX(τ:Bool) (x:Cl):zb τ (oCl x)=iCl τ x:=by simp only [oCl,iCl,go_sem]
theorem qnI(x:Cl):zd (oCl x)=true:=by simp only [oCl,go_sem]
theorem qnF(x:Cl):zd (iCl false x)=true:=by simp only [iCl,go_sem]
@[go_sem] theorem qV6(τ:Bool) (x:Cl):zk (iCl τ x)=true:=rfl
@[go_sem] theorem qMl(m:Nat) (T:Mem) (τ:Bool) (x:Cl):qz (m+2) T (iCl τ x)=(iCl τ x,T):=rfl
@[go_sem] theorem qrS(τ τ':Bool) (x:Cl):zb τ (iCl τ' x)=iCl τ' x:=rfl
@[go_sem] theorem qPP(d:Nat) (τ:Bool) (x:Cl):qN d (iCl τ x)=iCl τ x:=rfl
@[go_sem] theorem qM7(τ:Bool) (x:Cl):xd (iCl τ x)=[]:=rfl
@[go_sem] theorem qPk(τ:Bool) (x:Cl):(iCl τ x).isA=true:=rfl
@[go_sem] theorem qQf(τ:Bool) (x:Cl):zh true 9 (iCl τ x) 0=some (iCl τ x):=rfl
@[go_sem] theorem qLo(τ:Bool) (x:Cl):(iCl τ x).cells=[I x.head.kind,S x.head.name,I x.head.num,.i τ (x.head.kids.map (iT τ)),I x.body.kind,S x.body.name,I x.body.num,.i τ (x.body.kids.map (iT τ)),S x.file]:=rfl
@[go_sem] theorem qfB(x:Cl):clE (oCl x)=true:=rfl
@[go_sem] theorem qrC(τ:Bool) (x:Cl):clE (iCl τ x)=true:=rfl
attribute [go_sem] qlX qnI qnF
@[go_sem] theorem qMx(τ:Bool) (l:List Cl):qT τ (l.map oCl)=l.map (iCl τ):=jK (qlX τ) l
@[go_sem] theorem qRO(l:List Cl):qH (l.map oCl)=true:=x7 qnI l
@[go_sem] theorem yM(l:List Cl):qH (l.map (iCl false))=true:=x7 qnF l
@[go_sem] theorem qh9(l:List Cl):qC (l.map oCl)=true:=jr qfB l
@[go_sem] theorem qQs(m:Nat) (T:Mem) (l:List Cl):qy (zf m) T (l.map oCl)=(l.map oCl,T):=ku m T _ (qh9 l)
@[go_sem] theorem qUm(k:Key) (ob:Ob) (l:List Cl):zG k ob (l.map oCl)=none:=jZ k ob _ (qh9 l)
@[go_sem] theorem qPA(d:Nat) (l:List Cl):qB d (l.map oCl)=l.map oCl:=ZQ qfB d l
structure Db where
 clauses:List Cl
 opn:List Str
noncomputable instance:DecidableEq Db:=fun a b=>Classical.propDecidable (a=b)
def bDb(x:Db) (v:V):Prop:= ∃ τ0 vs0 τ1,v= .a [.i τ0 vs0,.i τ1 (x.opn.map S)]∧RL bCl x.clauses vs0
def oDb(x:Db):V:= .a [.o 9 (x.clauses.map oCl),.o 1 (x.opn.map S)]
def iDb(τ:Bool) (x:Db):V:= .a [.i τ (x.clauses.map (iCl τ)),.i τ (x.opn.map S)]
def wDb(x:Db):Prop:=(x.clauses.length≤Lm∧ ∀ y ∈ x.clauses,wCl y)∧(x.opn.length≤Lm∧ ∀ y ∈ x.opn,wS y)
theorem xF(τ:Bool) (x:Db):bDb x (iDb τ x):=⟨τ,_,τ,rfl,xR (yY τ) _⟩
theorem qlY(τ:Bool) (x:Db):zb τ (oDb x)=iDb τ x:=by simp only [oDb,iDb,go_sem]
theorem qnJ(x:Db):zd (oDb x)=true:=by simp only [oDb,go_sem]
theorem qi3(x:Db):zd (iDb false x)=true:=by simp only [iDb,go_sem]
@[go_sem] theorem qV7(τ:Bool) (x:Db):zk (iDb τ x)=true:=rfl
@[go_sem] theorem qMm(m:Nat) (T:Mem) (τ:Bool) (x:Db):qz (m+2) T (iDb τ x)=(iDb τ x,T):=rfl
@[go_sem] theorem qMH(τ τ':Bool) (x:Db):zb τ (iDb τ' x)=iDb τ' x:=rfl
@[go_sem] theorem qPQ(d:Nat) (τ:Bool) (x:Db):qN d (iDb τ x)=iDb τ x:=rfl
@[go_sem] theorem qM8(τ:Bool) (x:Db):xd (iDb τ x)=[]:=rfl
@[go_sem] theorem qPl(τ:Bool) (x:Db):(iDb τ x).isA=true:=rfl
@[go_sem] theorem qQg(τ:Bool) (x:Db):zh true 2 (iDb τ x) 0=some (iDb τ x):=rfl
@[go_sem] theorem qLp(τ:Bool) (x:Db):(iDb τ x).cells=[.i τ (x.clauses.map (iCl τ)),.i τ (x.opn.map S)]:=rfl
@[go_sem] theorem qlH(x:Db):clE (oDb x)=true:=rfl
@[go_sem] theorem qLC(τ:Bool) (x:Db):clE (iDb τ x)=true:=rfl
attribute [go_sem] qlY qnJ qi3
@[go_sem] theorem qMy(τ:Bool) (l:List Db):qT τ (l.map oDb)=l.map (iDb τ):=jK (qlY τ) l
@[go_sem] theorem qRP(l:List Db):qH (l.map oDb)=true:=x7 qnJ l
@[go_sem] theorem qRT(l:List Db):qH (l.map (iDb false))=true:=x7 qi3 l
@[go_sem] theorem qlN(l:List Db):qC (l.map oDb)=true:=jr qlH l
@[go_sem] theorem qQt(m:Nat) (T:Mem) (l:List Db):qy (zf m) T (l.map oDb)=(l.map oDb,T):=ku m T _ (qlN l)
@[go_sem] theorem qUn(k:Key) (ob:Ob) (l:List Db):zG k ob (l.map oDb)=none:=jZ k ob _ (qlN l)
@[go_sem] theorem qPB(d:Nat) (l:List Db):qB d (l.map oDb)=l.map oDb:=ZQ qlH d l
structure Fl where
 name:Str
 text:Str
noncomputable instance:DecidableEq Fl:=fun a b=>Classical.propDecidable (a=b)
def bFl(x:Fl) (v:V):Prop:=v= .a [S x.name,S x.text]
def oFl(x:Fl):V:= .a [S x.name,S x.text]
def iFl(τ:Bool) (x:Fl):V:= .a [S x.name,S x.text]
def wFl(x:Fl):Prop:=wS x.name∧wS x.text
theorem qlZ(τ:Bool) (x:Fl):zb τ (oFl x)=iFl τ x:=by simp only [oFl,iFl,go_sem]
theorem qnK(x:Fl):zd (oFl x)=true:=by simp only [oFl,go_sem]
theorem qnG(x:Fl):zd (iFl false x)=true:=by simp only [iFl,go_sem]
@[go_sem] theorem qV8(τ:Bool) (x:Fl):zk (iFl τ x)=true:=rfl
@[go_sem] theorem qMn(m:Nat) (T:Mem) (τ:Bool) (x:Fl):qz (m+2) T (iFl τ x)=(iFl τ x,T):=rfl
@[go_sem] theorem qMI(τ τ':Bool) (x:Fl):zb τ (iFl τ' x)=iFl τ' x:=rfl
@[go_sem] theorem qPR(d:Nat) (τ:Bool) (x:Fl):qN d (iFl τ x)=iFl τ x:=rfl
@[go_sem] theorem qM9(τ:Bool) (x:Fl):xd (iFl τ x)=[]:=rfl
@[go_sem] theorem qPm(τ:Bool) (x:Fl):(iFl τ x).isA=true:=rfl
@[go_sem] theorem qQh(τ:Bool) (x:Fl):zh true 2 (iFl τ x) 0=some (iFl τ x):=rfl
@[go_sem] theorem qLq(τ:Bool) (x:Fl):(iFl τ x).cells=[S x.name,S x.text]:=rfl
@[go_sem] theorem qlI(x:Fl):clE (oFl x)=true:=rfl
@[go_sem] theorem qLD(τ:Bool) (x:Fl):clE (iFl τ x)=true:=rfl
attribute [go_sem] qlZ qnK qnG
@[go_sem] theorem qMz(τ:Bool) (l:List Fl):qT τ (l.map oFl)=l.map (iFl τ):=jK (qlZ τ) l
@[go_sem] theorem qRQ(l:List Fl):qH (l.map oFl)=true:=x7 qnK l
@[go_sem] theorem qRU(l:List Fl):qH (l.map (iFl false))=true:=x7 qnG l
@[go_sem] theorem qlO(l:List Fl):qC (l.map oFl)=true:=jr qlI l
@[go_sem] theorem qQu(m:Nat) (T:Mem) (l:List Fl):qy (zf m) T (l.map oFl)=(l.map oFl,T):=ku m T _ (qlO l)
@[go_sem] theorem qUo(k:Key) (ob:Ob) (l:List Fl):zG k ob (l.map oFl)=none:=jZ k ob _ (qlO l)
@[go_sem] theorem qPC(d:Nat) (l:List Fl):qB d (l.map oFl)=l.map oFl:=ZQ qlI d l
structure Se where
 files:List Fl
 db:Db
 lines:List Str
 out:Str
noncomputable instance:DecidableEq Se:=fun a b=>Classical.propDecidable (a=b)
def bSe(x:Se) (v:V):Prop:= ∃ τ0 vs0 τ1 vs1 τ2 τ3,v= .a [.i τ0 vs0,.i τ1 vs1,.i τ2 (x.db.opn.map S),.i τ3 (x.lines.map S),S x.out]∧RL bFl x.files vs0∧RL bCl x.db.clauses vs1
def oSe(x:Se):V:= .a [.o 2 (x.files.map oFl),.o 9 (x.db.clauses.map oCl),.o 1 (x.db.opn.map S),.o 1 (x.lines.map S),S x.out]
def iSe(τ:Bool) (x:Se):V:= .a [.i τ (x.files.map (iFl τ)),.i τ (x.db.clauses.map (iCl τ)),.i τ (x.db.opn.map S),.i τ (x.lines.map S),S x.out]
def wSe(x:Se):Prop:=(x.files.length≤Lm∧ ∀ y ∈ x.files,wFl y)∧wDb x.db∧(x.lines.length≤Lm∧ ∀ y ∈ x.lines,wS y)∧wS x.out
theorem ql0(τ:Bool) (x:Se):zb τ (oSe x)=iSe τ x:=by simp only [oSe,iSe,go_sem]
theorem qnL(x:Se):zd (oSe x)=true:=by simp only [oSe,go_sem]
theorem qnH(x:Se):zd (iSe false x)=true:=by simp only [iSe,go_sem]
@[go_sem] theorem qV9(τ:Bool) (x:Se):zk (iSe τ x)=true:=rfl
@[go_sem] theorem qMo(m:Nat) (T:Mem) (τ:Bool) (x:Se):qz (m+2) T (iSe τ x)=(iSe τ x,T):=rfl
@[go_sem] theorem qMJ(τ τ':Bool) (x:Se):zb τ (iSe τ' x)=iSe τ' x:=rfl
@[go_sem] theorem qPS(d:Nat) (τ:Bool) (x:Se):qN d (iSe τ x)=iSe τ x:=rfl
@[go_sem] theorem qNa(τ:Bool) (x:Se):xd (iSe τ x)=[]:=rfl
@[go_sem] theorem qPn(τ:Bool) (x:Se):(iSe τ x).isA=true:=rfl
@[go_sem] theorem qQi(τ:Bool) (x:Se):zh true 5 (iSe τ x) 0=some (iSe τ x):=rfl
@[go_sem] theorem qLr(τ:Bool) (x:Se):(iSe τ x).cells=[.i τ (x.files.map (iFl τ)),.i τ (x.db.clauses.map (iCl τ)),.i τ (x.db.opn.map S),.i τ (x.lines.map S),S x.out]:=rfl
@[go_sem] theorem qlJ(x:Se):clE (oSe x)=true:=rfl
@[go_sem] theorem qLE(τ:Bool) (x:Se):clE (iSe τ x)=true:=rfl
attribute [go_sem] ql0 qnL qnH
@[go_sem] theorem qMA(τ:Bool) (l:List Se):qT τ (l.map oSe)=l.map (iSe τ):=jK (ql0 τ) l
@[go_sem] theorem qRR(l:List Se):qH (l.map oSe)=true:=x7 qnL l
@[go_sem] theorem qRV(l:List Se):qH (l.map (iSe false))=true:=x7 qnH l
@[go_sem] theorem qlP(l:List Se):qC (l.map oSe)=true:=jr qlJ l
@[go_sem] theorem qQv(m:Nat) (T:Mem) (l:List Se):qy (zf m) T (l.map oSe)=(l.map oSe,T):=ku m T _ (qlP l)
@[go_sem] theorem qUp(k:Key) (ob:Ob) (l:List Se):zG k ob (l.map oSe)=none:=jZ k ob _ (qlP l)
@[go_sem] theorem qPD(d:Nat) (l:List Se):qB d (l.map oSe)=l.map oSe:=ZQ qlJ d l
end Go.Vm
set_option linter.unusedSectionVars false
namespace Go.Vm
open Go.RowKit (Below)
def xD(P:Program) (e:TypeId) (zs:List V):V:=
 match P.underlying e with
 |some (.struct _)=> .a zs
 |_=>zs.headD .d
mutual
def Shp(P:Program):Nat→TypeId→List V→Prop
 |0,_,_=>False
 |n+1,t,xs=>match P.underlying t with
  |some .bool=> ∃ b,xs=[B b]
  |some (.int k)=> ∃ m,xs=[.v (.int k m)]∧(Lit.int k m).wf=true
  |some .string=> ∃ l,xs=[S l]
  |some (.slice e)=> ∃ ys:List V,xs=[.i false ys]∧ ∀ y ∈ ys,∃ zs,Shp P n e zs∧y=xD P e zs
  |some (.struct fs)=> ∃ parts:List (List V),xs=parts.flatten∧qcs P n (fs.toList.map (·.type)) parts
  |_=>False
def qcs(P:Program):Nat→List TypeId→List (List V)→Prop
 |_,[],[]=>True
 |n,t::ts,p::ps=>Shp P n t p∧qcs P n ts ps
 |_,_,_=>False
end
mutual
def ko:V→Nat
 | .v (.string s)=>s.size+1
 | .i _ xs=>zp xs+1
 | .o _ xs=>zp xs+1
 | .a xs=>zp xs
 |_=>1
def zp:List V→Nat
 |[]=>0
 |x::xs=>ko x+zp xs
end
theorem qlA: ∀ (xs ys:List V),zp (xs++ys)=zp xs+zp ys
 |[],ys=>by simp [zp]
 |x::xs,ys=>by simp [zp,qlA xs ys,Nat.add_assoc]
mutual
def yD {H:Type}:DataW H→Nat
 | .lit (.string bytes)=>bytes.length+1
 | .lit _=>1
 | .nil=>1
 | .ptr d=>yD d+1
 | .slice elems spare=>jp elems+jp spare+1
 | .agg parts=>jp parts+1
 |_=>1
def jp {H:Type}:List (DataW H)→Nat
 |[]=>0
 |d::r=>yD d+jp r
end
def qfZ(P:Program):Nat→List Field→Bool
 |_,[]=>true
 |n,f::fs=>decide (f.offset=n)&&qfZ P (n+P.cellsOf f.type) fs
def qcJ(P:Program):List Field→Nat
 |[]=>0
 |f::fs=>P.cellsOf f.type+qcJ P fs
def XV(P:Program) (S:List TypeId) (t:TypeId):Bool:=
 match P.underlying t with
 |some .bool|some (.int _)|some .string=>decide (P.cellsOf t=1)
 |some (.slice e)=>decide (P.cellsOf t=1)&&S.contains e&&decide (0 < P.cellsOf e)
 |some (.struct fs)=>qfZ P 0 fs.toList&&decide (qcJ P fs.toList=P.cellsOf t)&&fs.toList.all fun f=>S.contains f.type
 |_=>false
def kQ(w:World):Env:={w,I:=fun _ b=>b < w.heap.size,μ:=fun _=>none}
def yQ(P:Program) (t:TypeId):Bool:=match P.underlying t with|some (.struct _)=>true|_=>false
def YS(P:Program) (t:TypeId) (cs:List Value):Value:=
 match P.underlying t with
 |some (.struct _)=> .agg cs.toArray
 |_=>cs.headD undef
section
variable {H:Type} {enc:TypeId × Value→H} {P:Program} {w:World} {St:List TypeId}
theorem qlG {a:Addr} {n:Nat} {cs:List Value} (h:w.cells? 0 a n=some cs) (hn:0 < n):
 a.spot=none∧ ∃ cells T fz,w.heap[a.block]? =some (.cells cells T fz)∧cs=seg cells a.off n∧a.off+n≤cells.size∧a.block < w.heap.size:=by
 unfold World.cells? at h
 rw [if_pos (Nat.zero_le _)]at h
 have hl:cs.length=n:=by simpa using mapM_some_length h
 have hg: ∀ i,i < n→w.cell? (a.add i)=cs[i]? :=fun i hi=>mapM_some_get h i i (by simp [hi])
 have h0:=hg 0 hn
 have hc0:cs[0]? =some cs[0]:=List.getElem?_eq_getElem (by omega)
 rw [hc0]at h0
 simp only [Addr.add,if_true,World.cell?]at h0
 split at h0
 case h_2=>cases h0
 rename_i cells T fz hw
 split at h0
 ·cases h0
 rename_i hsp
 have hsp':a.spot=none:=by simpa using hsp
 refine ⟨hsp',cells,T,fz,hw, ?_, ?_,(Array.getElem?_eq_some_iff.1 hw).1⟩
 ·apply List.ext_getElem?
  intro i
  by_cases hi:i < n
  ·have:=hg i hi
   rw [← this]
   have e1:(a.add i).block=a.block∧(a.add i).off=a.off+i∧(a.add i).spot=none:=by
    unfold Addr.add
    split
    ·subst i;exact ⟨rfl,rfl,hsp'⟩
    ·exact ⟨rfl,rfl,rfl⟩
   simp only [World.cell?,e1.1,hw,e1.2.1,e1.2.2]
   simp only [seg,List.getElem?_take,hi,if_true,List.getElem?_drop,Array.getElem?_toList]
   simp
  ·rw [List.getElem?_eq_none (by omega)]
   simp [seg,List.getElem?_take,hi]
 ·have h1:=hg (n - 1) (by omega)
  have e1:(a.add (n - 1)).block=a.block∧(a.add (n - 1)).off=a.off+(n - 1)∧(a.add (n - 1)).spot=none:=by
   unfold Addr.add
   split
   ·rename_i h;rw [h];exact ⟨rfl,rfl,hsp'⟩
   ·exact ⟨rfl,rfl,rfl⟩
  simp only [World.cell?,e1.1,hw,e1.2.1,e1.2.2]at h1
  have hcn:cs[n - 1]? =some cs[n - 1]:=List.getElem?_eq_getElem (by omega)
  rw [hcn]at h1
  have:a.off+(n - 1) < cells.size:=by
   simp only [Option.isSome_none,Bool.false_eq_true,if_false]at h1
   exact (Array.getElem?_eq_some_iff.1 h1).1
  omega
theorem qsk:(kQ w).cl=kQ w:=rfl
theorem qoT {t:TypeId} {xs:List V} {cs:List Value} (h:qk (kQ w) xs cs c0) (hst:yQ P t=true∨(xs.length=1∧yy cs)):
 Rel (kQ w) (xD P t xs) (YS P t cs) c0∧(yy cs→(xD P t xs).cells.length=xs.length∨(xD P t xs).isA=true):=by
 unfold xD YS
 unfold yQ at hst
 split at hst
 ·rename_i fs hu
  refine ⟨?_,fun _=> .inr ?_⟩
  ·simp only [Rel];exact ⟨cs.toArray,rfl,by simpa using h⟩
  ·rfl
 ·rename_i hns
  rcases hst with hst|⟨hst,hon⟩
  ·cases hst
  match xs,hst with
  |[x],_=>
   obtain ⟨y,rfl,hr⟩:=qc6 h
   refine ⟨by simpa using hr,fun _=> ?_⟩
   by_cases hx:(V.isA x)=true
   ·exact .inr (by simpa using hx)
   ·left
    cases x<;>first|rfl|exact absurd rfl hx
def Rd(P:Program) (w:World) (H:Type) (enc:TypeId × Value→H) (n:Nat) (t:TypeId) (cs:List Value) (d:DataW H):Prop:=
 ∃ xs,qk (kQ w) xs cs c0∧Shp P n t xs∧zp xs≤yD d∧cs.length=P.cellsOf t∧yy cs∧(yQ P t=false→ ∃ x,xs=[x]∧x.isA=false)
theorem qxE(s:ByteArray):yy [Value.string s]:=by intro z hz;simp at hz;subst hz;rfl
theorem qq3(s:ByteArray):V.v (.string s)=S s.data.toList:=by simp [S]
theorem qmc {n:Nat} (IH: ∀ t cs d ps,t ∈ St→DataW.trod enc P w 0 (fun _=>true) true n t cs=some (d,ps)→Rd P w H enc n t cs d) (cs:List Value):
 ∀ (fs:List Field) (off:Nat) (xs:List (DataW H × List MemPlace)),qfZ P off fs=true→off+qcJ P fs=cs.length→(fs.all fun f=>St.contains f.type)=true→
  xs.length=fs.length→(∀ (i:Nat) (f:Field),fs[i]? =some f→DataW.trod enc P w 0 (fun _=>true) true n f.type ((cs.drop f.offset).take (P.cellsOf f.type))=xs[i]?)→
  ∃ parts,qk (kQ w) parts.flatten (cs.drop off) c0∧qcs P n (fs.map (·.type)) parts∧zp parts.flatten≤jp (xs.map (·.1))∧yy (cs.drop off)
 |[],off,xs,_,hs,_,hl,_=>by
  have:xs=[]:=by simpa using hl
  subst this
  have hd:cs.drop off=[]:=List.drop_eq_nil_of_le (by simp only [qcJ]at hs;omega)
  rw [hd]
  exact ⟨[],by simp [qk],by simp [qcs],by simp [zp],by intro z hz;cases hz⟩
 |f::fs,off,[],_,_,_,hl,_=>by simp at hl
 |f::fs,off,x::xs,ho,hs,ha,hl,hg=>by
  simp only [qfZ,Bool.and_eq_true,decide_eq_true_eq]at ho
  simp only [List.all_cons,Bool.and_eq_true]at ha
  simp only [qcJ]at hs
  have h0:=hg 0 f rfl
  rw [ho.1]at h0
  simp only [List.getElem?_cons_zero]at h0
  obtain ⟨ys,hr,hsh,hb,hlen,hon,-⟩:=IH f.type _ x.1 x.2 (by simpa using ha.1) h0
  obtain ⟨parts,hr',hsh',hb',hon'⟩:=qmc IH cs fs (off+P.cellsOf f.type) xs ho.2 (by omega) ha.2 (by simpa using hl) (fun i f' hf'=>by simpa using hg (i+1) f' (by simpa using hf'))
  have hsplit:cs.drop off=(cs.drop off).take (P.cellsOf f.type)++cs.drop (off+P.cellsOf f.type):=by
   rw [← List.drop_drop,List.take_append_drop]
  refine ⟨ys::parts, ?_, ?_, ?_, ?_⟩
  ·rw [hsplit,List.flatten_cons]
   have:=jV hr hr'
   rwa [XE]at this
  ·simp only [List.map_cons,qcs];exact ⟨hsh,hsh'⟩
  ·simp only [List.flatten_cons,qlA,List.map_cons,jp];omega
  ·rw [hsplit]
   intro z hz
   rcases List.mem_append.1 hz with h|h
   ·exact hon z h
   ·exact hon' z h
theorem ql8 {n e:Nat} (he:e ∈ St) (hpos:0 < P.cellsOf e) (IH: ∀ t cs d ps,t ∈ St→DataW.trod enc P w 0 (fun _=>true) true n t cs=some (d,ps)→Rd P w H enc n t cs d)
 (a:Addr) (cells:Array Value):
 ∀ (elems:List (DataW H × List MemPlace)) (off:Nat),(∀ i,i < elems.length→((w.cells? 0 ⟨a.block,a.off+(off+i)*P.cellsOf e,none⟩ (P.cellsOf e)).bind (DataW.trod enc P w 0 (fun _=>true) true n e))=elems[i]?)→
  (∃ T fz,w.heap[a.block]? =some (.cells cells T fz))→
  ∃ ys,ys.length=elems.length∧qn (kQ w) (P.cellsOf e) ys (seg cells (a.off+off*P.cellsOf e) (elems.length*P.cellsOf e)) c0∧(∀ y ∈ ys,∃ zs,Shp P n e zs∧y=xD P e zs)∧zp ys≤jp (elems.map (·.1))
 |[],off,_,_=>⟨[],rfl,by simp [qn,seg],by simp,by simp [zp]⟩
 |x::elems,off,hg,hw=>by
  have h0:=hg 0 (by simp)
  simp only [Nat.add_zero,List.getElem?_cons_zero,Option.bind_eq_some_iff]at h0
  obtain ⟨cs,hcs,hx⟩:=h0
  obtain ⟨xs,hr,hsh,hb,hlen,hon,hns⟩:=IH e cs x.1 x.2 he hx
  obtain ⟨ys,hyl,hyr,hys,hyb⟩:=ql8 he hpos IH a cells elems (off+1) (fun i hi=>by
   have:=hg (i+1) (by simp;omega)
   rw [show off+1+i=off+(i+1)by omega];simpa using this) hw
  obtain ⟨T,fz,hw'⟩:=hw
  obtain ⟨-,cells',T',fz',hw'',hseg,hle,-⟩:=qlG hcs hpos
  simp only [hw']at hw''
  obtain ⟨rfl,rfl,rfl⟩:cells=cells'∧T=T'∧fz=fz':=by simpa using hw''
  have hst:yQ P e=true∨(xs.length=1∧yy cs):=by
   cases hi:yQ P e
   ·obtain ⟨x',hx',-⟩:=hns hi;exact .inr ⟨by simp [hx'],hon⟩
   ·exact .inl rfl
  have hrel:=(qoT (P:=P) (t:=e) hr hst).1
  have hlx:=xM hr
  have hval:(YS P e cs).cells.toList=cs∧(xD P e xs).cells.length=P.cellsOf e∧ko (xD P e xs)≤zp xs:=by
   unfold YS xD
   cases hi:yQ P e
   ·obtain ⟨x',rfl,hxa⟩:=hns hi
    obtain ⟨y,rfl,hr1⟩:=qc6 hr
    have hy:y.oneCell=true:=hon y (by simp)
    unfold yQ at hi
    split at hi
    ·cases hi
    ·rename_i hq
     refine ⟨?_, ?_, ?_⟩
     ·simp only [List.headD_cons];cases y<;>first|rfl|(simp [Value.oneCell]at hy)
     ·simp only [List.headD_cons];rw [← hlen,List.length_singleton];cases x'<;>first|rfl|(simp [V.isA]at hxa)
     ·simp [zp]
   ·unfold yQ at hi
    split at hi
    ·refine ⟨by simp [Value.cells], ?_, ?_⟩
     ·simp only [V.cells];omega
     ·simp [ko]
    ·cases hi
  refine ⟨xD P e xs::ys,by simp [hyl], ?_, ?_, ?_⟩
  ·simp only [qn]
   refine ⟨YS P e cs,seg cells (a.off+(off+1)*P.cellsOf e) (elems.length*P.cellsOf e),c0,c0, ?_, ?_,hval.2.1, ?_,hrel,hyr,rfl⟩
   ·rw [hval.1,hseg]
    simp only [seg,List.length_cons]
    have e1:(elems.length+1)*P.cellsOf e=P.cellsOf e+elems.length*P.cellsOf e:=by rw [Nat.add_mul];omega
    have e2:a.off+(off+1)*P.cellsOf e=a.off+off*P.cellsOf e+P.cellsOf e:=by rw [Nat.add_mul];omega
    rw [e1,List.take_add,e2,List.drop_drop]
   ·have hq:(YS P e cs).cells.size=cs.length:=by rw [← Array.length_toList,hval.1]
    rw [hq,hlen]
   ·rw [hval.1];exact hon
  ·intro y hy
   rcases List.mem_cons.1 hy with rfl|hy
   ·exact ⟨xs,hsh,rfl⟩
   ·exact hys y hy
  ·simp only [zp,List.map_cons,jp];have:=hval.2.2;omega
theorem qp0(hS: ∀ t ∈ St,XV P St t=true): ∀ (n:Nat) (t:TypeId) (cs:List Value) (d:DataW H) (ps:List MemPlace),t ∈ St→
 DataW.trod enc P w 0 (fun _=>true) true n t cs=some (d,ps)→Rd P w H enc n t cs d
 |0,t,cs,d,ps,_,h=>by simp [DataW.trod]at h
 |n+1,t,cs,d,ps,ht,h=>by
  have IH:=qp0 hS n
  have hok:=hS t ht
  unfold XV at hok
  split at hok
  ·rename_i hu
   obtain ⟨b,rfl,hx⟩:=DataW.trod_bool hu h
   refine ⟨[B b], ?_, ?_, ?_, ?_, ?_,fun _=>⟨_,rfl,rfl⟩⟩
   ·exact yU (by simp [B,Rel,yP])
   ·simp only [Shp,hu];exact ⟨b,rfl⟩
   ·simp only [Prod.mk.injEq]at hx;rw [hx.1];simp [zp,ko,B,yD]
   ·simpa using (of_decide_eq_true hok).symm
   ·intro z hz;simp at hz;subst hz;rfl
  ·rename_i k hu
   obtain ⟨m,rfl,hx,hwf⟩:=DataW.trod_int hu h
   refine ⟨[.v (.int k m)], ?_, ?_, ?_, ?_, ?_,fun _=>⟨_,rfl,rfl⟩⟩
   ·exact yU (by simp [Rel,yP])
   ·simp only [Shp,hu];exact ⟨m,rfl,hwf⟩
   ·simp only [Prod.mk.injEq]at hx;rw [hx.1];simp [zp,ko,yD]
   ·simpa using (of_decide_eq_true hok).symm
   ·intro z hz;simp at hz;subst hz;rfl
  ·rename_i hu
   obtain ⟨s,rfl,hx,-⟩:=DataW.trod_string hu h
   refine ⟨[.v (.string s)], ?_, ?_, ?_, ?_, ?_,fun _=>⟨_,rfl,rfl⟩⟩
   ·exact yU (by simp [Rel,yP])
   ·simp only [Shp,hu];exact ⟨s.data.toList,by rw [qq3]⟩
   ·simp only [Prod.mk.injEq]at hx;rw [hx.1];show s.data.size+1+0≤s.data.toList.length+1;simp
   ·simpa using (of_decide_eq_true hok).symm
   ·exact qxE s
  ·rename_i e hu
   simp only [Bool.and_eq_true,decide_eq_true_eq,List.contains_iff_mem]at hok
   obtain ⟨⟨hc1,heS⟩,hpos⟩:=hok
   rcases DataW.trod_slice hu h with ⟨rfl,hx⟩|⟨a,len,cap,elems,rest,m,hm,rfl,hx,-,hle,-,hel,hg,-,-⟩
   ·refine ⟨[.i false []], ?_, ?_, ?_, ?_, ?_,fun _=>⟨_,rfl,rfl⟩⟩
    ·exact yU (by simp only [Rel];exact ⟨by trivial,none,0,rfl,Nat.le_refl _,.inl trivial⟩)
    ·simp only [Shp,hu];exact ⟨[],rfl,by simp⟩
    ·simp only [Prod.mk.injEq]at hx;rw [hx.1];simp [zp,ko,yD]
    ·simpa using hc1.symm
    ·intro z hz;simp at hz;subst hz;rfl
   ·have hmn:m=n:=by omega
    subst hmn
    by_cases hz:len=0
    ·subst hz
     refine ⟨[.i false []], ?_, ?_, ?_, ?_, ?_,fun _=>⟨_,rfl,rfl⟩⟩
     ·exact yU (by simp only [Rel];exact ⟨by trivial,some a,cap,rfl,Nat.zero_le _,.inl trivial⟩)
     ·simp only [Shp,hu];exact ⟨[],rfl,by simp⟩
     ·simp only [Prod.mk.injEq]at hx;rw [hx.1];simp [zp,ko,yD]
     ·simpa using hc1.symm
     ·intro z hz;simp at hz;subst hz;rfl
    ·have h0:=hg 0 (by omega)
     have he0:elems[0]? =some elems[0]:=List.getElem?_eq_getElem (by omega)
     rw [he0,Option.bind_eq_some_iff]at h0
     obtain ⟨cs0,hcs0,-⟩:=h0
     have ha0:a.add (0*P.cellsOf e)=a:=by simp [Addr.add]
     rw [ha0]at hcs0
     obtain ⟨hsp,cells,T,fz,hw,-,-,hlt⟩:=qlG hcs0 hpos
     have ha:a=⟨a.block,a.off,none⟩:=by obtain ⟨b,o,s⟩:=a;simp only at hsp;subst hsp;rfl
     obtain ⟨ys,hyl,hyr,hys,hyb⟩:=ql8 heS hpos IH a cells elems 0 (fun i hi=>by
      have:=hg i (by omega)
      rw [← this]
      congr 2
      rw [Nat.zero_add]
      unfold Addr.add
      split
      ·rename_i hq;rw [hq,Nat.add_zero];exact ha.symm
      ·rfl) ⟨T,fz,hw⟩
     simp only [Nat.zero_mul,Nat.add_zero]at hyr
     refine ⟨[.i false ys], ?_, ?_, ?_, ?_, ?_,fun _=>⟨_,rfl,rfl⟩⟩
     ·refine yU ?_
      simp only [Rel]
      refine ⟨by trivial,some a,cap,by rw [hyl,hel],by omega,.inr ⟨a.block,a.off,P.cellsOf e,cells,T,fz,by rw [← ha],hlt,hw, ?_⟩⟩
      rw [hyl];exact hyr
     ·simp only [Shp,hu];exact ⟨ys,rfl,hys⟩
     ·simp only [Prod.mk.injEq]at hx;rw [hx.1];simp only [zp,ko,yD];omega
     ·simpa using hc1.symm
     ·intro z hz;simp at hz;subst hz;rfl
  ·rename_i fs hu
   simp only [Bool.and_eq_true,decide_eq_true_eq]at hok
   obtain ⟨xs,m,hm,hx,hlen,hxl,hg⟩:=DataW.trod_struct hu h
   have hmn:m=n:=by omega
   subst hmn
   obtain ⟨parts,h1,h2,h3,h4⟩:=qmc IH cs fs.toList 0 xs hok.1.1 (by rw [hlen, ← hok.1.2];omega) hok.2 (by simpa using hxl) (fun i f hf=>hg i f (by simpa using hf))
   refine ⟨parts.flatten,by simpa using h1, ?_, ?_,hlen,by simpa using h4,fun hi=> ?_⟩
   ·simp only [Shp,hu];exact ⟨parts,rfl,h2⟩
   ·simp only [Prod.mk.injEq]at hx;rw [hx.1];simp only [yD];omega
   ·unfold yQ at hi;rw [hu]at hi;cases hi
  ·cases hok
theorem qzZ {f:Func} {s:ChangeSpec} {apart kR handsOn:Bool} {W W':World} {args:Array Value} {v:Value} {ds gs:List (DataW H)} {before pa pv:List MemPlace}
 (hW:DataW.Whole enc P f.params.toList s.vars apart W args.toList ds gs before)
 (hres: ∀ (b:Nat) (sp:Nat→Bool) (hd:Bool),DataW.TrodAll enc P W' b sp hd f.resultTypes.toList (v.resultList f.resultTypes.size) (s.fn H (ds++gs)).results [])
 (hargs: ∀ sp:Nat→Bool,(∀ p ∈ before,sp p.block=true)→DataW.TrodAll enc P W' 0 sp true f.params.toList args.toList (s.fn H (ds++gs)).args pa)
 (hvars: ∀ sp:Nat→Bool,(∀ p ∈ before,sp p.block=true)→DataW.TrodVars enc P W' sp s.vars (s.fn H (ds++gs)).vars pv)
 (hps:before=pa++pv) (hk:W.keptBut W' (· ∈ before)):
 s.post enc P f apart kR handsOn false W args v W':=by
 have zQ: ∀ p ∈ before,(fun b=>decide (b < W.heap.size)) p.block=true:=fun p hp=>by simpa using hW.lt p hp
 refine ⟨ds,gs,before,[],pa,pv,hW,hres _ _ _,hargs _ zQ,hvars _ zQ,World.keptBut_mono (fun p hp=>⟨hp, ?_⟩) hk,fun h=>by cases h⟩
 rw [hps,List.mem_append]at hp
 exact Or.inr hp
theorem qro {W W':World} (h:Below W.heap.size W W') (may:MemPlace→Prop):W.keptBut W' may:=by
 refine ⟨h.os,h.output,fun i hi=> ?_⟩
 rw [h.block i hi]
 have hx:W.heap[i]? =some W.heap[i]:=Array.getElem?_eq_getElem hi
 rw [hx]
 cases W.heap[i]with
 |cells c t fr=>exact ⟨rfl,rfl,rfl,fun _ _=>rfl⟩
 |map es clock=>exact .inr ⟨rfl,rfl⟩
 |_=>first|rfl|trivial
theorem qpZ(hl:laidOutB P=true) {W W':World} (hb:Below W.heap.size W W'): ∀ {ts:List TypeId} {vs:List Value} {ds:List (DataW H)} {ps:List MemPlace},(ts.all fun t=>P.readableRec t&&decide (t < P.types.size))=true→
 DataW.TrodAll enc P W 0 (fun _=>true) true ts vs ds ps→(∀ p ∈ ps,p.block < W.heap.size)→ ∀ sp:Nat→Bool,(∀ p ∈ ps,sp p.block=true)→DataW.TrodAll enc P W' 0 sp true ts vs ds ps
 |[],[],[],ps,_,h,_,_,_=>h
 |t::ts,v::vs,d::ds,ps,hr,h,hlt,sp,hsp=>by
  simp only [List.all_cons,Bool.and_eq_true,decide_eq_true_eq]at hr
  obtain ⟨p,q,h1,h2,rfl⟩:=h
  refine ⟨p,q, ?_, ?_,rfl⟩
  ·exact WideElems.Trod_stays hl hr.1.1 hr.1.2 h1 (fun x hx=>hb.same (hlt x (List.mem_append_left _ hx))) (fun x hx=>hsp x (List.mem_append_left _ hx))
  ·exact qpZ hl hb hr.2 h2 (fun x hx=>hlt x (List.mem_append_right _ hx)) sp (fun x hx=>hsp x (List.mem_append_right _ hx))
 |[],_::_,_,_,_,h,_,_,_=>h.elim
 |[],[],_::_,_,_,h,_,_,_=>h.elim
 |_::_,[],_,_,_,h,_,_,_=>h.elim
 |_::_,_::_,[],_,_,h,_,_,_=>h.elim
section
variable [Lay]
def qfq(w:World):Prop:=(∀ b,Lay.B b→b < w.heap.size)∧Lay.L w
theorem qsw(w:World) (h:qfq w):Good (kQ w) c0:=⟨fun _=>Nat.zero_le _,fun _ _ h=>⟨rfl,h⟩,fun _ h=>h,fun _ h=>absurd rfl h,⟨fun b hb=>h.1 b hb,h.2⟩⟩
theorem qw2 {prog:Nat→Option AE} (hK:QP P prog) {f:FuncId} {xs:List V} {vs:List Value} {outs:List V} {fn:Func} (hfn:P.funcs[f]? =some fn) (hb:fn.body.isSome=true) (hn:(fn.name== "runtime.NumGoroutine")=false)
 (h:cw prog f xs=some (B true,outs)) (hr:qk (kQ w) xs vs c0) (hL:qfq w):
 Calls P f vs.toArray w fun e w'=>e= .returned (.bool true)∧Below w.heap.size w w':=by
 obtain ⟨n,hn'⟩:=JX.1 h
 have hc:=qk8 hK n f xs (B true) outs hn' (kQ w) vs c0 (by rw [qsk];exact hr) (qsw w hL)
 obtain ⟨code,hcode⟩:=Option.isSome_iff_exists.1 hb
 have hne:fn.name ≠ "runtime.NumGoroutine" :=by simpa using hn
 have hcf:(callFunc f vs.toArray).run P w= .ok (.enter f vs.toArray) w:=by
  simp [callFunc,hfn,hne,hcode]
 rw [show (kQ w).w=w from rfl,hcf]at hc
 refine hc.2.mono ?_
 rintro e w' ⟨y,rfl,E',cr,co,rfl,hy,-,-,hA⟩
 refine ⟨?_,hA.os,hA.tape,hA.output,hA.size,fun b hb=>hA.frame b hb rfl⟩
 simp only [B,Rel]at hy
 rw [hy.1]
theorem qxB {base:Nat} {t:TypeId} {v:Value} (hok:XV P St t=true) (h:Value.okWide P w .any base t v):
 (yQ P t=true→ ∃ cs,v= .agg cs)∧(yQ P t=false→v.cells.toList=[v]):=by
 unfold XV at hok
 unfold Value.okWide at h
 unfold yQ
 cases hu:P.underlying t with
 |none=>rw [hu]at hok;cases hok
 |some u=>
  rw [hu]at hok
  simp only [hu]at h ⊢
  cases u<;>first|cases hok|skip
  all_goals first
   |(obtain ⟨cs,rfl,-⟩:=h;exact ⟨fun _=>⟨cs,rfl⟩,fun h=>(by cases h)⟩)
   |skip
  all_goals refine ⟨fun h=>(by cases h),fun _=> ?_⟩
  all_goals cases v<;>first|rfl|skip
  all_goals exfalso;unfold Cell.okWide at h;rw [hu]at h;simp only at h;unfold Cell.ok at h;rw [hu]at h;exact h
theorem qrl(hS: ∀ t ∈ St,XV P St t=true) {base:Nat} {t:TypeId} {v:Value} {d:DataW H} {ps:List MemPlace} (ht:t ∈ St) (hv:Value.okWide P w .any base t v) (h:DataW.Trod enc P w 0 (fun _=>true) true t v d ps):
 ∃ n xs,Rel (kQ w) (xD P t xs) v c0∧Shp P n t xs∧zp xs≤yD d:=by
 obtain ⟨n,h⟩:=h
 obtain ⟨xs,hr,hsh,hb,hlen,hon,hx⟩:=qp0 hS n t v.cells.toList d ps ht h
 refine ⟨n,xs, ?_,hsh,hb⟩
 have hst:yQ P t=true∨(xs.length=1∧yy v.cells.toList):=by
  cases hi:yQ P t
  ·obtain ⟨x',hx',-⟩:=hx hi;exact .inr ⟨by simp [hx'],hon⟩
  ·exact .inl rfl
 have h1:=(qoT (P:=P) (t:=t) hr hst).1
 have hl:=qxB (hS t ht) hv
 have:YS P t v.cells.toList=v:=by
  unfold YS
  unfold yQ at hl
  split
  ·rename_i fs hu
   simp only [hu]at hl
   obtain ⟨cs,rfl⟩:=hl.1 trivial
   simp [Value.cells]
  ·rename_i hq
   have h2:v.cells.toList=[v]:=hl.2 (by
    split
    ·rename_i fs hu;exact absurd hu (hq fs)
    ·rfl)
   rw [h2];rfl
 rwa [this]at h1
theorem qw3 {prog:Nat→Option AE} (hK:QP P prog) (hl:laidOutB P=true) {f:FuncId} {fn:Func} (hfn:P.funcs[f]? =some fn) (hb:fn.body.isSome=true) (hn:(fn.name== "runtime.NumGoroutine")=false)
 {tb:TypeId} (hres:fn.resultTypes= #[tb]) (htb:P.underlying tb=some .bool) (hread:(fn.params.toList.all fun t=>P.readableRec t&&decide (t < P.types.size))=true)
 {s:ChangeSpec} (hvars:s.vars=[]) {apart kR handsOn:Bool} {W:World} {args:Array Value} {ds gs:List (DataW H)} {before:List MemPlace}
 (hW:DataW.Whole enc P fn.params.toList s.vars apart W args.toList ds gs before) (hspec:gs=[]→s.fn H (ds++gs)={results:=[.lit (.bool true)],args:=ds})
 (hL:qfq W) (hH: ∃ xs outs,qk (kQ W) xs args.toList c0∧cw prog f xs=some (B true,outs)):
 Calls P f args W fun e W'=> ∃ v,e= .returned v∧s.post enc P fn apart kR handsOn false W args v W':=by
 obtain ⟨xs,outs,hr,hc⟩:=hH
 have hlt:=hW.lt
 have hW':=hW
 obtain ⟨p,q,hA,hV,rfl,hfz,hnd⟩:=hW
 rw [hvars]at hV
 obtain ⟨rfl,rfl⟩:gs=[]∧q=[]:=by
  cases gs with
  |nil=>exact ⟨rfl,hV⟩
  |cons=>exact hV.elim
 have hsp:=hspec rfl
 have hcall:=qw2 hK hfn hb hn hc hr hL
 rw [Array.toArray_toList]at hcall
 refine hcall.mono ?_
 rintro e W' ⟨rfl,hbel⟩
 refine ⟨_,rfl,qzZ (pa:=p) (pv:=[]) hW' ?_ ?_ ?_ rfl (qro hbel _)⟩
 ·intro b sp hd
  rw [hsp,hres]
  exact ChangeShapes.trodAll_mk1 (RowKit.shut_bool htb true)
 ·intro sp hsp'
  rw [hsp]
  exact qpZ hl hbel hread hA (fun x hx=>hlt x (by simpa using hx)) sp (fun x hx=>hsp' x (by simpa using hx))
 ·intro sp _
  rw [hsp,hvars]
  rfl
end
theorem qBx {n:Nat} {t e:TypeId} {xs:List V} (hu:P.underlying t=some (.slice e)) (h:Shp P n t xs): ∃ m ys,n=m+1∧xs=[.i false ys]∧ ∀ y ∈ ys,∃ zs,Shp P m e zs∧y=xD P e zs:=by
 cases n with
 |zero=>simp [Shp]at h
 |succ n=>simp only [Shp,hu]at h;obtain ⟨ys,h1,h2⟩:=h;exact ⟨n,ys,rfl,h1,h2⟩
theorem qCI {e:TypeId} {k:IntKind} {z:V} (hu:P.underlying e=some (.int k)):xD P e [z]=z:=by simp [xD,hu]
theorem qlD: ∀ {ys:List V} {y:V},y ∈ ys→ko y≤zp ys
 |x::xs,y,h=>by
  simp only [zp]
  rcases List.mem_cons.1 h with rfl|h
  ·omega
  ·have:=qlD h;omega
theorem qlC: ∀ {ys:List V},(∀ y ∈ ys,1≤ko y)→ys.length≤zp ys
 |[],_=>Nat.zero_le _
 |x::xs,h=>by
  simp only [zp,List.length_cons]
  have:=qlC (ys:=xs) fun y hy=>h y (by simp [hy])
  have:=h x (by simp)
  omega
theorem qpb {α:Type} {R:α→V→Prop} {W:α→Prop}: ∀ {ys:List V},(∀ y ∈ ys,∃ t,R t y∧W t)→ ∃ ts,RL R ts ys∧ ∀ t ∈ ts,W t
 |[],_=>⟨[],rfl,by simp⟩
 |y::ys,h=>by
  obtain ⟨t,h1,h2⟩:=h y (by simp)
  obtain ⟨ts,h3,h4⟩:=qpb (ys:=ys) fun z hz=>h z (by simp [hz])
  refine ⟨t::ts,by simp only [RL];exact ⟨y,ys,rfl,h1,h3⟩,fun u hu=> ?_⟩
  rcases List.mem_cons.1 hu with rfl|hu
  ·exact h2
  ·exact h4 u hu
structure TyTerm (P:Program) (tT tS ti ts:TypeId):Prop where
 hT: ∃ fs,P.underlying tT=some (.struct fs)∧fs.toList.map (·.type)=[ti,ts,ti,tS]
 hS:P.underlying tS=some (.slice tT)
 hi:P.underlying ti=some (.int .i64)
 hs:P.underlying ts=some .string
def RdC(P:Program) (t:TypeId) {α:Type} (Rc:α→List V→Prop) (W:α→Prop):Prop:=
 ∀ n xs,Shp P n t xs→zp xs≤Lm→1≤zp xs∧ ∃ x,Rc x xs∧W x
def cI(n:Int) (xs:List V):Prop:=xs=[I n]
def cB(b:Bool) (xs:List V):Prop:=xs=[B b]
def cS(s:Str) (xs:List V):Prop:=xs=[S s]
def cA {α:Type} (R:α→V→Prop) (x:α) (xs:List V):Prop:=R x (.a xs)
def cL {α:Type} (R:α→V→Prop) (l:List α) (xs:List V):Prop:= ∃ vs,xs=[.i false vs]∧RL R l vs
def wL {α:Type} (W:α→Prop) (l:List α):Prop:=l.length≤Lm∧ ∀ x ∈ l,W x
theorem qh5 {e:TypeId}: ∀ (zs:List V),(yQ P e=false→ ∃ z,zs=[z])→ko (xD P e zs)=zp zs:=by
 intro zs hz
 unfold xD
 unfold yQ at hz
 split
 ·simp [ko]
 ·rename_i hq
  obtain ⟨z,rfl⟩:=hz (by split;(rename_i fs hu;exact absurd hu (hq fs));rfl)
  simp [zp]
theorem qAi {α:Type} {Rc:α→List V→Prop} {R:α→V→Prop} {W:α→Prop} {tl te:TypeId} (hu:P.underlying tl=some (.slice te)) (he:RdC P te Rc W) (hw: ∀ x zs,Rc x zs→R x (xD P te zs)∧(yQ P te=false→ ∃ z,zs=[z])):
 RdC P tl (cL R) (wL W):=fun n xs h hb=>by
 obtain ⟨m,ys,rfl,rfl,hys⟩:=qBx hu h
 have e3:zp [V.i false ys]=zp ys+1:=by simp [ko,zp]
 rw [e3]at hb ⊢
 have hall: ∀ y ∈ ys,1≤ko y∧ ∃ t,R t y∧W t:=by
  intro y hy
  obtain ⟨zs,hz,rfl⟩:=hys y hy
  have hle:=qlD hy
  obtain ⟨x0,hx0⟩: ∃ x,Rc x zs∧W x∧1≤zp zs:=by
   by_cases hbz:zp zs≤Lm
   ·obtain ⟨h1,x,h2,h3⟩:=he m zs hz hbz;exact ⟨x,h2,h3,h1⟩
   ·exfalso
    apply hbz
    cases hst:yQ P te
    ·have: ∃ z,zs=[z]:=by
      unfold yQ at hst
      cases m with
      |zero=>simp [Shp]at hz
      |succ m=>
       simp only [Shp]at hz
       split at hz
       ·obtain ⟨b,rfl⟩:=hz;exact ⟨_,rfl⟩
       ·obtain ⟨b,rfl,-⟩:=hz;exact ⟨_,rfl⟩
       ·obtain ⟨b,rfl⟩:=hz;exact ⟨_,rfl⟩
       ·obtain ⟨b,rfl,-⟩:=hz;exact ⟨_,rfl⟩
       ·rename_i fs hu';rw [hu']at hst;cases hst
       ·exact hz.elim
     have:=qh5 (P:=P) (e:=te) zs (fun _=>this)
     omega
    ·have:=qh5 (P:=P) (e:=te) zs (fun h=>by rw [hst]at h;cases h)
     omega
  obtain ⟨h1,h2⟩:=hw x0 zs hx0.1
  rw [qh5 zs h2]
  exact ⟨hx0.2.2,x0,h1,hx0.2.1⟩
 obtain ⟨us,hr,hws⟩:=qpb (R:=R) (W:=W) fun y hy=>(hall y hy).2
 have hlen:=qlC fun y hy=>(hall y hy).1
 have hl:=qS hr
 exact ⟨by omega,us,⟨ys,rfl,hr⟩,by omega,hws⟩
end
end Go.Vm
namespace Go.Vm
section
variable [Lay] {P:Program} {E:Env} {c:Cnt} {w':World}
structure Adds (w w':World):Prop where
 os:w'.os=w.os
 tape:w'.tape=w.tape
 output:w'.output=w.output
 size:w.heap.size≤w'.heap.size
 old: ∀ b,b < w.heap.size→w'.heap[b]? =w.heap[b]?
theorem Adds.refl(w:World):Adds w w:=⟨rfl,rfl,rfl,Nat.le_refl _,fun _ _=>rfl⟩
theorem qre(w:World) (k:Nat) (os:Array Obj):Adds w (Sort.grow (w.drewN k) os):=
 ⟨rfl,rfl,rfl,by show w.heap.size≤(w.heap++os).size;simp,fun b hb=>by show (w.heap++os)[b]? =_;rw [Array.getElem?_append_left hb]⟩
theorem Adds.adv(h:Adds E.w w') (hg:Good E c):Mono E {E with w:=w'} c∧Good {E with w:=w'} c∧Adv E c {E with w:=w'} c:=by
 refine ⟨⟨fun τ b hb=>⟨hb,h.old b (hg.imm τ b hb).2⟩,fun b hb=>h.old b (hg.bnd b hb),fun k l h=>h⟩,
  ⟨hg.one,fun τ b hb=>⟨(hg.imm τ b hb).1,Nat.lt_of_lt_of_le (hg.imm τ b hb).2 h.size⟩,hg.sub,fun b hb=>Nat.lt_of_lt_of_le (hg.bnd b hb) h.size,hg.lay.next (fun b hb=>hb) (fun b hb=>h.old b (hg.imm false b hb).2)⟩,
  ⟨fun b n hn=>by rw [qcy (h.old b (qh4 hn))];exact hn,h.os,h.tape,h.output,h.size,fun b hb _=>h.old b hb,fun _ _ h=>h,fun b hb=> .inl hb,fun τ b hb=> .inl hb⟩⟩
theorem qjk {f:Nat} {fn:Func} {xs:List V} {r:V} {x:Value} (hfn:P.funcs[f]? =some fn) (hb:fn.body.isSome=true) (hn:(fn.name== "runtime.NumGoroutine")=false) (hr:r= .v x) (hx:yP x=false)
 (h: ∀ (E:Env) (vs:List Value),qk E.cl xs vs c0→Lay.L E.w→Calls P f vs.toArray E.w fun e w'=>e= .returned x∧Adds E.w w') (hz: ∀ (E:Env) vs c,qk E.cl xs vs c→c=c0):
 Xo P f xs r xs:=by
 intro E vs c hxs hg
 have h0:=hz E vs c hxs
 subst h0
 obtain ⟨code,hcode⟩:=Option.isSome_iff_exists.1 hb
 have hne:fn.name ≠ "runtime.NumGoroutine" :=by simpa using hn
 have hcf:(callFunc f vs.toArray).run P E.w= .ok (.enter f vs.toArray) E.w:=by
  simp [callFunc,hfn,hne,hcode]
 rw [hcf]
 refine ⟨rfl,(h E vs hxs hg.lay.ll).mono ?_⟩
 rintro e w' ⟨rfl,ha⟩
 obtain ⟨hm,hg',hA⟩:=ha.adv hg
 refine ⟨x,rfl,{E with w:=w'},c0,c0,rfl, ?_,x9 hxs (hm.cl), ?_, ?_⟩
 ·subst hr;simp [Rel,hx]
 ·rw [XE];exact hg'
 ·rw [XE];exact hA
end
def XN:List V→Option (V × List V)
 |[.v (.int .i64 n)]=>if -9223372036854775808≤n∧n≤9223372036854775807 then some (S (Lib.itoa n),[I n])else none
 |_=>none
theorem qfF {prog:Nat→Option AE} {f:Nat} {g:List V→Option (V × List V)} (h:prog f=some (.prim g)) (xs:List V):cw prog f xs=g xs:=by
 apply jN
 intro r
 rw [JX]
 constructor
 ·rintro ⟨n,hn⟩
  cases n with
  |zero=>simp [zt]at hn
  |succ n=>simpa only [zt,h]using hn
 ·intro hr
  exact ⟨1,by simpa only [zt,h]using hr⟩
theorem qrX {prog:Nat→Option AE} {f:Nat} (h:prog f=some (.prim XN)) (n:Int) (h0: -9223372036854775808≤n) (h1:n≤9223372036854775807):cr prog f [I n]=some (S (Lib.itoa n)):=by
 unfold cr
 rw [qfF h]
 show (XN [.v (.int .i64 n)]).map _=_
 simp only [XN,if_pos (show -9223372036854775808≤n∧n≤9223372036854775807 from ⟨h0,h1⟩),Option.map_some]
def qcO:List V→Option (V × List V)
 |[.v (.string s),.v (.int .u8 c)]=>some (I (Lib.indexByte s.data.toList c.toNat.toUInt8),[.v (.string s),.v (.int .u8 c)])
 |_=>none
theorem qrY {prog:Nat→Option AE} {f:Nat} (h:prog f=some (.prim qcO)) (s:Str) (c:Int):cr prog f [S s,U8 c]=some (I (Lib.indexByte s c.toNat.toUInt8)):=by
 unfold cr
 rw [qfF h]
 rfl
def qka:V→Option Str
 | .v (.string s)=>some s.data.toList
 |_=>none
def qay:List V→Option (List Str)
 |[]=>some []
 |x::xs=>match qka x,qay xs with
  |some s,some ss=>some (s::ss)
  |_,_=>none
theorem qB5 {x:V} {s:Str} (h:qka x=some s):x=S s:=by
 unfold qka at h
 split at h
 ·cases h;rfl
 ·cases h
theorem qpL: ∀ {xs:List V} {ss:List Str},qay xs=some ss→xs=ss.map S
 |[],ss,h=>by cases h;rfl
 |x::xs,ss,h=>by
  simp only [qay]at h
  split at h
  ·rename_i s r h1 h2
   cases h
   rw [List.map_cons,qB5 h1,qpL h2]
  ·cases h
theorem qpK: ∀ ss:List Str,qay (ss.map S)=some ss
 |[]=>rfl
 |s::ss=>by simp only [List.map_cons,qay,qpK ss];rfl
def XO:List V→Option (V × List V)
 |[.i τ xs,.v (.string p)]=>match qay xs with
  |some ss=>if xs.length≤140737488355328∧(Lib.join ss p.data.toList).length≤140737488355328 then some (S (Lib.join ss p.data.toList),[.i τ xs,.v (.string p)])else none
  |none=>none
 |_=>none
theorem qoJ {E:Env} {e:Nat}: ∀ {ss:List Str} {ys:List Value} {c:Cnt},qn E e (ss.map S) ys c→(ss=[]∨e=1)∧ys=ss.map fun s=> .string ⟨s.toArray⟩
 |[],ys,c,h=>by simp only [List.map_nil,qn]at h;exact ⟨.inl rfl,h.1⟩
 |s::ss,ys,c,h=>by
  simp only [List.map_cons,qn]at h
  obtain ⟨y,ys',c1,c2,rfl,hy,-,-,h1,h2,-⟩:=h
  simp only [S,Rel]at h1
  obtain ⟨rfl,-,-⟩:=h1
  refine ⟨.inr (by rw [← hy];rfl), ?_⟩
  rw [(qoJ h2).2]
  rfl
theorem qrZ {prog:Nat→Option AE} {f:Nat} (h:prog f=some (.prim XO)) (τ:Bool) (ss:List Str) (p:Str) (h0:ss.length≤140737488355328) (h1:(Lib.join ss p).length≤140737488355328):
 cr prog f [.i τ (ss.map S),S p]=some (S (Lib.join ss p)):=by
 unfold cr
 rw [qfF h]
 show (XO [.i τ (ss.map S),.v (.string ⟨p.toArray⟩)]).map _=_
 simp only [XO,qpK,List.length_map]
 rw [if_pos ⟨h0,h1⟩]
 rfl
def qVb:List V→Option (V × List V)
 |[.v (.string s),.v (.string p)]=>match p.data.toList with
  |[c]=>if c.toNat < 128∧s.size≤9223372036854775807 then some (S (Lib.trimB s.data.toList c),[.v (.string s),.v (.string p)])else none
  |_=>none
 |_=>none
def qU3:List V→Option (V × List V)
 |[.v (.string s),.v (.string p)]=>match p.data.toList with
  |[c]=>if s.size < 4294967281 then some (.i false ((Lib.split s.data.toList [c]).map S),[.v (.string s),.v (.string p)])else none
  |_=>none
 |_=>none
end Go.Vm
namespace Go.Vm
theorem Wrote.trans {w w1 w2:World} {b:Nat} {c1 c2:Array Value} (h:Wrote w b c1 w1) (h':Wrote w1 b c2 w2):Wrote w b c2 w2:=
 ⟨h'.os.trans h.os,h'.tape.trans h.tape,h'.output.trans h.output,h'.size.trans h.size,fun b' hb=>(h'.other b' hb).trans (h.other b' hb),fun cs T fz hc=>by
  obtain ⟨a1,a2⟩:=h.self cs T fz hc
  obtain ⟨b1,b2⟩:=h'.self _ _ _ a1
  exact ⟨b1,b2.trans a2⟩⟩
theorem qjO {b:Nat} {T:TypeId} {fz:Nat × Nat}: ∀ (vs:List Value) (o:Nat) (w:World) (cells:Array Value),w.heap[b]? =some (.cells cells T fz)→o+vs.length≤cells.size→
 ∃ cells',Wrote w b cells' (w.setCells b o vs)∧cells'.toList=zn cells.toList o vs
 |[],o,w,cells,h,hn=>⟨cells,⟨rfl,rfl,rfl,rfl,fun _ _=>rfl,fun cs T' fz' h'=>by rw [h]at h';cases h';exact ⟨h,rfl⟩⟩,by simp [zn]⟩
 |v::vs,o,w,cells,h,hn=>by
  simp only [List.length_cons]at hn
  have hw:=qpr (o:=o) h v
  have h1:=(hw.self _ _ _ h).1
  obtain ⟨cells',hW,hc⟩:=qjO vs (o+1) (w.setCell ⟨b,o,none⟩ v) (cells.setIfInBounds o v) h1 (by simp only [Array.size_setIfInBounds];omega)
  exact ⟨cells',hw.trans hW,by rw [hc,Array.toList_setIfInBounds,qj7 (by rw [Array.length_toList];omega)]⟩
theorem qkk(z:Array Value) (n:Nat):(Builtin.zeroCells z n).toList.length=n*z.size:=by simp [Builtin.zeroCells]
theorem qC1 {z:Array Value} (h: ∀ v ∈ z.toList,v.oneCell'=true) (n:Nat): ∀ v ∈ (Builtin.zeroCells z n).toList,v.oneCell'=true:=by
 intro v hv
 simp only [Builtin.zeroCells,Array.toList_map,Array.toList_range,List.mem_map,List.mem_range]at hv
 obtain ⟨i,hi,rfl⟩:=hv
 have hp:0 < z.size:=by
  rcases Nat.eq_zero_or_pos z.size with h0|h0
  ·rw [h0,Nat.mul_zero]at hi;omega
  ·exact h0
 have hm:i % z.size < z.size:=Nat.mod_lt _ hp
 rw [getElem!_pos z _ hm]
 exact h _ (Array.getElem_mem_toList hm)
theorem qAF {P:Program} (w:World) (t e ty:TypeId) (z:Value) (ht:P.underlying t=some (.slice e)) (hv: ∀ w,(zeroValue e).run P w= .ok z w) (h1: ∀ v ∈ z.cells.toList,v.oneCell'=true) (b o n c:Nat) (hn:0 < n)
 (hc: ∀ j,j < n*z.cells.size→(w.cell? ⟨b,o+j,none⟩).isSome=true) (hf: ∀ j,j < n*z.cells.size→w.frozen? ⟨b,o+j,none⟩=false):
 (Builtin.clear_ #[t] ty #[.slice (some ⟨b,o,none⟩) n c]).run P w= .ok (.tuple #[]) (w.setCells b o (Builtin.zeroCells z.cells n).toList):=by
 have hst:=run_storeCells_cells (P:=P) b o (Builtin.zeroCells z.cells n).toList 0 w (by rw [qkk];simpa using hc) (by rw [qkk];simpa using hf) (qC1 h1 n)
 simp only [Nat.add_zero]at hst
 obtain ⟨m,rfl⟩: ∃ m,n=m+1:=⟨n - 1,by omega⟩
 simp [Builtin.clear_,zX ht,hv,hst]
theorem qr4 {cells:List Value} {base i j n e:Nat} {zs:List Value} (hij:i≤j) (hj:j≤n) (hs:base+n*e≤cells.length) (hz:zs.length=(j - i)*e):
 (((zn (zn cells (base+i*e) (((cells.drop base).take (n*e)).drop (j*e))) (base+(i+(n - j))*e) zs).drop base).take ((n - (j - i))*e))=((cells.drop base).take (n*e)).take (i*e)++((cells.drop base).take (n*e)).drop (j*e):=by
 have h1:i*e≤j*e:=Nat.mul_le_mul_right _ hij
 have h2:j*e≤n*e:=Nat.mul_le_mul_right _ hj
 have h3:(i+(n - j))*e=i*e+(n*e - j*e):=by rw [Nat.add_mul,Nat.sub_mul]
 have h4:(n - (j - i))*e=i*e+(n*e - j*e):=by rw [← h3];congr 1;omega
 have h5:(j - i)*e=j*e - i*e:=Nat.sub_mul _ _ _
 rw [h3,h4]
 rw [h5]at hz
 generalize i*e=a at*
 generalize j*e=b at*
 generalize n*e=c at*
 clear h3 h4 h5
 apply List.ext_getElem?
 intro t
 simp only [zn,List.getElem?_take,List.getElem?_drop,List.getElem?_append,List.length_take,List.length_drop,List.length_append]
 have e1:min c (cells.length - base)=c:=by omega
 have e2:min (base+a) cells.length=base+a:=by omega
 have e3:min a c=a:=by omega
 simp only [e1,e2,e3]
 by_cases q0:t < a+(c - b)
 ·rw [if_pos q0,if_pos (by omega),if_pos (by omega),if_pos (by omega)]
  by_cases q1:t < a
  ·rw [if_pos (by omega),if_pos (by omega),if_pos (by omega),if_pos q1,if_pos q1,if_pos (by omega)]
  ·rw [if_pos (by omega),if_neg (by omega),if_neg q1,if_pos (by omega)]
   rw [if_pos (by omega)]
   congr 1;omega
 ·rw [if_neg q0,if_neg (by omega),if_neg (by omega)]
def JY(e:Nat):List V→Option (V × List V)
 |[.o e' xs,.v (.int .i64 i),.v (.int .i64 j)]=>if e'=e∧0≤i∧i < j∧j≤xs.length then some (.o e (xs.take i.toNat++xs.drop j.toNat),[.d,I i,I j])else none
 |_=>none
def qUB(e:Nat):List V→Option (V × List V)
 |[.o e' xs,.v (.int .i64 i),.v (.int .i64 j),.o e'' vs]=>if e'=e∧e''=e∧0≤i∧i < j∧j≤xs.length then some (.o e (xs.take i.toNat++vs++xs.drop j.toNat),[.d,I i,I j,.d])else none
 |_=>none
end Go.Vm
