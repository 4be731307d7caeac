import Derived.Test.YtnicgnmcacbplaaT02
import Derived.Laws.Strings
import Derived.ChangeArms
import Derived.ProofKit
import Derived.OpenShut
import Derived.Sort.Grow
import Derived.Deep.Draws
import Derived.Lib.LaidTab
import Derived.Lib.ItoaNum
import Derived.Lib.Bytealg
import Derived.Lib.Join
import Derived.Lib.Split
import Derived.Lib.TrimByte
set_option autoImplicit false
set_option linter.unusedVariables false
set_option linter.unusedSimpArgs false
namespace Go.Vm
section
variable {prog:Nat→Option AE} {st:St} {σ:Sl} {T:Mem} {call:Call} {a b:Int} {x y:List UInt8}
@[go_sem] theorem qup:zt .add (I a) (I b)=some (I (w64 (a+b))):=(rfl)
@[go_sem] theorem qux:zt .sub (I a) (I b)=some (I (w64 (a - b))):=(rfl)
@[go_sem] theorem quv:zt .mul (I a) (I b)=some (I (w64 (a*b))):=(rfl)
@[go_sem] theorem quu:zt .lss (I a) (I b)=some (B (decide (a < b))):=(rfl)
@[go_sem] theorem qut:zt .leq (I a) (I b)=some (B (decide (a≤b))):=(rfl)
@[go_sem] theorem qus:zt .gtr (I a) (I b)=some (B (decide (b < a))):=(rfl)
@[go_sem] theorem qur:zt .geq (I a) (I b)=some (B (decide (b≤a))):=(rfl)
@[go_sem] theorem quq:zt .eql (I a) (I b)=some (B (decide (a=b))):=by
 have:(a==b)=decide (a=b):=by rw [Bool.eq_iff_iff];simp
 exact congrArg (fun t=>some (B t)) this
@[go_sem] theorem quw:zt .neq (I a) (I b)=some (B (decide (a ≠ b))):=by
 have:(a != b)=decide (a ≠ b):=by rw [Bool.eq_iff_iff];simp
 exact congrArg (fun t=>some (B t)) this
@[go_sem] theorem quj:zt .lss (U8 a) (U8 b)=some (B (decide (a < b))):=(rfl)
@[go_sem] theorem qui:zt .leq (U8 a) (U8 b)=some (B (decide (a≤b))):=(rfl)
@[go_sem] theorem quh:zt .gtr (U8 a) (U8 b)=some (B (decide (b < a))):=(rfl)
@[go_sem] theorem qug:zt .geq (U8 a) (U8 b)=some (B (decide (b≤a))):=(rfl)
@[go_sem] theorem que:zt .add (U8 a) (U8 b)=some (U8 (IntKind.u8.wrap (a+b))):=(rfl)
@[go_sem] theorem quf:zt .eql (U8 a) (U8 b)=some (B (decide (a=b))):=by
 have:(a==b)=decide (a=b):=by rw [Bool.eq_iff_iff];simp
 exact congrArg (fun t=>some (B t)) this
@[go_sem] theorem quk:zt .neq (U8 a) (U8 b)=some (B (decide (a ≠ b))):=by
 have:(a != b)=decide (a ≠ b):=by rw [Bool.eq_iff_iff];simp
 exact congrArg (fun t=>some (B t)) this
theorem qaZ:(ByteArray.mk x.toArray).toList=x:=by rw [ByteArray.toList_eq]
@[go_sem] theorem qul:zt .eql (S x) (S y)=some (B (decide (x=y))):=by
 have:(Op.stringOp .eql ⟨x.toArray⟩ ⟨y.toArray⟩).val? =some (.bool (decide (x=y))):=by
  simp only [Op.stringOp,qaZ]
  have:(x==y)=decide (x=y):=by rw [Bool.eq_iff_iff];simp
  rw [this];rfl
 exact congrArg (Option.map V.v) this
@[go_sem] theorem quo:zt .neq (S x) (S y)=some (B (decide (x ≠ y))):=by
 have:(Op.stringOp .neq ⟨x.toArray⟩ ⟨y.toArray⟩).val? =some (.bool (decide (x ≠ y))):=by
  simp only [Op.stringOp,qaZ]
  have:(!x==y)=decide (x ≠ y):=by rw [Bool.eq_iff_iff];simp
  rw [this];rfl
 exact congrArg (Option.map V.v) this
@[go_sem] theorem qun:zt .lss (S x) (S y)=some (B (Op.bytesLess x y)):=by
 have:(Op.stringOp .lss ⟨x.toArray⟩ ⟨y.toArray⟩).val? =some (.bool (Op.bytesLess x y)):=by
  simp only [Op.stringOp,qaZ];rfl
 exact congrArg (Option.map V.v) this
@[go_sem] theorem qum:zt .gtr (S x) (S y)=some (B (!(Op.bytesLess x y||decide (x=y)))):=by
 have:(Op.stringOp .gtr ⟨x.toArray⟩ ⟨y.toArray⟩).val? =some (.bool (!(Op.bytesLess x y||decide (x=y)))):=by
  simp only [Op.stringOp,qaZ]
  have:(x==y)=decide (x=y):=by rw [Bool.eq_iff_iff];simp
  rw [this];rfl
 exact congrArg (Option.map V.v) this
theorem kp(h:x.length+y.length≤9223372036854775807):zt .add (S x) (S y)=some (S (x++y)):=by
 have:(Op.stringOp .add ⟨x.toArray⟩ ⟨y.toArray⟩).val? =some (.string ⟨(x++y).toArray⟩):=by
  simp only [Op.stringOp,ByteArray.size,List.size_toArray]
  rw [if_neg (by simp [IntKind.max,IntKind.signed,IntKind.bits];omega)]
  have:(ByteArray.mk x.toArray++ByteArray.mk y.toArray)=⟨(x++y).toArray⟩:=by
   apply ByteArray.ext
   simp
  rw [this];rfl
 exact congrArg (Option.map V.v) this
theorem qjv(h:b ≠ 0):zt .rem (I a) (I b)=some (I (a.tmod b)):=by
 have:(Op.intDiv .rem .i64 a b).val? =some (.int .i64 (a.tmod b)):=by
  simp only [Op.intDiv,if_neg h];rfl
 exact congrArg (Option.map V.v) this
@[go_sem] theorem qyD {p q:Bool}:eqV 0 (B p) (B q)=some (p==q):=(rfl)
@[go_sem] theorem qyF {e e':Nat}:eqV 2 (.n e) (.n e')=some true:=(rfl)
@[go_sem] theorem qyE {e:Nat} {τ:Bool} {z:V} {zs:List V}:eqV 2 (.i τ (z::zs)) (.n e)=some false:=(rfl)
@[go_sem] theorem qBe {α β:Type} {f:α→β} {z:α}:(some z).map f=some (f z):=(rfl)
def ldO(ob:Option Ob) (idx:Nat) (agg:Bool) (size off:Nat):Option V:=
 match ob with
 |some ob=>qn ob.2[idx]? fun x=>qT agg size x off
 |none=>none
@[go_sem] theorem qAx {e idx size off:Nat} {xs:List V} {agg:Bool}:ldO (some (e,xs)) idx agg size off=qn xs[idx]? fun x=>qT agg size x off:=(rfl)
@[go_sem] theorem qAX {k:Key} {idx off size:Nat} {agg:Bool}:xb T agg size (.p k idx off)=ldO (qp T k) idx agg size off:=by
 simp only [xb,ldO]
 cases qp T k with
 |none=>rfl
 |some ob=>simp only;cases ob.2[idx]? <;>rfl
@[go_sem] theorem qAY {τ:Bool} {xs:List V} {idx off size:Nat} {agg:Bool}:xb T agg size (.q τ xs idx off)=qn xs[idx]? fun x=>qT agg size x off:=by
 simp only [xb];cases xs[idx]? <;>rfl
@[go_sem] theorem qAI {n:Nat} {cs:List V} {off:Nat}:qT true n (.a cs) off=if off=0∧cs.length=n then some (.a cs)else if off+n≤cs.length then some (.a ((cs.drop off).take n))else none:=by
 unfold qT
 simp only [V.cells,V.isA,if_true]
 by_cases h:off=0∧cs.length=n
 ·simp only [h.1,h.2,and_self,if_true]
 ·rw [if_neg h,if_neg (fun h'=>h ⟨h'.1,h'.2.1⟩)];by_cases h2:off+n≤cs.length<;>simp only [h2,if_true,if_false]
@[go_sem] theorem qAJ {n:Nat} {cs:List V} {off:Nat}:qT false n (.a cs) off=cs[off]? :=(rfl)
@[go_sem] theorem qAC {n:Nat}:qT false n (I a) 0=some (I a):=(rfl)
@[go_sem] theorem qAE {n:Nat}:qT false n (S x) 0=some (S x):=(rfl)
@[go_sem] theorem qAB {n:Nat} {p:Bool}:qT false n (B p) 0=some (B p):=(rfl)
@[go_sem] theorem qAG {n:Nat}:qT false n (U8 a) 0=some (U8 a):=(rfl)
@[go_sem] theorem qAL {n:Nat} {τ:Bool} {xs:List V}:qT false n (.i τ xs) 0=some (.i τ xs):=(rfl)
@[go_sem] theorem qAP {n:Nat} {k:Key} {lo len:Nat}:qT false n (.s k lo len) 0=some (.s k lo len):=(rfl)
@[go_sem] theorem qAO {n e:Nat} {xs:List V}:qT false n (.o e xs) 0=some (.o e xs):=(rfl)
@[go_sem] theorem qAN {n e:Nat}:qT false n (.n e) 0=some (.n e):=(rfl)
@[go_sem] theorem qAK {n:Nat} {fn:Fn} {xs ys:List V}:qT false n (.f fn xs ys) 0=some (.f fn xs ys):=(rfl)
def stO(T:Mem) (k:Key) (ob:Option Ob) (idx off:Nat) (y:V):Option Mem:=
 match ob with
 |some ob=>match ob.2[idx]? with
  |some x=>match j7 x off y with
   |some x'=>some ((k,ob.1,ob.2.set idx x')::qy T k)
   |none=>none
  |none=>none
 |none=>none
@[go_sem] theorem qFR {k:Key} {idx off:Nat} {y:V}:j8 T (.p k idx off) y=stO T k (qp T k) idx off y:=(rfl)
@[go_sem] theorem qFP {k:Key} {idx off e:Nat} {xs:List V} {y:V}:stO T k (some (e,xs)) idx off y=qn xs[idx]? fun x=>qn (j7 x off y) fun x'=>some ((k,e,xs.set idx x')::qy T k):=by
 simp only [stO]
 cases xs[idx]? with
 |none=>rfl
 |some x=>simp only [qn];cases j7 x off y<;>rfl
attribute [go_sem] j7
@[go_sem] theorem qyq {z:V} {zs:List V}:(z::zs)[0]? =some z:=(rfl)
@[go_sem] theorem qyr {z:V} {zs:List V} {n:Nat}:(z::zs)[n+1]? =zs[n]? :=by simp
@[go_sem] theorem qFJ {z z':V} {zs:List V}:(z::zs).set 0 z'=z'::zs:=(rfl)
@[go_sem] theorem qFK {z z':V} {zs:List V} {n:Nat}:(z::zs).set (n+1) z'=z::zs.set n z':=(rfl)
attribute [go_sem] List.length_cons List.length_nil List.take_zero List.take_succ_cons List.drop_zero List.drop_succ_cons List.nil_append List.cons_append List.append_nil List.length_append
def ixO(k:Key) (lo len e:Nat) (i:Int) (ob:Option Ob):Option V:=
 match ob with
 |some ob=>if ob.1=e∧lo+len≤ob.2.length then (zS i len).map fun j=> .p k (lo+j) 0 else none
 |none=>none
@[go_sem] theorem qtL {k:Key} {lo len e:Nat} {i:Int}:ko T e (.s k lo len) i=ixO k lo len e i (qp T k):=(rfl)
theorem ky {k:Key} {len e:Nat} {xs:List V} {i:Nat} (h:i < len) (hl:len≤xs.length):ixO k 0 len e (i:Int) (some (e,xs))=some (.p k i 0):=by
 simp only [ixO,zS]
 rw [if_pos ⟨trivial,by omega⟩,if_pos ⟨by omega,by omega⟩]
 simp
theorem yX {τ:Bool} {xs:List V} {e:Nat} {i:Nat} {z:V} (h:xs[i]? =some z) (hz:z.cells.length=e):ko T e (.i τ xs) (i:Int)=some (.q τ xs i 0):=by
 have hl:i < xs.length:=(List.getElem?_eq_some_iff.1 h).1
 simp only [ko,zS]
 rw [if_pos ⟨by omega,by omega⟩]
 simp only [Int.toNat_natCast,h,Option.getD_some,hz,if_true]
def elO(e lo len:Nat) (ob:Option Ob):Option (List V):=
 match ob with
 |some ob=>if ob.1=e∧lo+len≤ob.2.length then some ((ob.2.drop lo).take len)else none
 |none=>none
@[go_sem] theorem qyu {k:Key} {lo len e:Nat}:ku T e (.s k lo len)=elO e lo len (qp T k):=(rfl)
@[go_sem] theorem qyp {e e' lo len:Nat} {xs:List V}:elO e lo len (some (e',xs))=if e'=e∧lo+len≤xs.length then some ((xs.drop lo).take len)else none:=(rfl)
@[go_sem] theorem qys {e:Nat} {τ:Bool} {xs:List V}:ku T e (.i τ xs)=some xs:=(rfl)
@[go_sem] theorem qyt {e e':Nat}:ku T e (.n e')=some []:=(rfl)
def apO(e lo len:Nat) (T':Mem) (ob:Option Ob):Option (List V × Mem):=
 match ob with
 |some ob=>if ob.1=e∧lo+len≤ob.2.length then some ((ob.2.drop lo).take len,T')else none
 |none=>none
@[go_sem] theorem qtQ {e e':Nat}:jk T e (.n e')=some ([],T):=(rfl)
@[go_sem] theorem qtR {k:Key} {lo len e:Nat}:jk T e (.s k lo len)=apO e lo len (qy T k) (qp T k):=(rfl)
@[go_sem] theorem qtO {e e' lo len:Nat} {xs:List V}:apO e lo len T (some (e',xs))=if e'=e∧lo+len≤xs.length then some ((xs.drop lo).take len,T)else none:=(rfl)
def Zo {α:Type} (r:Option (List V × Mem)) (k:List V→Mem→Option α):Option α:=
 match r with
 |some (xs,T)=>k xs T
 |none=>none
@[congr] theorem quO {α:Type} {r r':Option (List V × Mem)} {k:List V→Mem→Option α} (h:r=r'):Zo r k=Zo r' k:=by rw [h]
@[go_sem] theorem quP {α:Type} {xs:List V} {k:List V→Mem→Option α}:Zo (some (xs,T)) k=k xs T:=(rfl)
@[go_sem] theorem qtP {e:Nat} {y:V}:YB T e y=zZ (ku T e y) fun ys=>zA (yr ys) (some (ys,T)) (jk T e y):=by
 unfold YB
 cases ku T e y with
 |none=>rfl
 |some ys=>simp only [zZ,zA]
@[go_sem] theorem qyU {d e bytes:Nat} {x y:AO}:ql call ⟨σ,T⟩ (.app d e bytes x y)=qn (ev σ x) fun x=>qn (ev σ y) fun y=>Zo (YB T e y) fun ys Ty=>Zo (jk Ty e x) fun xs T'=>
 xH (kT e ys&&decide ((xs.length+ys.length)*bytes≤lim)&&decide (xs.length+ys.length≤lim))
  (some ⟨(d,.s (d,0) 0 (xs.length+ys.length))::y9 d σ,((d,0),e,qA d (xs++ys))::wT d T'⟩):=by
 simp only [ql,qi,qbD]
 cases ev σ x with
 |none=>rfl
 |some x=>cases ev σ y with
  |none=>rfl
  |some y=>
   simp only [qn]
   cases YB T e y with
   |none=>rfl
   |some q=>
    obtain ⟨ys,Ty⟩:=q
    simp only [Zo]
    cases jk Ty e x<;>rfl
theorem zu:lim=1099511627776:=(rfl)
def KM(d:Option Nat) (k:Nat):Bool:=
 match d with
 |none=>false
 |some d=>decide (d=k)
@[go_sem] theorem qxJ {k:Nat}:KM none k=false:=(rfl)
@[go_sem] theorem qxK {d k:Nat}:KM (some d) k=decide (d=k):=(rfl)
def Zv {α:Type} (o:Option Nat) (x:α) (k:Nat→α):α:=
 match o with
 |none=>x
 |some d=>k d
@[congr] theorem qxL {α:Type} {o o':Option Nat} {x:α} {k:Nat→α} (h:o=o'):Zv o x k=Zv o' x k:=by rw [h]
@[go_sem] theorem qxN {α:Type} {d:Nat} {x:α} {k:Nat→α}:Zv (some d) x k=k d:=(rfl)
@[go_sem] theorem qxM {α:Type} {x:α} {k:Nat→α}:Zv none x k=x:=(rfl)
@[go_sem] theorem qtT:zE call [] [] st=some st:=(rfl)
@[go_sem] theorem qtS {p:Dp} {ps:List Dp} {i:AI} {is:List AI}:zE call (p::ps) (i::is) st=xY (xj call p i st) fun st=>zE call ps is st:=by
 simp only [zE];cases xj call p i st<;>rfl
@[go_sem] theorem qFQ {p:Dp} {i:AI}:xj call p i ⟨σ,T⟩=xY (ql call ⟨zr σ (qM i),xc T p.ks⟩ i) fun st'=>Zv (qt i) (some ⟨σ,ZC p none st'.T T⟩)
 (fun d=>qn (qz st'.σ d) fun x=>some ⟨(d,x)::σ,ZC p (some d) st'.T T⟩):=by
 unfold xj Zv
 simp only
 cases ql call ⟨zr σ (qM i),xc T p.ks⟩ i with
 |none=>rfl
 |some st'=>
  simp only [xY]
  cases qt i with
  |none=>rfl
  |some d=>simp only;cases qz st'.σ d<;>rfl
attribute [go_sem] jc qa1 qG QK
@[go_sem] theorem qtN:zO [] []=[]:=(rfl)
@[go_sem] theorem qtM {k:Nat} {ks:List Key} {ps:List Dp} {i:AI} {is:List AI}:zO (⟨k,ks⟩::ps) (i::is)=if k=0 then zO ps is else Zv (qt i) (zO ps is) fun d=>d::zO ps is:=by
 simp only [zO];cases qt i<;>rfl
@[go_sem] theorem qDU {k:Nat} {ks:List Key} {d:Option Nat} {x:Key}:Dp.own ⟨k,ks⟩ d x=((decide (k=1)&&y6 x ks)||(!decide (k=0)&&KM d x.1)):=by
 have h1: ∀ ks:List Key,ks.contains x=y6 x ks:=by
  intro ks
  induction ks with
  |nil=>rfl
  |cons u r ih=>
   simp only [List.contains_cons,y6,ih]
   by_cases h:u=x
   ·subst h;simp
   ·have:(x==u)=false:=by simpa using fun h'=>h h'.symm
    simp [h,this]
 simp only [Dp.own,h1]
 have h2:(d==some x.1)=KM d x.1:=by
  cases d with
  |none=>rfl
  |some d=>simp only [KM];by_cases h:d=x.1<;>simp [h]
 rw [h2]
 have h3:(k==1)=decide (k=1):=by rw [Bool.eq_iff_iff];simp
 have h4:(k != 0)= !decide (k=0):=by rw [Bool.eq_iff_iff];simp
 rw [h3,h4]
@[go_sem] theorem qGz:xl [] st=st:=(rfl)
@[go_sem] theorem qF3 {n:Nat}:qN (.t n)=[n]:=(rfl)
@[go_sem] theorem qF2 {z:V}:qN (.c z)=[]:=(rfl)
@[go_sem] theorem qF0:jH none=[]:=(rfl)
@[go_sem] theorem qF1 {z:AO}:jH (some z)=qN z:=(rfl)
@[go_sem] theorem qx7 {d:Nat} {x:AO}:qt (.mv d x)=some d:=(rfl)
@[go_sem] theorem qGn {d:Nat} {x:AO}:qM (.mv d x)=qN x:=(rfl)
@[go_sem] theorem qyb {d:Nat} {x:AO} {y:AO} {z:AO}:qt (.pick d x y z)=some d:=(rfl)
@[go_sem] theorem qGr {d:Nat} {x:AO} {y:AO} {z:AO}:qM (.pick d x y z)=qN x++(qN y++qN z):=(rfl)
@[go_sem] theorem qx9 {d:Nat} {x:AO}:qt (.new d x)=some d:=(rfl)
@[go_sem] theorem qGp {d:Nat} {x:AO}:qM (.new d x)=qN x:=(rfl)
@[go_sem] theorem qxQ {d:Nat} {v:V} {bs:List (Nat × Nat × AO)}:qt (.build d v bs)=some d:=(rfl)
@[go_sem] theorem qF6 {d:Nat} {v:V} {bs:List (Nat × Nat × AO)}:qM (.build d v bs)=qa1 bs:=(rfl)
@[go_sem] theorem qx6 {d:Nat} {e:Nat} {xs:List AO}:qt (.mks d e xs)=some d:=(rfl)
@[go_sem] theorem qGm {d:Nat} {e:Nat} {xs:List AO}:qM (.mks d e xs)=jc xs:=(rfl)
@[go_sem] theorem qx5 {d:Nat} {e:Nat} {v:V} {n:Nat} {x:AO} {y:AO}:qt (.mk d e v n x y)=some d:=(rfl)
@[go_sem] theorem qGl {d:Nat} {e:Nat} {v:V} {n:Nat} {x:AO} {y:AO}:qM (.mk d e v n x y)=qN x++qN y:=(rfl)
@[go_sem] theorem qx2 {d:Nat} {p:Bool} {n:Nat} {x:AO}:qt (.ld d p n x)=some d:=(rfl)
@[go_sem] theorem qGi {d:Nat} {p:Bool} {n:Nat} {x:AO}:qM (.ld d p n x)=qN x:=(rfl)
@[go_sem] theorem qx3 {d:Nat} {p:Bool} {n:Nat} {x:AO}:qt (.ldq d p n x)=some d:=(rfl)
@[go_sem] theorem qGj {d:Nat} {p:Bool} {n:Nat} {x:AO}:qM (.ldq d p n x)=qN x:=(rfl)
@[go_sem] theorem qya {d:Nat} {x:AO}:qt (.nilc d x)=some d:=(rfl)
@[go_sem] theorem qGq {d:Nat} {x:AO}:qM (.nilc d x)=qN x:=(rfl)
@[go_sem] theorem qxP {d:Nat} {op:BinOp} {x:AO} {y:AO}:qt (.bin d op x y)=some d:=(rfl)
@[go_sem] theorem qF5 {d:Nat} {op:BinOp} {x:AO} {y:AO}:qM (.bin d op x y)=qN x++qN y:=(rfl)
@[go_sem] theorem qxT {d:Nat} {n:Nat} {p:Bool} {x:AO} {y:AO}:qt (.eqs d n p x y)=some d:=(rfl)
@[go_sem] theorem qF9 {d:Nat} {n:Nat} {p:Bool} {x:AO} {y:AO}:qM (.eqs d n p x y)=qN x++qN y:=(rfl)
@[go_sem] theorem qyh {d:Nat} {uo:UnOp} {x:AO}:qt (.un d uo x)=some d:=(rfl)
@[go_sem] theorem qGx {d:Nat} {uo:UnOp} {x:AO}:qM (.un d uo x)=qN x:=(rfl)
@[go_sem] theorem qyc {d:Nat} {e:Nat} {x:AO} {ox:Option AO} {oy:Option AO}:qt (.sl d e x ox oy)=some d:=(rfl)
@[go_sem] theorem qGs {d:Nat} {e:Nat} {x:AO} {ox:Option AO} {oy:Option AO}:qM (.sl d e x ox oy)=qN x++(jH ox++jH oy):=(rfl)
@[go_sem] theorem qye {d:Nat} {x:AO} {ox:Option AO} {oy:Option AO}:qt (.ssl d x ox oy)=some d:=(rfl)
@[go_sem] theorem qGu {d:Nat} {x:AO} {ox:Option AO} {oy:Option AO}:qM (.ssl d x ox oy)=qN x++(jH ox++jH oy):=(rfl)
@[go_sem] theorem qyd {d:Nat} {x:AO}:qt (.slen d x)=some d:=(rfl)
@[go_sem] theorem qGt {d:Nat} {x:AO}:qM (.slen d x)=qN x:=(rfl)
@[go_sem] theorem qxV {d:Nat} {x:AO} {n:Nat}:qt (.fa d x n)=some d:=(rfl)
@[go_sem] theorem qGb {d:Nat} {x:AO} {n:Nat}:qM (.fa d x n)=qN x:=(rfl)
@[go_sem] theorem qxW {d:Nat} {p:Bool} {n:Nat} {x:AO} {m:Nat}:qt (.fld d p n x m)=some d:=(rfl)
@[go_sem] theorem qGc {d:Nat} {p:Bool} {n:Nat} {x:AO} {m:Nat}:qM (.fld d p n x m)=qN x:=(rfl)
@[go_sem] theorem qxZ {d:Nat} {e:Nat} {x:AO} {y:AO}:qt (.ia d e x y)=some d:=(rfl)
@[go_sem] theorem qGf {d:Nat} {e:Nat} {x:AO} {y:AO}:qM (.ia d e x y)=qN x++qN y:=(rfl)
@[go_sem] theorem qx1 {d:Nat} {x:AO} {y:AO}:qt (.ix d x y)=some d:=(rfl)
@[go_sem] theorem qGh {d:Nat} {x:AO} {y:AO}:qM (.ix d x y)=qN x++qN y:=(rfl)
@[go_sem] theorem qxU {d:Nat} {x:AO} {n:Nat}:qt (.ext d x n)=some d:=(rfl)
@[go_sem] theorem qGa {d:Nat} {x:AO} {n:Nat}:qM (.ext d x n)=qN x:=(rfl)
@[go_sem] theorem qxX {d:Nat} {fn:Fn} {xs:List AO} {ys:List AO}:qt (.fun d fn xs ys)=some d:=(rfl)
@[go_sem] theorem qGd {d:Nat} {fn:Fn} {xs:List AO} {ys:List AO}:qM (.fun d fn xs ys)=jc xs++jc ys:=(rfl)
@[go_sem] theorem qxO {d:Nat} {e:Nat} {n:Nat} {x:AO} {y:AO}:qt (.app d e n x y)=some d:=(rfl)
@[go_sem] theorem qF4 {d:Nat} {e:Nat} {n:Nat} {x:AO} {y:AO}:qM (.app d e n x y)=qN x++qN y:=(rfl)
@[go_sem] theorem qx4 {d:Nat} {x:AO}:qt (.len d x)=some d:=(rfl)
@[go_sem] theorem qGk {d:Nat} {x:AO}:qM (.len d x)=qN x:=(rfl)
@[go_sem] theorem qx8 {d:Nat} {p:Bool} {xs:List AO}:qt (.mx d p xs)=some d:=(rfl)
@[go_sem] theorem qGo {d:Nat} {p:Bool} {xs:List AO}:qM (.mx d p xs)=jc xs:=(rfl)
@[go_sem] theorem qx0 {d:Nat} {ik:IntKind} {x:AO}:qt (.int d ik x)=some d:=(rfl)
@[go_sem] theorem qGg {d:Nat} {ik:IntKind} {x:AO}:qM (.int d ik x)=qN x:=(rfl)
@[go_sem] theorem qyg {d:Nat} {x:AO}:qt (.str d x)=some d:=(rfl)
@[go_sem] theorem qGw {d:Nat} {x:AO}:qM (.str d x)=qN x:=(rfl)
@[go_sem] theorem qxR {d:Nat} {x:AO}:qt (.byt d x)=some d:=(rfl)
@[go_sem] theorem qF7 {d:Nat} {x:AO}:qM (.byt d x)=qN x:=(rfl)
@[go_sem] theorem qyf {n:Nat} {x y:AO}:qt (.st n x y)=none:=(rfl)
@[go_sem] theorem qGv {n:Nat} {x y:AO}:qM (.st n x y)=qN x++qN y:=(rfl)
@[go_sem] theorem qxS {o:Option Nat} {x:AO} {xs:List AO} {m:Md}:qt (.call o x xs m)=o:=(rfl)
@[go_sem] theorem qF8 {o:Option Nat} {x:AO} {xs:List AO} {m:Md}:qM (.call o x xs m)=qN x++jc xs:=(rfl)
@[go_sem] theorem qxY {n:Nat} {p:Bool} {o:Option Nat} {i:AI}:qt (.gd n p o i)=o:=(rfl)
@[go_sem] theorem qGe {n:Nat} {p:Bool} {o:Option Nat} {i:AI}:qM (.gd n p o i)=n::qM i:=(rfl)
@[go_sem] theorem qBf {k:Nat} {ks:List Key} {d:Option Nat} {T':Mem}:ZC ⟨k,ks⟩ d T' T=if k=0 then T else qG (Dp.own ⟨k,ks⟩ d) T'++qG (fun x=> !Dp.own ⟨k,ks⟩ d x) T:=(rfl)
@[go_sem] theorem qGy {ds:List Nat} {d:Nat}:xl (d::ds) ⟨σ,T⟩=xl ds ⟨y9 d σ,wT d T⟩:=(rfl)
def qaB(n:Nat) (σ:Sl) (T:Mem):St:=QA n (yI σ) σ (ZP (yI σ) (y4 σ++yZ T (yI σ)) T)
@[go_sem] theorem qEh {ls:List Nat} {ks:List Key}:xx ls ks ⟨σ,T⟩=qaB (KH ks) (zr σ ls) T:=(rfl)
@[go_sem] theorem qu3:KH []=0:=(rfl)
@[go_sem] theorem qu2 {n m:Nat} {r:List Key}:KH ((n,m)::r)=n:=(rfl)
theorem qhd: ∀ (ks:List Key),yC [] ks=[]
 |[]=>rfl
 |k::ks=>by simp only [yC,qp,qhd ks]
theorem qeM(bx:List Key): ∀ (ks:List Key),jo bx ks []=[]
 |[]=>rfl
 |k::ks=>by
  have:Zr [] k=[]:=rfl
  simp only [jo,this,ite_self,qeM bx ks]
@[go_sem] theorem qEg {n:Nat}:qaB n σ []=QA n (yI σ) σ []:=by
 simp only [qaB,ZP,qeM,qhd]
@[go_sem] theorem qEf {n:Nat} {ob:Key × Ob}:qaB n σ (ob::T)=QA n (yI σ) σ (ZP (yI σ) (y4 σ++yZ (ob::T) (yI σ)) (ob::T)):=(rfl)
@[go_sem] theorem qFL {bx k0:List Key}:ZP bx k0 T=yC (jo bx k0 T) k0:=(rfl)
@[go_sem] theorem qwt {bx:List Key}:jo bx [] T=T:=(rfl)
@[go_sem] theorem qws {bx ks:List Key} {k:Key}:jo bx (k::ks) T=jo bx ks (zA (y6 k bx) T (Zr T k)):=(rfl)
def qaQ(T:Mem) (k:Key) (ob:Option Ob):Mem:=
 match ob with
 |none=>T
 |some ob=>zA (qx ob.2) T ((k,ob.1,(qv (ze 30) (qy T k) ob.2).1)::(qv (ze 30) (qy T k) ob.2).2)
@[go_sem] theorem qwr {k:Key}:Zr T k=qaQ T k (qp T k):=by
 unfold Zr qaQ zA;cases qp T k<;>rfl
@[go_sem] theorem qFy {k:Key}:qaQ T k none=T:=(rfl)
@[go_sem] theorem qFz {k:Key} {ob:Ob}:qaQ T k (some ob)=zA (qx ob.2) T ((k,ob.1,(qv (ze 30) (qy T k) ob.2).1)::(qv (ze 30) (qy T k) ob.2).2):=(rfl)
@[go_sem] theorem qwq {m:Nat} {x:V}:ze m T x=zA (clE x) (x,T) (qu m T x):=(rfl)
theorem qgp(m:Nat): ∀ (xs ys:List V) (T:Mem),qv (ze m) T (xs++ys)=((qv (ze m) T xs).1++(qv (ze m) (qv (ze m) T xs).2 ys).1,(qv (ze m) (qv (ze m) T xs).2 ys).2)
 |[],ys,T=>rfl
 |x::xs,ys,T=>by simp only [List.cons_append,qv,qgp m xs ys]
theorem kA(m:Nat) (T:Mem): ∀ (xs:List V),qx xs=true→qv (ze m) T xs=(xs,T)
 |[],_=>rfl
 |x::xs,h=>by
  simp only [qx,Bool.and_eq_true]at h
  have:ze m T x=(x,T):=by unfold ze;rw [if_pos h.1]
  simp only [qv,this,kA m T xs h.2]
attribute [go_sem] qgp
def qbH(n:Nat) (bx:List Key) (σ:Sl) (T:Mem):St:=⟨jE (x8 n (y4 σ++yZ T bx)) σ,kH (x8 n (y4 σ++yZ T bx)) (yC T (y4 σ++yZ T bx))⟩
@[go_sem] theorem qjB {n:Nat} {bx:List Key}:QA n bx σ T=qbH n bx (xp σ) (ka σ++yN bx T):=(rfl)
def qex(n:Nat) (kk:List Key) (σ:Sl) (T:Mem):St:=⟨jE (x8 n kk) σ,kH (x8 n kk) (yC T kk)⟩
@[go_sem] theorem qvx {n:Nat} {bx:List Key}:qbH n bx σ T=qex n (y4 σ++yZ T bx) σ T:=(rfl)
@[go_sem] theorem qvy {n:Nat} {kk:List Key}:qex n kk σ T=⟨jE (x8 n kk) σ,kH (x8 n kk) (yC T kk)⟩:=(rfl)
@[go_sem] theorem qs9:NB=200000:=(rfl)
@[go_sem] theorem qq6:CN=100000:=(rfl)
attribute [go_sem] xp ka yZ x8 QG jE zK zP
@[go_sem] theorem qvz {n:Nat} {σ:Sl}:QA n [] σ []=qbH n [] (xp σ) (ka σ):=by rw [qjB];simp only [yN,List.append_nil]
section nm
variable {t i j d e n lo len:Nat} {k k':Key} {x:V} {xs:List V} {bx tb:List Key} {r:Sl} {M:Mem} {τ nm:Bool} {u:Int} {l:List UInt8} {fn:Fn} {ys:List V}
@[go_sem] theorem qvp:yI []=[]:=(rfl)
def yH(x:V) (r:List Key):List Key:=match x with| .p k _ _=>k::r|_=>r
@[go_sem] theorem qvo:yI ((t,x)::r)=yH x (yI r):=by cases x<;>rfl
@[go_sem] theorem qvj {r:List Key}:yH (.p k i j) r=k::r:=(rfl)
@[go_sem] theorem qvl {r:List Key}:yH (.s k i j) r=r:=(rfl)
@[go_sem] theorem qu9 {r:List Key}:yH (I u) r=r:=(rfl)
@[go_sem] theorem qu7 {b:Bool} {r:List Key}:yH (B b) r=r:=(rfl)
@[go_sem] theorem qva {r:List Key}:yH (S l) r=r:=(rfl)
@[go_sem] theorem qvc {r:List Key}:yH (U8 u) r=r:=(rfl)
@[go_sem] theorem qvb {r:List Key}:yH (U32 u) r=r:=(rfl)
@[go_sem] theorem qvg {r:List Key}:yH (.i τ xs) r=r:=(rfl)
@[go_sem] theorem qvk {r:List Key}:yH (.q τ xs i j) r=r:=(rfl)
@[go_sem] theorem qvi {r:List Key}:yH (.o e xs) r=r:=(rfl)
@[go_sem] theorem qvh {r:List Key}:yH (.n e) r=r:=(rfl)
@[go_sem] theorem qvd {r:List Key}:yH (.a xs) r=r:=(rfl)
@[go_sem] theorem qvm {r:List Key}:yH (.t xs) r=r:=(rfl)
@[go_sem] theorem qvf {r:List Key}:yH (.f fn xs ys) r=r:=(rfl)
@[go_sem] theorem qve {r:List Key}:yH .d r=r:=(rfl)
@[go_sem] theorem qvn {r:List Key}:yH ye r=r:=(rfl)
@[go_sem] theorem qu8 {g:Nat} {r:List Key}:yH (Fc g) r=r:=(rfl)
@[go_sem] theorem qxv:qbU (some (e,[x]))=yK x:=(rfl)
@[go_sem] theorem qxu:qbU none=[]:=(rfl)
@[go_sem] theorem qBx:qK d i nm (I u)=I u:=(rfl)
@[go_sem] theorem qBv {b:Bool}:qK d i nm (B b)=B b:=(rfl)
@[go_sem] theorem qBy:qK d i nm (S l)=S l:=(rfl)
@[go_sem] theorem qBA:qK d i nm (U8 u)=U8 u:=(rfl)
@[go_sem] theorem qBz:qK d i nm (U32 u)=U32 u:=(rfl)
@[go_sem] theorem qBO:qK d i nm ye=ye:=(rfl)
@[go_sem] theorem qBw {g:Nat}:qK d i nm (Fc g)=Fc g:=(rfl)
@[go_sem] theorem qBF:qK d i nm (.i τ xs)= .i τ xs:=(rfl)
@[go_sem] theorem qBL:qK d i nm (.q τ xs lo len)= .q τ xs lo len:=(rfl)
@[go_sem] theorem qBJ:qK d i nm (.o e xs)= .o e xs:=(rfl)
@[go_sem] theorem qBC:qK d i nm (.b x)= .b x:=(rfl)
@[go_sem] theorem qBD:qK d i nm .d= .d:=(rfl)
@[go_sem] theorem qBH:qK d i true (.n e)= .s (d,i) 0 0:=(rfl)
@[go_sem] theorem qBI:qK d i false (.n e)= .n e:=(rfl)
@[go_sem] theorem qBK:qK d i nm (.p k lo len)=if NB≤k.1 then .d else .p k lo len:=(rfl)
@[go_sem] theorem qBM:qK d i nm (.s k lo len)=if NB≤k.1 then .d else .s k lo len:=(rfl)
@[go_sem] theorem qBE:qK d i nm (.f fn xs ys)= .f fn (zK d i false xs) (zK d i false ys):=(rfl)
@[go_sem] theorem qBB:qK d i nm (.a xs)= .a (zK d i nm xs):=(rfl)
@[go_sem] theorem qBN:qK d i nm (.t xs)= .t (zK d i false xs):=(rfl)
def xq(d i:Nat) (x:V):Mem:=match x with| .n e=>[((d,i),e,[])]|_=>[]
@[go_sem] theorem qBk:jx d i []=[]:=(rfl)
@[go_sem] theorem qBj:jx d i (x::xs)=xq d i x++jx d (i+1) xs:=by cases x<;>rfl
@[go_sem] theorem qBZ:xq d i (.n e)=[((d,i),e,[])]:=(rfl)
@[go_sem] theorem qBR:xq d i (I u)=[]:=(rfl)
@[go_sem] theorem qBQ {b:Bool}:xq d i (B b)=[]:=(rfl)
@[go_sem] theorem qBS:xq d i (S l)=[]:=(rfl)
@[go_sem] theorem qBU:xq d i (U8 u)=[]:=(rfl)
@[go_sem] theorem qBT:xq d i (U32 u)=[]:=(rfl)
@[go_sem] theorem qBY:xq d i (.i τ xs)=[]:=(rfl)
@[go_sem] theorem qB0:xq d i (.o e xs)=[]:=(rfl)
@[go_sem] theorem qB3:xq d i (.s k lo len)=[]:=(rfl)
@[go_sem] theorem qB1:xq d i (.p k lo len)=[]:=(rfl)
@[go_sem] theorem qB2:xq d i (.q τ xs lo len)=[]:=(rfl)
@[go_sem] theorem qBV:xq d i (.b x)=[]:=(rfl)
@[go_sem] theorem qBX:xq d i (.f fn xs ys)=[]:=(rfl)
@[go_sem] theorem qBW:xq d i .d=[]:=(rfl)
@[go_sem] theorem qB6:yb d i (I u)=[]:=(rfl)
@[go_sem] theorem qB4 {b:Bool}:yb d i (B b)=[]:=(rfl)
@[go_sem] theorem qB7:yb d i (S l)=[]:=(rfl)
@[go_sem] theorem qB9:yb d i (U8 u)=[]:=(rfl)
@[go_sem] theorem qB8:yb d i (U32 u)=[]:=(rfl)
@[go_sem] theorem qCl:yb d i ye=[]:=(rfl)
@[go_sem] theorem qB5 {g:Nat}:yb d i (Fc g)=[]:=(rfl)
@[go_sem] theorem qCe:yb d i (.i τ xs)=[]:=(rfl)
@[go_sem] theorem qCg:yb d i (.o e xs)=[]:=(rfl)
@[go_sem] theorem qCj:yb d i (.s k lo len)=[]:=(rfl)
@[go_sem] theorem qCh:yb d i (.p k lo len)=[]:=(rfl)
@[go_sem] theorem qCi:yb d i (.q τ xs lo len)=[]:=(rfl)
@[go_sem] theorem qCb:yb d i (.b x)=[]:=(rfl)
@[go_sem] theorem qCd:yb d i (.f fn xs ys)=[]:=(rfl)
@[go_sem] theorem qCk:yb d i (.t xs)=[]:=(rfl)
@[go_sem] theorem qCc:yb d i .d=[]:=(rfl)
@[go_sem] theorem qCf:yb d i (.n e)=[((d,i),e,[])]:=(rfl)
@[go_sem] theorem qCa:yb d i (.a xs)=jx d i xs:=(rfl)
def qbQ(xs:List V):List V:=zA (qx xs) xs (zK 0 0 false xs)
@[go_sem] theorem qwU:qbQ xs=zA (qx xs) xs (zK 0 0 false xs):=(rfl)
@[go_sem] theorem qBr:x9 d i true [x]=[qK d i true x]:=(rfl)
@[go_sem] theorem qBs:x9 d i false xs=qbQ xs:=by
 unfold x9 qbQ zA
 split
 ·simp only [Bool.false_eq_true,if_false,qx,Bool.and_true,zK]
 ·rfl
@[go_sem] theorem qBp:ZF d i true [x]=yb d i x:=(rfl)
@[go_sem] theorem qBq:ZF d i false xs=[]:=by unfold ZF;split<;>rfl
@[go_sem] theorem qBu:yN bx []=[]:=(rfl)
@[go_sem] theorem qBt {ob:Ob}:yN bx ((k,ob)::M)=if NB≤k.1 then yN bx M else ZF (2*NB+k.1) (10*k.2) (y6 k bx) ob.2++(k,ob.1,x9 (2*NB+k.1) (10*k.2) (y6 k bx) ob.2)::yN bx M:=(rfl)
def qaL(o:Option Nat) (k:Key):Option Key:=match o with|some i=>some (CN,i)|none=>if k.1=CN then none else some k
@[go_sem] theorem qEn:xh tb k=qaL (QG k 0 tb) k:=by unfold xh qaL;cases QG k 0 tb<;>rfl
@[go_sem] theorem qEm:qaL (some i) k=some (CN,i):=(rfl)
@[go_sem] theorem qEl:qaL none k=if k.1=CN then none else some k:=(rfl)
def sOf(o:Option Key) (a b:Nat):V:=match o with|some k=> .s k a b|none=> .d
def pOf(o:Option Key) (a b:Nat):V:=match o with|some k=> .p k a b|none=> .d
@[go_sem] theorem qFE:sOf (some k) i j= .s k i j:=(rfl)
@[go_sem] theorem qDY:pOf (some k) i j= .p k i j:=(rfl)
@[go_sem] theorem qFD:sOf none i j= .d:=(rfl)
@[go_sem] theorem qDX:pOf none i j= .d:=(rfl)
@[go_sem] theorem qEI:qQ tb (.s k i j)=sOf (xh tb k) i j:=by simp only [qQ,sOf];cases xh tb k<;>rfl
@[go_sem] theorem qEG:qQ tb (.p k i j)=pOf (xh tb k) i j:=by simp only [qQ,pOf];cases xh tb k<;>rfl
@[go_sem] theorem qEu:qQ tb (I u)=I u:=(rfl)
@[go_sem] theorem qEs {b:Bool}:qQ tb (B b)=B b:=(rfl)
@[go_sem] theorem qEv:qQ tb (S l)=S l:=(rfl)
@[go_sem] theorem qEx:qQ tb (U8 u)=U8 u:=(rfl)
@[go_sem] theorem qEw:qQ tb (U32 u)=U32 u:=(rfl)
@[go_sem] theorem qEK:qQ tb ye=ye:=(rfl)
@[go_sem] theorem qEt {g:Nat}:qQ tb (Fc g)=Fc g:=(rfl)
@[go_sem] theorem qEC:qQ tb (.i τ xs)= .i τ xs:=(rfl)
@[go_sem] theorem qEH:qQ tb (.q τ xs i j)= .q τ xs i j:=(rfl)
@[go_sem] theorem qEF:qQ tb (.o e xs)= .o e xs:=(rfl)
@[go_sem] theorem qEz:qQ tb (.b x)= .b x:=(rfl)
@[go_sem] theorem qEE:qQ tb (.n e)= .n e:=(rfl)
@[go_sem] theorem qEA:qQ tb .d= .d:=(rfl)
@[go_sem] theorem qEB:qQ tb (.f fn xs ys)= .f fn (zP tb xs) (zP tb ys):=(rfl)
@[go_sem] theorem qEy:qQ tb (.a xs)= .a (zP tb xs):=(rfl)
@[go_sem] theorem qEJ:qQ tb (.t xs)= .t (zP tb xs):=(rfl)
def qaM(o:Option Key) (e:Nat) (xs:List V) (r:Mem):Mem:=match o with|some k=>(k,e,xs)::r|none=>r
@[go_sem] theorem qEp {r:Mem}:qaM (some k) e xs r=(k,e,xs)::r:=(rfl)
@[go_sem] theorem qEo {r:Mem}:qaM none e xs r=r:=(rfl)
@[go_sem] theorem qEr:kH tb []=[]:=(rfl)
@[go_sem] theorem qEq {ob:Ob}:kH tb ((k,ob)::M)=qaM (xh tb k) ob.1 (zA (qx ob.2) ob.2 (zP tb ob.2)) (kH tb M):=by
 obtain ⟨e,xs⟩:=ob
 simp only [kH,qaM,zA]
 cases xh tb k<;>rfl
end nm
attribute [go_sem] yK YG y4 y6 qcH qic List.reverse_cons List.reverse_nil
@[go_sem] theorem qxy {n:Int}:yK (I n)=[]:=(rfl)
@[go_sem] theorem qxw {b:Bool}:yK (B b)=[]:=(rfl)
@[go_sem] theorem qxz {l:List UInt8}:yK (S l)=[]:=(rfl)
@[go_sem] theorem qxB {n:Int}:yK (U8 n)=[]:=(rfl)
@[go_sem] theorem qxA {n:Int}:yK (U32 n)=[]:=(rfl)
@[go_sem] theorem qxx {g:Nat}:yK (Fc g)=[]:=(rfl)
@[go_sem] theorem qxC:yK ye=[]:=(rfl)
def qaP(T:Mem) (k:Key) (ob:Option Ob):Mem:=
 match ob with
 |none=>T
 |some ob=>zA (qx ob.2) (kd k ob (qy T k)) T
@[go_sem] theorem qFx {k:Key}:qdb T k=qaP T k (qp T k):=by
 unfold qdb qaP zA;cases qp T k<;>rfl
@[go_sem] theorem qFv {k:Key}:qaP T k none=T:=(rfl)
@[go_sem] theorem qFw {k:Key} {ob:Ob}:qaP T k (some ob)=zA (qx ob.2) (kd k ob (qy T k)) T:=(rfl)
def qaz(d:Nat) (k:Key) (i:Nat) (σ:Sl) (T:Mem) (ob:Option Ob):St:=
 match ob with
 |some ob=>(match ob.2[i]? with
  |some x=>⟨σ,(qL d 0 x).2.2++((k,ob.1,ob.2.set i (qL d 0 x).1)::qy T k)⟩
  |none=>⟨σ,T⟩)
 |none=>⟨σ,T⟩
def qg1(d:Nat) (k:Key) (i:Nat) (σ:Sl) (T:Mem) (ob:Ob) (x:Option V):St:=
 match x with
 |some x=>⟨σ,(qL d 0 x).2.2++((k,ob.1,ob.2.set i (qL d 0 x).1)::qy T k)⟩
 |none=>⟨σ,T⟩
def KP(d:Nat) (v:Option V):List (Nat × Key × Nat):=
 match v with
 |some (.p k idx _)=>[(d,k,idx)]
 |_=>[]
def YH(d:Nat) (v w:Option V):List (Nat × Key × Nat):=
 match v with
 |some (.p k idx _)=>[(d,k,idx)]
 |some (.s k lo _)=>match w with
  |some (.v (.int _ n))=>[(d,k,lo+n.toNat)]
  |_=>[]
 |_=>[]
@[congr] theorem qyn {d:Nat} {v v':Option V} (h:v=v'):KP d v=KP d v':=by rw [h]
@[congr] theorem qyi {d:Nat} {v v' w w':Option V} (h:v=v') (h':w=w'):YH d v w=YH d v' w':=by rw [h,h']
@[go_sem] theorem qyl {d r:Nat}:jV σ d r none=KP d (qz σ r):=by
 unfold jV KP
 cases qz σ r with
 |none=>rfl
 |some v=>cases v<;>rfl
@[go_sem] theorem qym {d r i:Nat}:jV σ d r (some i)=YH d (qz σ r) (qz σ i):=by
 unfold jV YH
 cases qz σ r with
 |none=>rfl
 |some v=>cases v<;>rfl
@[go_sem] theorem qyo {d a b:Nat} {k:Key}:KP d (some (.p k a b))=[(d,k,a)]:=(rfl)
@[go_sem] theorem qyj {d a b:Nat} {k:Key} {w:Option V}:YH d (some (.p k a b)) w=[(d,k,a)]:=(rfl)
@[go_sem] theorem qyk {d a b:Nat} {k:Key} {n:Int}:YH d (some (.s k a b)) (some (I n))=[(d,k,a+n.toNat)]:=(rfl)
@[go_sem] theorem qC4:QL [] st=st:=(rfl)
@[go_sem] theorem qC3 {d r:Nat} {i:Option Nat} {os:List (Nat × Nat × Option Nat)}:QL ((d,r,i)::os) ⟨σ,T⟩=QL os (jA (jV σ d r i) ⟨σ,T⟩):=(rfl)
@[go_sem] theorem qDK:jA [] st=st:=(rfl)
@[go_sem] theorem qDJ {d i:Nat} {k:Key} {r:List (Nat × Key × Nat)}:jA ((d,k,i)::r) ⟨σ,T⟩=jA r (YW d k i ⟨y9 d σ,wT d T⟩):=(rfl)
@[go_sem] theorem qDN {d i:Nat} {k:Key}:YW d k i ⟨σ,T⟩=qaz d k i σ T (qp T k):=by
 unfold YW qaz;simp only;cases qp T k<;>rfl
@[go_sem] theorem qDM {d i:Nat} {k:Key} {ob:Ob}:qaz d k i σ T (some ob)=qg1 d k i σ T ob ob.2[i]? :=(rfl)
@[go_sem] theorem qDL {d i:Nat} {k:Key}:qaz d k i σ T none=⟨σ,T⟩:=(rfl)
@[go_sem] theorem qDO {d i:Nat} {k:Key} {ob:Ob} {x:V}:qg1 d k i σ T ob (some x)=⟨σ,(qL d 0 x).2.2++((k,ob.1,ob.2.set i (qL d 0 x).1)::qy T k)⟩:=(rfl)
structure Lp where
 ls:List Nat
 ks:List Key
 body:AC
def lpC(l:Lp):AC:= .loop l.ls l.ks l.body
noncomputable def lw(prog:Nat→Option AE) (l:Lp) (s:St):Option (AX × St):=xX (xw prog l.body s) fun st'=>xw prog (lpC l) st'
@[go_sem] theorem qqD {l:Lp}:xw prog (lpC l) st=lw prog l (xx l.ls l.ks st):=by
 unfold lw lpC;exact qqC
theorem qq(l:Lp) (s:St):lw prog l s=xX (xw prog l.body s) fun st'=>lw prog l (xx l.ls l.ks st'):=by
 unfold lw
 congr 1
 funext st'
 rw [qqD];rfl
def qaN(T:Mem) (k:Key) (agg:Bool) (size:Nat) (ob:Option Ob):Option (V × Mem):=
 match ob with
 |some (_,[x])=>(qT agg size x 0).bind fun y=>if x.cells.length=y.cells.length then some (y,qy T k)else none
 |_=>none
def KG {α:Type} (r:Option (V × Mem)) (k:V→Mem→Option α):Option α:=
 match r with
 |some (x,T)=>k x T
 |none=>none
@[congr] theorem quQ {α:Type} {r r':Option (V × Mem)} {k:V→Mem→Option α} (h:r=r'):KG r k=KG r' k:=by rw [h]
@[go_sem] theorem quR {α:Type} {z:V} {k:V→Mem→Option α}:KG (some (z,T)) k=k z T:=(rfl)
@[go_sem] theorem qFt {t:Nat}:jF ⟨σ,T⟩ (.tmp t)=qn (qz σ t) fun x=>some (x,T):=by
 simp only [jF];cases qz σ t<;>rfl
def qcS(x:V) (k:Key→Option (V × Mem)):Option (V × Mem):=
 match x with
 | .p k' 0 0=>k k'
 |_=>none
@[go_sem] theorem qEi {k':Key} {k:Key→Option (V × Mem)}:qcS (.p k' 0 0) k=k k':=(rfl)
@[go_sem] theorem qFs {t size:Nat} {agg:Bool}:jF ⟨σ,T⟩ (.cell t agg size)=qn (qz σ t) fun x=>qcS x fun k=>qaN T k agg size (qp T k):=by
 simp only [jF]
 cases qz σ t with
 |none=>rfl
 |some x=>
  cases x<;>first|rfl|skip
  rename_i k idx off
  cases idx with
  |succ=>rfl
  |zero=>cases off with
   |succ=>rfl
   |zero=>
    simp only [qn,qcS,qaN]
    cases qp T k with
    |none=>rfl
    |some ob=>obtain ⟨e,xs⟩:=ob;rcases xs with _|⟨x,_|⟨y,r⟩⟩<;>rfl
@[go_sem] theorem qFp {k:Key} {agg:Bool} {e size:Nat} {z:V}:qaN T k agg size (some (e,[z]))=qn (qT agg size z 0) fun y=>if z.cells.length=y.cells.length then some (y,qy T k)else none:=by
 simp only [qaN];cases qT agg size z 0<;>rfl
@[go_sem] theorem qFr:xO σ T []=some ([],T):=(rfl)
@[go_sem] theorem qFq {r:AR} {rs:List AR}:xO σ T (r::rs)=KG (jF ⟨σ,T⟩ r) fun x T'=>Zo (xO σ T' rs) fun xs T''=>some (x::xs,T''):=by
 simp only [xO]
 cases jF ⟨σ,T⟩ r with
 |none=>rfl
 |some xT=>obtain ⟨x,T'⟩:=xT;simp only [KG];cases xO σ T' rs<;>rfl
@[go_sem] theorem qCK {z:V}:kC [z]=z:=(rfl)
@[go_sem] theorem qCL {z z':V} {zs:List V}:kC (z::z'::zs)= .t (z::z'::zs):=(rfl)
@[go_sem] theorem qCJ:kC []= .t []:=(rfl)
attribute [go_sem] za yQ qjx Option.some_beq_none Option.some_beq_some Option.none_beq_some
attribute [go_sem] Bool.true_and Bool.and_true Bool.false_and Bool.and_false Bool.not_true Bool.not_false Bool.or_true Bool.true_or Bool.or_false Bool.false_or if_true if_false
 decide_true decide_false decide_eq_true_eq ne_eq not_true_eq_false not_false_eq_true and_self and_true true_and and_false false_and beq_self_eq_true Bool.not_eq_eq_eq_not Bool.false_eq_true decide_not ite_not Bool.not_not
 eq_self Prod.mk.injEq List.contains_nil List.contains_cons Option.isNone_none Option.isNone_some
end
end Go.Vm
namespace Go.Vm
section
variable {prog:Nat→Option AE} {st:St} {σ:Sl} {T:Mem} {call:Call} {d j e lo:Nat} {k:Key} {es:List (Int × Int)} {τ:Bool} {n u:Int} {o:Option Bool} {tb:List Key} {nm:Bool}
def xr {α:Type} (x:V) (g:Int→Option α):Option α:=
 match x with
 | .v (.int .i64 n)=>g n
 |_=>none
@[go_sem] theorem qCI {α:Type} {g:Int→Option α}:xr (I n) g=g n:=(rfl)
def jm {α:Type} (r:Option (List (Int × Int))) (g:List (Int × Int)→Option α):Option α:=
 match r with
 |some es=>g es
 |none=>none
@[congr] theorem quy {α:Type} {r r':Option (List (Int × Int))} {g:List (Int × Int)→Option α} (h:r=r'):jm r g=jm r' g:=by rw [h]
@[go_sem] theorem quz {α:Type} {g:List (Int × Int)→Option α}:jm (some es) g=g es:=(rfl)
def qe5(ob:Option Ob):Option (List (Int × Int)):=
 match ob with
 |some (_,[.w _ es])=>some es
 |_=>none
@[go_sem] theorem qyC:qe5 (some (e,[.w o es]))=some es:=(rfl)
@[go_sem] theorem qyA:yL T (.m k)=qe5 (qp T k):=(rfl)
@[go_sem] theorem qyB:yL T (.w (some τ) es)=some es:=(rfl)
def qis(T:Mem) (k:Key) (ob:Option Ob) (es:List (Int × Int)):Option Mem:=
 match ob with
 |some _=>some ((k,0,[.w (some true) es])::qy T k)
 |none=>none
@[go_sem] theorem qFI {ob:Ob}:qis T k (some ob) es=some ((k,0,[.w (some true) es])::qy T k):=(rfl)
@[go_sem] theorem qFH:kI T (.m k) es=qis T k (qp T k) es:=(rfl)
@[go_sem] theorem qzg:ql call ⟨σ,T⟩ (.mkm d)=some ⟨(d,.m (d,0))::y9 d σ,((d,0),0,[.w (some true) []])::wT d T⟩:=(rfl)
@[go_sem] theorem qzi {m k v:AO}:ql call ⟨σ,T⟩ (.mset m k v)=qn (ev σ m) fun m=>qn (ev σ k) fun k=>qn (ev σ v) fun v=>xr k fun k=>xr v fun v=>jm (yL T m) fun es=>jT (kI T m (yc k v es)) fun T'=>some ⟨σ,T'⟩:=by
 simp only [ql,qi]
 cases ev σ m with
 |none=>rfl
 |some m=>
 cases ev σ k with
 |none=>rfl
 |some k=>
 cases ev σ v with
 |none=>simp only [qn]
 |some v=>
 simp only [qn]
 split
 ·rename_i h1 h2 h3
  simp only [Option.some.injEq]at h1 h2 h3;subst h1;subst h2;subst h3
  simp only [xr]
  cases yL T m with
  |none=>rfl
  |some es=>simp only [jm];cases kI T m _<;>rfl
 ·rename_i h
  unfold xr
  split
  ·split
   ·exact absurd rfl (h _ _ _ rfl rfl)
   ·rfl
  ·rfl
@[go_sem] theorem qze {m k:AO}:ql call ⟨σ,T⟩ (.mget d m k)=qn (ev σ m) fun m=>qn (ev σ k) fun k=>xr k fun k=>jm (yL T m) fun es=>some ⟨(d,I ((zl k es).getD 0))::σ,T⟩:=by
 simp only [ql,qi]
 cases ev σ m with
 |none=>rfl
 |some m=>
 cases ev σ k with
 |none=>rfl
 |some k=>
 simp only [qn]
 split
 ·rename_i h1 h2
  simp only [Option.some.injEq]at h1 h2;subst h1;subst h2
  simp only [xr]
  cases yL T m<;>rfl
 ·rename_i h
  unfold xr
  split
  ·exact absurd rfl (h _ _ rfl)
  ·rfl
@[go_sem] theorem qzc {m k:AO}:ql call ⟨σ,T⟩ (.men d m k)=qn (ev σ m) fun m=>qn (ev σ k) fun k=>xr k fun k=>jm (yL T m) fun es=>jT (kI T m (yc k ((zl k es).getD 0) es)) fun T'=>some ⟨(d,.t [I ((zl k es).getD 0),I (zi k es)])::σ,T'⟩:=by
 simp only [ql,qi]
 cases ev σ m with
 |none=>rfl
 |some m=>
 cases ev σ k with
 |none=>rfl
 |some k=>
 simp only [qn]
 split
 ·rename_i h1 h2
  simp only [Option.some.injEq]at h1 h2;subst h1;subst h2
  simp only [xr]
  cases yL T m with
  |none=>rfl
  |some es=>simp only [jm];cases kI T m _<;>rfl
 ·rename_i h
  unfold xr
  split
  ·exact absurd rfl (h _ _ rfl)
  ·rfl
def KT {α:Type} (i:Option Nat) (g:Nat→Option α):Option α:=
 match i with
 |some i=>g i
 |none=>none
@[congr] theorem qzB {α:Type} {i i':Option Nat} {g:Nat→Option α} (h:i=i'):KT i g=KT i' g:=by rw [h]
@[go_sem] theorem qzC {α:Type} {i:Nat} {g:Nat→Option α}:KT (some i) g=g i:=(rfl)
@[go_sem] theorem qzd {m k v:AO}:ql call ⟨σ,T⟩ (.mes m k v)=qn (ev σ m) fun m=>qn (ev σ k) fun k=>qn (ev σ v) fun v=>xr k fun s=>xr v fun v=>jm (yL T m) fun es=>KT (zS s es.length) fun i=>jT (kI T m (es.modify i fun e=>(e.1,v))) fun T'=>some ⟨σ,T'⟩:=by
 simp only [ql,qi]
 cases ev σ m with
 |none=>rfl
 |some m=>
 cases ev σ k with
 |none=>rfl
 |some k=>
 cases ev σ v with
 |none=>simp only [qn]
 |some v=>
 simp only [qn]
 split
 ·rename_i h1 h2 h3
  simp only [Option.some.injEq]at h1 h2 h3;subst h1;subst h2;subst h3
  simp only [xr]
  cases yL T m with
  |none=>rfl
  |some es=>
   simp only [jm]
   cases zS _ es.length with
   |none=>rfl
   |some i=>simp only [KT];cases kI T m _<;>rfl
 ·rename_i h
  unfold xr
  split
  ·split
   ·exact absurd rfl (h _ _ _ rfl rfl)
   ·rfl
  ·rfl
theorem qgt(k v w:Int): ∀ (es:List (Int × Int)),(yc k w es).modify (zi k es) (fun e=>(e.1,v))=yc k v es
 |[]=>rfl
 |(a,b)::r=>by
  simp only [yc,zi]
  split
  ·rfl
  ·simp only [List.modify_succ_cons,qgt k v w r]
theorem qhf(k w:Int): ∀ (es:List (Int × Int)),zi k es < (yc k w es).length
 |[]=>by simp [yc,zi]
 |(a,b)::r=>by
  simp only [yc,zi]
  split
  ·simp
  ·have:=qhf k w r;simp only [List.length_cons];omega
theorem qkj(k w:Int) (es:List (Int × Int)):zS (zi k es:Int) (yc k w es).length=some (zi k es):=by
 have:=qhf k w es
 unfold zS
 rw [if_pos ⟨by omega,by omega⟩];simp
attribute [go_sem] qgt qkj
@[go_sem] theorem qtv:qi call ⟨σ,T⟩ (.mkm d)=ql call ⟨σ,T⟩ (.mkm d):=(rfl)
@[go_sem] theorem qtx {m k v:AO}:qi call ⟨σ,T⟩ (.mset m k v)=ql call ⟨σ,T⟩ (.mset m k v):=(rfl)
@[go_sem] theorem qtt {m k:AO}:qi call ⟨σ,T⟩ (.mget d m k)=ql call ⟨σ,T⟩ (.mget d m k):=(rfl)
@[go_sem] theorem qtr {m k:AO}:qi call ⟨σ,T⟩ (.men d m k)=ql call ⟨σ,T⟩ (.men d m k):=(rfl)
@[go_sem] theorem qts {m k v:AO}:qi call ⟨σ,T⟩ (.mes m k v)=ql call ⟨σ,T⟩ (.mes m k v):=(rfl)
@[go_sem] theorem qvQ:(V.m k).cells=[V.m k]:=(rfl)
@[go_sem] theorem qvY:(V.w o es).cells=[V.w o es]:=(rfl)
@[go_sem] theorem qCW:(V.m k).one=true:=(rfl)
@[go_sem] theorem qC2:(V.w o es).one=true:=(rfl)
@[go_sem] theorem qzT:(V.m k).isA=false:=(rfl)
@[go_sem] theorem qzX:(V.w o es).isA=false:=(rfl)
@[go_sem] theorem qDD:zj d j (.m k)=(.m k,j,[]):=(rfl)
@[go_sem] theorem qDH:zj d j (.w none es)=(.m (d,j),j+1,[((d,j),0,[.w (some true) es])]):=(rfl)
@[go_sem] theorem qDI:zj d j (.w (some τ) es)=(.w (some τ) es,j,[]):=(rfl)
def mK(T':Mem) (ob:Option Ob) (T:Mem):V × Mem:=
 match ob with
 |some (_,[.w _ es])=>(.w none es,T')
 |_=>(.d,T)
@[go_sem] theorem qAZ {T':Mem}:mK T' (some (e,[.w o es])) T=(.w none es,T'):=(rfl)
@[go_sem] theorem qwE {m:Nat}:qu (m+1) T (.m k)=mK (qy T k) (qp T k) T:=(rfl)
@[go_sem] theorem qwL {m:Nat}:qu (m+1) T (.w o es)=(.w o es,T):=(rfl)
@[go_sem] theorem qBG {i:Nat}:qK d i nm (.m k)=if NB≤k.1 then .d else .m k:=(rfl)
@[go_sem] theorem qBP {i:Nat}:qK d i nm (.w o es)= .w o es:=(rfl)
def mOf(o:Option Key):V:=match o with|some k=> .m k|none=> .d
@[congr] theorem qA0 {o o':Option Key} (h:o=o'):mOf o=mOf o':=by rw [h]
@[go_sem] theorem qA1:mOf (some k)= .m k:=(rfl)
@[go_sem] theorem qED:qQ tb (.m k)=mOf (xh tb k):=by simp only [qQ,mOf];cases xh tb k<;>rfl
@[go_sem] theorem qEL:qQ tb (.w o es)= .w o es:=(rfl)
@[go_sem] theorem qAM {n:Nat}:qT false n (.m k) 0=some (.m k):=(rfl)
@[go_sem] theorem qAQ {n:Nat}:qT false n (.w o es) 0=some (.w o es):=(rfl)
end
end Go.Vm
namespace Go.Vm
abbrev Str:=List UInt8
theorem QD {α:Type} {l:List α} {i:Nat} {x:α} (h:l[i]? =some x):l.drop i=x::l.drop (i+1):=by
 obtain ⟨hl,rfl⟩:=List.getElem?_eq_some_iff.1 h
 exact List.drop_eq_getElem_cons hl
theorem z6 {α:Type} {l:List α} {i:Nat} (h:i < l.length): ∃ x,l[i]? =some x:=⟨_,List.getElem?_eq_getElem h⟩
def RL {α:Type} (R:α→V→Prop):List α→List V→Prop
 |[],vs=>vs=[]
 |t::ts,vs=> ∃ v vs',vs=v::vs'∧R t v∧RL R ts vs'
section
variable {α:Type} {R R':α→V→Prop}
theorem Kv: ∀ {ts:List α} {vs:List V},RL R ts vs→vs.length=ts.length
 |[],vs,h=>by simp only [RL]at h;simp [h]
 |t::ts,vs,h=>by
  simp only [RL]at h
  obtain ⟨v,vs',rfl,-,h⟩:=h
  simp [Kv h]
theorem qdP: ∀ {ts:List α} {vs:List V} {i:Nat} {t:α},RL R ts vs→ts[i]? =some t→ ∃ v,vs[i]? =some v∧R t v
 |[],vs,i,t,h,ht=>by simp at ht
 |t'::ts,vs,i,t,h,ht=>by
  simp only [RL]at h
  obtain ⟨v,vs',rfl,h1,h2⟩:=h
  cases i with
  |zero=>simp at ht;subst ht;exact ⟨v,rfl,h1⟩
  |succ i=>simpa using qdP h2 (by simpa using ht)
theorem qdO {f:α→V} (h: ∀ t v,R t v→v=f t): ∀ {ts:List α} {vs:List V},RL R ts vs→vs=ts.map f
 |[],vs,hv=>hv
 |t::ts,vs,hv=>by
  simp only [RL]at hv
  obtain ⟨v,vs',rfl,h1,h2⟩:=hv
  rw [h t v h1,qdO h h2,List.map_cons]
end
def RI(n:Int) (v:V):Prop:=v=I n
def RS(s:Str) (v:V):Prop:=v=S s
mutual
theorem qfV(d:Nat): ∀ (x:V),clB x=true→qJ d x=x
 | .v _,_| .q ..,_| .i ..,_| .o ..,_| .b _,_| .n _,_| .w ..,_=>rfl
 | .f fn first caps,h=>by
   simp only [clB,Bool.and_eq_true]at h
   simp only [qJ,qaa d first h.1,qaa d caps h.2]
 | .p ..,h| .s ..,h| .a _,h| .t _,h| .m _,h| .d,h=>by simp [clB]at h
theorem qaa(d:Nat): ∀ (xs:List V),y0 xs=true→qA d xs=xs
 |[],_=>rfl
 |x::xs,h=>by
  simp only [y0,Bool.and_eq_true]at h
  simp only [qA,qfV d x h.1,qaa d xs h.2]
end
theorem qcp(d:Nat) (x:V) (h:clE x=true):qJ d x=x:=by
 cases x
 case a cs=>simp only [clE]at h;simp only [qJ,qaa d cs h]
 all_goals exact qfV d _ h
theorem J9(d:Nat): ∀ (xs:List V),qx xs=true→qA d xs=xs
 |[],_=>rfl
 |x::xs,h=>by
  simp only [qx,Bool.and_eq_true]at h
  simp only [qA,qcp d x h.1,J9 d xs h.2]
theorem qeH: ∀ (xs ys:List V),qx (xs++ys)=(qx xs&&qx ys)
 |[],ys=>by simp [qx]
 |x::xs,ys=>by simp only [List.cons_append,qx,qeH xs ys,Bool.and_assoc]
theorem qfO(d:Nat): ∀ (xs ys:List V),qA d (xs++ys)=qA d xs++qA d ys
 |[],ys=>rfl
 |x::xs,ys=>by simp only [List.cons_append,qA,qfO d xs ys]
theorem qeO(τ:Bool): ∀ (xs ys:List V),qY τ (xs++ys)=qY τ xs++qY τ ys
 |[],ys=>rfl
 |x::xs,ys=>by simp only [List.cons_append,qY,qeO τ xs ys]
theorem YE(n:Nat) (z:V) (h:clE z=true):qx (List.replicate n z)=true:=by
 induction n with
 |zero=>rfl
 |succ n ih=>simp only [List.replicate_succ,qx,h,ih,Bool.and_self]
theorem qco(d n:Nat) (z:V) (h:clE z=true):qA d (List.replicate n z)=List.replicate n z:=J9 d _ (YE n z h)
section
variable {α:Type} {f:α→V}
theorem kq(h: ∀ x,clE (f x)=true): ∀ (l:List α),qx (l.map f)=true
 |[]=>rfl
 |x::l=>by simp only [List.map_cons,qx,h x,kq h l,Bool.and_self]
theorem kZ(h: ∀ x,clE (f x)=true) (d:Nat) (l:List α):qA d (l.map f)=l.map f:=J9 d _ (kq h l)
theorem kW {g:α→V} {τ:Bool} (h: ∀ x,qX τ (f x)=g x): ∀ (l:List α),qY τ (l.map f)=l.map g
 |[]=>rfl
 |x::l=>by simp only [List.map_cons,qY,h x,kW h l]
theorem yV(h: ∀ x,qW (f x)=true): ∀ (l:List α),zg (l.map f)=true
 |[]=>rfl
 |x::l=>by simp only [List.map_cons,zg,h x,yV h l,Bool.and_self]
theorem JQ {e:Nat} (h: ∀ x,ym (f x).cells=true∧(f x).cells.length=e): ∀ (l:List α),kT e (l.map f)=true
 |[]=>rfl
 |x::l=>by simp only [List.map_cons,kT,(h x).1,(h x).2,JQ h l,beq_self_eq_true,Bool.and_self]
theorem qa2(h: ∀ x,zb (f x)=true): ∀ (l:List α),yr (l.map f)=true
 |[]=>rfl
 |x::l=>by simp only [List.map_cons,yr,h x,qa2 h l,Bool.and_self]
theorem Ji(k:Key) (ob:Ob): ∀ (xs ys:List V),qx xs=true→zx k ob (xs++ys)=(zx k ob ys).map (xs++ ·)
 |[],ys,_=>by simp
 |x::xs,ys,h=>by
  simp only [qx,Bool.and_eq_true]at h
  have hC: ∀ (c:V),clB c=true→yq k ob c=none:=by intro c hc;cases c<;>first|rfl|(simp [clB]at hc)
  have hCs: ∀ (cs:List V),y0 cs=true→xy k ob cs=none:=by
   intro cs
   induction cs with
   |nil=>intro _;rfl
   |cons c cs ih=>
    intro h
    simp only [y0,Bool.and_eq_true]at h
    simp only [xy,hC c h.1,ih h.2,Option.map_none]
  have hE:xz k ob x=none:=by
   cases x
   case a cs=>simp only [clE]at h;simp only [xz,hCs cs h.1,Option.map_none]
   all_goals exact hC _ h.1
  simp only [List.cons_append,zx,hE,Ji k ob xs ys h.2]
  cases zx k ob ys<;>rfl
end
@[go_sem] theorem qeE(l:List Int):qx (l.map I)=true:=kq (fun _=>rfl) l
@[go_sem] theorem qeF(l:List Str):qx (l.map S)=true:=kq (fun _=>rfl) l
@[go_sem] theorem qz6(d:Nat) (l:List Int):qA d (l.map I)=l.map I:=kZ (fun _=>rfl) d l
@[go_sem] theorem qz7(d:Nat) (l:List Str):qA d (l.map S)=l.map S:=kZ (fun _=>rfl) d l
@[go_sem] theorem qwV(τ:Bool) (l:List Int):qY τ (l.map I)=l.map I:=kW (fun _=>rfl) l
@[go_sem] theorem qwW(τ:Bool) (l:List Str):qY τ (l.map S)=l.map S:=kW (fun _=>rfl) l
@[go_sem] theorem qCn(l:List Int):zg (l.map I)=true:=yV (fun _=>rfl) l
@[go_sem] theorem qCo(l:List Str):zg (l.map S)=true:=yV (fun _=>rfl) l
attribute [go_sem] qeH qfO qeO YE qco
@[go_sem] theorem qjE(n:Nat) (l:Str):qx (List.replicate n (S l))=true:=YE n _ rfl
@[go_sem] theorem qv5(n:Nat) (i:Int):qx (List.replicate n (I i))=true:=YE n _ rfl
@[go_sem] theorem qAh(d n:Nat) (l:Str):qA d (List.replicate n (S l))=List.replicate n (S l):=qco d n _ rfl
@[go_sem] theorem qAg(d n:Nat) (i:Int):qA d (List.replicate n (I i))=List.replicate n (I i):=qco d n _ rfl
attribute [go_sem] List.length_map List.length_replicate Nat.zero_add Nat.add_zero Nat.le_refl List.take_length
@[go_sem] theorem qBd {α:Type} {f:α→V} {l:List α} {x:α}:l.map f++[f x]=(l++[x]).map f:=by simp
@[go_sem] theorem qFV {α:Type} {f:α→V} {l:List α} {x:α}:((l++[x]).map f).take (l.length+1)=(l++[x]).map f:=by
 apply List.take_of_length_le;simp
@[go_sem] theorem qFU {α:Type} {f:α→V} {l:List α}:(l.map f).take l.length=l.map f:=by
 rw [← List.length_map (f:=f),List.take_length]
theorem j3(k:Key) (ob:Ob) (xs:List V) (h:qx xs=true):zx k ob xs=none:=by
 have:=Ji k ob xs [] h
 rw [List.append_nil]at this
 rw [this];rfl
@[go_sem] theorem qA2(m:Nat) (T:Mem) (l:List Int):qv (ze m) T (l.map I)=(l.map I,T):=kA m T _ (qeE l)
@[go_sem] theorem qA3(m:Nat) (T:Mem) (l:List Str):qv (ze m) T (l.map S)=(l.map S,T):=kA m T _ (qeF l)
@[go_sem] theorem qBb(m n:Nat) (T:Mem) (z:V) (h:clE z=true):qv (ze m) T (List.replicate n z)=(List.replicate n z,T):=kA m T _ (YE n z h)
@[go_sem] theorem qBc(m n:Nat) (T:Mem) (l:Str):qv (ze m) T (List.replicate n (S l))=(List.replicate n (S l),T):=kA m T _ (qjE n l)
@[go_sem] theorem qE3(k:Key) (ob:Ob) (l:List Int):zx k ob (l.map I)=none:=j3 k ob _ (qeE l)
@[go_sem] theorem qE4(k:Key) (ob:Ob) (l:List Str):zx k ob (l.map S)=none:=j3 k ob _ (qeF l)
section lit
variable {k:Key} {lo len e:Nat} {xs:List V}
theorem qfN {i:Nat} (h:i < len) (hl:lo+len≤xs.length):ixO k lo len e (i:Int) (some (e,xs))=some (.p k (lo+i) 0):=by
 simp only [ixO,zS]
 rw [if_pos ⟨trivial,hl⟩,if_pos ⟨by omega,by omega⟩]
 simp
@[go_sem] theorem qz3:ixO k lo len e 0 (some (e,xs))=if 1≤len∧lo+len≤xs.length then some (.p k (lo+0) 0)else none:=by
 split
 ·rename_i h;exact qfN (i:=0) h.1 h.2
 ·rename_i h
  simp only [ixO,zS]
  split
  ·rename_i h2;rw [if_neg (by omega)];rfl
  ·rfl
@[go_sem] theorem qz4:ixO k lo len e 1 (some (e,xs))=if 2≤len∧lo+len≤xs.length then some (.p k (lo+1) 0)else none:=by
 split
 ·rename_i h;exact qfN (i:=1) h.1 h.2
 ·rename_i h
  simp only [ixO,zS]
  split
  ·rename_i h2;rw [if_neg (by omega)];rfl
  ·rfl
@[go_sem] theorem qtJ {T:Mem} {τ:Bool} {x:V}:ko T e (.i τ (x::xs)) 0=if x.cells.length=e then some (.q τ (x::xs) 0 0)else none:=by
 have h0:zS 0 (x::xs).length=some 0:=by
  unfold zS;rw [if_pos ⟨by omega,by simp only [List.length_cons];omega⟩];rfl
 simp only [ko,h0];rfl
@[go_sem] theorem qtK {T:Mem} {τ:Bool} {x y:V}:ko T e (.i τ (x::y::xs)) 1=if y.cells.length=e then some (.q τ (x::y::xs) 1 0)else none:=by
 have h0:zS 1 (x::y::xs).length=some 1:=by
  unfold zS;rw [if_pos ⟨by omega,by simp only [List.length_cons];omega⟩];rfl
 simp only [ko,h0];rfl
end lit
section rep
variable {k:Key} {ob:Ob} {k':Key} {e:Nat} {xs:List V} {T:Mem}
def Y3(k:Key) (ob:Ob) (r:Option (List V)) (k':Key) (e:Nat) (xs:List V) (T:Mem):Mem:=
 match r with
 |some xs'=>(k',e,xs')::T
 |none=>(k',e,xs)::kd k ob T
@[congr] theorem qFe {r r':Option (List V)} (h:r=r'):Y3 k ob r k' e xs T=Y3 k ob r' k' e xs T:=by rw [h]
@[go_sem] theorem qFo:kd k ob []=[]:=(rfl)
@[go_sem] theorem qFn:kd k ob ((k',e,xs)::T)=Y3 k ob (zx k ob xs) k' e xs T:=by
 simp only [kd,Y3];cases zx k ob xs<;>rfl
@[go_sem] theorem qFg {xs':List V}:Y3 k ob (some xs') k' e xs T=(k',e,xs')::T:=(rfl)
@[go_sem] theorem qFf:Y3 k ob none k' e xs T=(k',e,xs)::kd k ob T:=(rfl)
def Y5(k:Key) (ob:Ob) (r:Option V) (x:V) (xs:List V):Option (List V):=
 match r with
 |some x'=>some (x'::xs)
 |none=>zZ (zx k ob xs) fun ys=>some (x::ys)
def Y4(k:Key) (ob:Ob) (r:Option V) (x:V) (xs:List V):Option (List V):=
 match r with
 |some x'=>some (x'::xs)
 |none=>zZ (xy k ob xs) fun ys=>some (x::ys)
@[congr] theorem qFk {r r':Option V} {x:V} (h:r=r'):Y5 k ob r x xs=Y5 k ob r' x xs:=by rw [h]
@[congr] theorem qFh {r r':Option V} {x:V} (h:r=r'):Y4 k ob r x xs=Y4 k ob r' x xs:=by rw [h]
@[go_sem] theorem qFm {x x':V}:Y5 k ob (some x') x xs=some (x'::xs):=(rfl)
@[go_sem] theorem qFl {x:V}:Y5 k ob none x xs=zZ (zx k ob xs) fun ys=>some (x::ys):=(rfl)
@[go_sem] theorem qFj {x x':V}:Y4 k ob (some x') x xs=some (x'::xs):=(rfl)
@[go_sem] theorem qFi {x:V}:Y4 k ob none x xs=zZ (xy k ob xs) fun ys=>some (x::ys):=(rfl)
@[go_sem] theorem qFd:zx k ob []=none:=(rfl)
@[go_sem] theorem qE6 {x:V}:zx k ob (x::xs)=Y5 k ob (xz k ob x) x xs:=by
 simp only [zx,Y5]
 cases xz k ob x with
 |some y=>rfl
 |none=>simp only;cases zx k ob xs<;>rfl
@[go_sem] theorem qEW:xy k ob []=none:=(rfl)
@[go_sem] theorem qEV {x:V}:xy k ob (x::xs)=Y4 k ob (yq k ob x) x xs:=by
 simp only [xy,Y4]
 cases yq k ob x with
 |some y=>rfl
 |none=>simp only;cases xy k ob xs<;>rfl
@[go_sem] theorem qE0:xz k ob (.a xs)=zZ (xy k ob xs) fun ys=>some (.a ys):=by
 simp only [xz];cases xy k ob xs<;>rfl
@[go_sem] theorem qE2 {lo len:Nat}:xz k ob (.s k' lo len)=yq k ob (.s k' lo len):=(rfl)
@[go_sem] theorem qE1 {lo len:Nat}:xz k ob (.p k' lo len)=yq k ob (.p k' lo len):=(rfl)
@[go_sem] theorem qEU {lo len:Nat} {zs:List V}:yq k (e,zs) (.s k' lo len)=if k'=k∧lo=0∧len=zs.length then some (.o e zs)else none:=(rfl)
@[go_sem] theorem qET {i o:Nat} {z:V}:yq k (e,[z]) (.p k' i o)=if k'=k∧i=0∧o=0 then some (.b z)else none:=(rfl)
@[go_sem] theorem qEN {n:Int}:yq k ob (I n)=none:=(rfl)
@[go_sem] theorem qEO {l:Str}:yq k ob (S l)=none:=(rfl)
@[go_sem] theorem qEM {b:Bool}:yq k ob (B b)=none:=(rfl)
@[go_sem] theorem qEP {n:Int}:yq k ob (U8 n)=none:=(rfl)
@[go_sem] theorem qEQ {τ:Bool}:yq k ob (.i τ xs)=none:=(rfl)
@[go_sem] theorem qES:yq k ob (.o e xs)=none:=(rfl)
@[go_sem] theorem qER:yq k ob (.n e)=none:=(rfl)
@[go_sem] theorem qEY {n:Int}:xz k ob (I n)=none:=(rfl)
@[go_sem] theorem qEZ {l:Str}:xz k ob (S l)=none:=(rfl)
@[go_sem] theorem qEX {b:Bool}:xz k ob (B b)=none:=(rfl)
end rep
inductive Tm where
 |mk (kind:Int) (name:Str) (num:Int) (kids:List Tm)
def Tm.kind:Tm→Int| .mk k _ _ _=>k
def Tm.name:Tm→Str| .mk _ s _ _=>s
def Tm.num:Tm→Int| .mk _ _ n _=>n
def Tm.kids:Tm→List Tm| .mk _ _ _ ks=>ks
noncomputable instance:DecidableEq Tm:=fun a b=>Classical.propDecidable (a=b)
section
variable {k n:Int} {s:Str} {ks:List Tm}
@[go_sem] theorem Kx:(Tm.mk k s n ks).kind=k:=(rfl)
@[go_sem] theorem Ky:(Tm.mk k s n ks).name=s:=(rfl)
@[go_sem] theorem Kz:(Tm.mk k s n ks).num=n:=(rfl)
@[go_sem] theorem Qs:(Tm.mk k s n ks).kids=ks:=(rfl)
end
theorem qdS {P:Tm→Prop} (h: ∀ k s n ks,(∀ t ∈ ks,P t)→P (.mk k s n ks)) (t:Tm):P t:=
 Tm.rec (motive_1:=P) (motive_2:=fun ks=> ∀ t ∈ ks,P t) (fun k s n ks ih=>h k s n ks ih) (fun t ht=>by cases ht)
  (fun x xs hx hxs t ht=>by
   rcases List.mem_cons.1 ht with rfl|ht
   ·exact hx
   ·exact hxs t ht) t
mutual
def BT:Tm→V→Prop
 | .mk k s n ks,v=> ∃ τ vs,v= .a [I k,S s,I n,.i τ vs]∧BTs ks vs
def BTs:List Tm→List V→Prop
 |[],vs=>vs=[]
 |t::ts,vs=> ∃ v vs',vs=v::vs'∧BT t v∧BTs ts vs'
end
theorem qdD: ∀ (ts:List Tm) (vs:List V),BTs ts vs↔RL BT ts vs
 |[],vs=>by simp only [BTs,RL]
 |t::ts,vs=>by simp only [BTs,RL,qdD ts]
theorem qdC {k n:Int} {s:Str} {ks:List Tm} {v:V}:BT (.mk k s n ks) v↔ ∃ τ vs,v= .a [I k,S s,I n,.i τ vs]∧RL BT ks vs:=by
 simp only [BT,qdD]
theorem XI {t:Tm} {v:V} (h:BT t v): ∃ τ vs,v= .a [I t.kind,S t.name,I t.num,.i τ vs]∧RL BT t.kids vs:=by
 cases t;exact qdC.1 h
theorem qiZ {t:Tm} {v:V} (h:BT t v):v.cells.length=4:=by
 obtain ⟨τ,vs,rfl,-⟩:=XI h;rfl
mutual
def oT:Tm→V
 | .mk k s n ks=> .a [I k,S s,I n,.o 4 (oTs ks)]
def oTs:List Tm→List V
 |[]=>[]
 |t::ts=>oT t::oTs ts
end
mutual
def iT(τ:Bool):Tm→V
 | .mk k s n ks=> .a [I k,S s,I n,.i τ (iTs τ ks)]
def iTs(τ:Bool):List Tm→List V
 |[]=>[]
 |t::ts=>iT τ t::iTs τ ts
end
theorem qgR: ∀ (ts:List Tm),oTs ts=ts.map oT
 |[]=>rfl
 |t::ts=>by simp only [oTs,List.map_cons,qgR ts]
theorem qfr(τ:Bool): ∀ (ts:List Tm),iTs τ ts=ts.map (iT τ)
 |[]=>rfl
 |t::ts=>by simp only [iTs,List.map_cons,qfr τ ts]
theorem qH(t:Tm):oT t= .a [I t.kind,S t.name,I t.num,.o 4 (t.kids.map oT)]:=by cases t;simp only [oT,qgR];rfl
theorem y7(τ:Bool) (t:Tm):iT τ t= .a [I t.kind,S t.name,I t.num,.i τ (t.kids.map (iT τ))]:=by cases t;simp only [iT,qfr];rfl
theorem Jr(τ:Bool): ∀ (t:Tm),BT t (iT τ t):=by
 refine qdS ?_
 intro k s n ks ih
 rw [y7]
 refine qdC.2 ⟨τ,_,rfl, ?_⟩
 simp only [Qs]
 induction ks with
 |nil=>rfl
 |cons t ts ih'=>exact ⟨_,_,rfl,ih t (by simp),ih' fun u hu=>ih u (by simp [hu])⟩
mutual
theorem qbS(τ:Bool): ∀ (t:Tm),qX τ (oT t)=iT τ t
 | .mk k s n ks=>by simp only [oT,iT,qX,qY,qjN,qjO,qeP τ ks]
theorem qeP(τ:Bool): ∀ (ts:List Tm),qY τ (oTs ts)=iTs τ ts
 |[]=>rfl
 |t::ts=>by simp only [oTs,iTs,qY,qbS τ t,qeP τ ts]
end
mutual
theorem qcB: ∀ (t:Tm),qW (oT t)=true
 | .mk k s n ks=>by simp only [oT,qW,zg,qgE,qgF,qgD ks,Bool.and_self]
theorem qgD: ∀ (ts:List Tm),zg (oTs ts)=true
 |[]=>rfl
 |t::ts=>by simp only [oTs,zg,qcB t,qgD ts,Bool.and_self]
end
mutual
theorem qcA: ∀ (t:Tm),qW (iT false t)=true
 | .mk k s n ks=>by simp only [iT,qW,zg,qgE,qgF,qgC ks,Bool.and_self,Bool.not_false]
theorem qgC: ∀ (ts:List Tm),zg (iTs false ts)=true
 |[]=>rfl
 |t::ts=>by simp only [iTs,zg,qcA t,qgC ts,Bool.and_self]
end
theorem KK(t:Tm):clE (oT t)=true:=by rw [qH];rfl
theorem qjD(τ:Bool) (t:Tm):clE (iT τ t)=true:=by rw [y7];rfl
@[go_sem] theorem qGX(τ:Bool) (t:Tm):zb (iT τ t)=true:=by rw [y7];rfl
@[go_sem] theorem qwR(m:Nat) (T:Mem) (τ:Bool) (t:Tm):qu (m+2) T (iT τ t)=(iT τ t,T):=by rw [y7];rfl
@[go_sem] theorem qxf(τ τ':Bool) (t:Tm):qX τ (iT τ' t)=iT τ' t:=by rw [y7];rfl
@[go_sem] theorem qAv(d:Nat) (τ:Bool) (t:Tm):qJ d (iT τ t)=iT τ t:=qcp d _ (by rw [y7];rfl)
@[go_sem] theorem qxI(τ:Bool) (t:Tm):yK (iT τ t)=[]:=by rw [y7];rfl
@[go_sem] theorem qzS(τ:Bool) (t:Tm):(iT τ t).isA=true:=by rw [y7];rfl
@[go_sem] theorem qvP(τ:Bool) (t:Tm):(iT τ t).cells=[I t.kind,S t.name,I t.num,.i τ (t.kids.map (iT τ))]:=by rw [y7];rfl
@[go_sem] theorem qAW(τ:Bool) (t:Tm):qT true 4 (iT τ t) 0=some (iT τ t):=by rw [y7];rfl
attribute [go_sem] qbS qcB qcA KK qjD
@[go_sem] theorem qw4(τ:Bool) (ts:List Tm):qY τ (ts.map oT)=ts.map (iT τ):=kW (qbS τ) ts
@[go_sem] theorem qCw(ts:List Tm):zg (ts.map oT)=true:=yV qcB ts
@[go_sem] theorem qCx(ts:List Tm):zg (ts.map (iT false))=true:=yV qcA ts
@[go_sem] theorem YD(ts:List Tm):qx (ts.map oT)=true:=kq KK ts
@[go_sem] theorem qAf(d:Nat) (ts:List Tm):qA d (ts.map oT)=ts.map oT:=kZ KK d ts
@[go_sem] theorem qBa(m:Nat) (T:Mem) (l:List Tm):qv (ze m) T (l.map oT)=(l.map oT,T):=kA m T _ (YD l)
@[go_sem] theorem qFc(k:Key) (ob:Ob) (l:List Tm):zx k ob (l.map oT)=none:=j3 k ob _ (YD l)
@[go_sem] theorem qAo(d:Nat) (t:Tm):qJ d (oT t)=oT t:=qcp d _ (KK t)
@[go_sem] theorem qCM(t:Tm):ym (oT t).cells=true:=by rw [qH];rfl
@[go_sem] theorem qvT(t:Tm):(oT t).cells.length=4:=by rw [qH];rfl
def Lm:Nat:=16777216
def inI(n:Int):Prop:= -9223372036854775808≤n∧n < 9223372036854775808
mutual
def WT:Tm→Prop
 | .mk k s n ks=>inI k∧s.length≤Lm∧inI n∧ks.length≤Lm∧WTs ks
def WTs:List Tm→Prop
 |[]=>True
 |t::ts=>WT t∧WTs ts
end
theorem qdW: ∀ {ts:List Tm} {t:Tm},WTs ts→t ∈ ts→WT t
 |x::xs,t,h,ht=>by
  simp only [WTs]at h
  rcases List.mem_cons.1 ht with rfl|ht
  ·exact h.1
  ·exact qdW h.2 ht
theorem qdX: ∀ {ts:List Tm},(∀ t ∈ ts,WT t)→WTs ts
 |[],_=>trivial
 |t::ts,h=>⟨h t (by simp),qdX fun u hu=>h u (by simp [hu])⟩
theorem qjj {t:Tm} (h:WT t):t.name.length≤Lm:=by cases t;exact h.2.1
theorem qdV {t:Tm} (h:WT t):t.kids.length≤Lm:=by cases t;exact h.2.2.2.1
theorem qji {t:Tm} (h:WT t): ∀ u ∈ t.kids,WT u:=by cases t;exact fun u hu=>qdW h.2.2.2.2 hu
theorem KA {k n:Int} {s:Str} {ks:List Tm} (h1:inI k) (h2:s.length≤Lm) (h3:inI n) (h4:ks.length≤Lm) (h5: ∀ u ∈ ks,WT u):WT (.mk k s n ks):=⟨h1,h2,h3,h4,qdX h5⟩
mutual
def nT:Tm→Nat
 | .mk _ _ _ ks=>nTs ks+1
def nTs:List Tm→Nat
 |[]=>0
 |t::ts=>nT t+nTs ts
end
theorem qap(t:Tm):1≤nT t:=by cases t;simp only [nT];omega
def wTm(t:Tm):Prop:=WT t∧nT t≤Lm
end Go.Vm
namespace Go.Vm
section
variable {α:Type} {f:α→V} {z x:V}
theorem qph {ts:List α} {i:Nat} {t:α} (h:ts[i]? =some t) (zs:List V):(ts.take i).map f++f t::zs=(ts.take (i+1)).map f++zs:=by
 rw [List.take_succ_eq_append_getElem (List.getElem?_eq_some_iff.1 h).1]
 simp [(List.getElem?_eq_some_iff.1 h).2]
theorem qbI(xs:List V) (y:V) (zs:List V) (i:Nat) (h:xs.length=i):(xs++y::zs)[i]? =some y:=by
 subst h;simp
theorem qbJ(xs:List V) (y y':V) (zs:List V) (i:Nat) (h:xs.length=i):(xs++y::zs).set i y'=xs++y'::zs:=by
 subst h;simp
end
end Go.Vm
namespace Go.Vm
theorem qb0 {β:Type} (ts:List β) (P:Nat→List β→Prop) (hlim:ts.length < 2^62) (h0:P ts.length [])
 (hs: ∀ i t r,ts[i]? =some t→i < ts.length→(i:Int) < ts.length→w64 ((i:Int)+1)=((i+1:Nat):Int)→i+(r.length+1)=ts.length→t ∈ ts→(∀ u ∈ r,u ∈ ts)→P (i+1) r→P i (t::r)):P 0 ts:=by
 have key: ∀ m i,i+m=ts.length→P i (ts.drop i):=by
  intro m
  induction m with
  |zero=>
   intro i hi
   obtain rfl:i=ts.length:=by omega
   rw [List.drop_length];exact h0
  |succ m ih=>
   intro i hi
   obtain ⟨t,ht⟩:=z6 (l:=ts) (i:=i) (by omega)
   rw [QD ht]
   refine hs i t _ ht (by omega) (by omega) (by rw [qo]<;>omega) (by rw [List.length_drop];omega) (List.mem_of_getElem? ht) (fun u hu=>List.mem_of_mem_drop hu) (ih (i+1) (by omega))
 have:=key ts.length 0 (by omega)
 simpa using this
theorem qp5(l:List Tm) (t:Tm):l.map oT++[.a [I t.kind,S t.name,I t.num,.o 4 (t.kids.map oT)]]=(l++[t]).map oT:=by
 rw [List.map_append,List.map_cons,List.map_nil,qH]
theorem qm4(a:Int):(a < a)=False:=eq_false (Int.lt_irrefl a)
attribute [go_sem] qp5 qm4 Int.natCast_zero
end Go.Vm
set_option maxRecDepth 100000
namespace Go.Vm
def qdI(f e:Nat):AC:=
 (.seq
  (.seq
   (.reg [.mv 11 (.t 5),
    .mv 12 (.t 0),
    .len 13 (.t 12),
    .bin 14 .lss (.t 11) (.t 13)])
  (.keep [0,1,5,14]
   (.cond (.t 14)
    .skip
    (.keep []
     (.exit 0)))))
 (.keep [0,1,5]
  (.seq
   (.block 1
    (.seq
     (.dreg [⟨0,[]⟩,⟨0,[]⟩,⟨0,[(0,0),(0,1),(0,2),(0,3),(100000,0),(100000,1),(100000,2),(100000,3),(100000,4),(100000,5)]⟩,⟨0,[(0,0),(0,1),(0,2),(0,3),(100000,0),(100000,1),(100000,2),(100000,3),(100000,4),(100000,5)]⟩,⟨0,[]⟩,⟨0,[]⟩,⟨0,[(1,0),(1,1),(1,2),(1,3),(100000,0),(100000,1),(100000,2),(100000,3),(100000,4),(100000,5)]⟩,⟨0,[(1,0),(1,1),(1,2),(1,3),(100000,0),(100000,1),(100000,2),(100000,3),(100000,4),(100000,5)]⟩,⟨2,[(0,0),(0,1),(0,2),(0,3),(1,0),(1,1),(1,2),(1,3),(20,0),(24,0),(100000,0),(100000,1),(100000,2),(100000,3),(100000,4),(100000,5)]⟩,⟨0,[]⟩]
      [.mv 17 (.t 0),
       .mv 18 (.t 5),
       .ia 19 e (.t 17) (.t 18),
       .ldq 20 true e (.t 19),
       .mv 21 (.t 1),
       .mv 22 (.t 5),
       .ia 23 e (.t 21) (.t 22),
       .ldq 24 true e (.t 23),
       .call (some 25) (.c (Fc f)) [(.t 20),(.t 24)] (.ro true),
       .un 26 .not (.t 25)])
    (.keep [0,1,5,26]
     (.cond (.t 26)
      (.seq
       (.reg [.mv 4 (.c (B false))])
      (.keep [4]
       .ret))
      .skip))))
  (.keep [0,1,5]
   (.reg [.mv 15 (.t 5),
    .bin 16 .add (.t 15) (.c (I 1)),
    .mv 5 (.t 16)])))))
def JI(f e:Nat):Lp:=⟨[0,1,5],[(2,0)],qdI f e⟩
@[go_sem] theorem qrx {f e:Nat}:(JI f e).ls=[0,1,5]:=rfl
@[go_sem] theorem qrw {f e:Nat}:(JI f e).ks=[(2,0)]:=rfl
@[go_sem] theorem qrv {f e:Nat}:(JI f e).body=qdI f e:=rfl
def qrs(f e:Nat):AF where
 nargs:=2
 ntmps:=27
 res:=[.tmp 4]
 body:=
  (.seq
   (.reg [.mv 4 (.c (B false))])
  (.seq
   (.seq
    (.reg [.mv 6 (.t 0),
     .len 7 (.t 6),
     .mv 8 (.t 1),
     .len 9 (.t 8),
     .bin 10 .neq (.t 7) (.t 9)])
   (.keep [0,1,10]
    (.cond (.t 10)
     (.seq
      (.reg [.mv 4 (.c (B false))])
     (.keep [4]
      .ret))
     .skip)))
  (.keep [0,1]
   (.seq
    (.seq
     (.reg [.mv 5 (.c (I 0))])
    (.block 0
     (lpC (JI f e))))
   (.keep []
    (.seq
     (.reg [.mv 4 (.c (B true))])
    (.keep [4]
     .ret)))))))
def qdJ(f e:Nat):AC:=
        (.seq
         (.seq
          (.reg [.mv 12 (.t 5),
           .mv 13 (.t 0),
           .len 14 (.t 13),
           .bin 15 .lss (.t 12) (.t 14)])
         (.keep [0,1,5,15]
          (.cond (.t 15)
           .skip
           (.keep [1]
            (.exit 0)))))
        (.keep [0,1,5]
         (.seq
          (.block 1
           (.seq
            (.reg [.mv 18 (.t 0),
             .mv 19 (.t 5),
             .ia 20 e (.t 18) (.t 19),
             .ld 21 true e (.t 20),
             .mv 22 (.t 1),
             .call (some 23) (.c (Fc f)) [(.t 21),(.t 22)] (.ro false),
             .mv 1 (.t 23)])
           (.keep [0,1,5]
            (.seq
             (.reg [.mv 24 (.t 1),
              .bin 25 .lss (.t 24) (.c (I 0))])
            (.cond (.t 25)
             (.seq
              (.reg [.mv 4 (.c (I (-1)))])
             (.keep [4]
              .ret))
             .skip)))))
         (.keep [0,1,5]
          (.reg [.mv 16 (.t 5),
           .bin 17 .add (.t 16) (.c (I 1)),
           .mv 5 (.t 17)])))))
def JJ(f e:Nat):Lp:=⟨[0,1,5],[(2,0)],qdJ f e⟩
@[go_sem] theorem qrA {f e:Nat}:(JJ f e).ls=[0,1,5]:=rfl
@[go_sem] theorem qrz {f e:Nat}:(JJ f e).ks=[(2,0)]:=rfl
@[go_sem] theorem qry {f e:Nat}:(JJ f e).body=qdJ f e:=rfl
def qrt(f e:Nat):AF where
 nargs:=2
 ntmps:=27
 res:=[.tmp 4]
 body:=
  (.seq
   (.reg [.mv 4 (.c (I 0))])
  (.seq
   (.reg [.mv 6 (.t 1),
    .mv 7 (.t 0),
    .len 8 (.t 7),
    .bin 9 .sub (.t 6) (.t 8),
    .mv 1 (.t 9)])
  (.keep [0,1]
   (.seq
    (.seq
     (.reg [.mv 10 (.t 1),
      .bin 11 .lss (.t 10) (.c (I 0))])
    (.cond (.t 11)
     (.seq
      (.reg [.mv 4 (.c (I (-1)))])
     (.keep [4]
      .ret))
     .skip))
   (.keep [0,1]
    (.seq
     (.seq
      (.reg [.mv 5 (.c (I 0))])
     (.block 0
      (lpC (JJ f e))))
    (.keep [1]
     (.seq
      (.reg [.mv 26 (.t 1),
       .mv 4 (.t 26)])
     (.keep [4]
      .ret)))))))))
def qdK(f e b:Nat) (z:V):AC:=
 (.seq
  (.seq
   (.reg [.mv 8 (.t 4),
    .mv 9 (.t 0),
    .len 10 (.t 9),
    .bin 11 .lss (.t 8) (.t 10)])
  (.keep [0,3,4,11]
   (.cond (.t 11)
    .skip
    (.keep [3]
     (.exit 0)))))
 (.keep [0,3,4]
  (.seq
   (.block 1
    (.reg [.mv 14 (.t 3),
     .mv 15 (.t 4),
     .mv 16 (.t 0),
     .mv 17 (.t 4),
     .ia 18 e (.t 16) (.t 17),
     .ld 19 true e (.t 18),
     .call (some 20) (.c (Fc f)) [(.t 19)] (.ro false),
     .ia 21 e (.t 14) (.t 15),
     .st e (.t 21) (.t 20)]))
  (.keep [0,3,4]
   (.reg [.mv 12 (.t 4),
    .bin 13 .add (.t 12) (.c (I 1)),
    .mv 4 (.t 13)])))))
def JK(f e b:Nat) (z:V):Lp:=⟨[0,3,4],[(1,0)],qdK f e b z⟩
@[go_sem] theorem qrD {f e b:Nat} {z:V}:(JK f e b z).ls=[0,3,4]:=rfl
@[go_sem] theorem qrC {f e b:Nat} {z:V}:(JK f e b z).ks=[(1,0)]:=rfl
@[go_sem] theorem qrB {f e b:Nat} {z:V}:(JK f e b z).body=qdK f e b z:=rfl
def qru(f e b:Nat) (z:V):AF where
 nargs:=1
 ntmps:=23
 res:=[.tmp 2]
 body:=
  (.seq
   (.reg [.mv 2 (.c (.n e))])
  (.seq
   (.reg [.mv 5 (.t 0),
    .len 6 (.t 5),
    .mk 7 e z b (.t 6) (.t 6),
    .mv 3 (.t 7)])
  (.keep [0,3]
   (.seq
    (.seq
     (.reg [.mv 4 (.c (I 0))])
    (.block 0
     (lpC (JK f e b z))))
   (.keep [3]
    (.seq
     (.reg [.mv 22 (.t 3),
      .mv 2 (.t 22)])
    (.keep [2]
     .ret)))))))
end Go.Vm
namespace Go.Vm
def qka:V→Bool
 | .v _=>true
 | .i _ _=>true
 |_=>false
def qfe:List V→Bool
 |[]=>true
 |c::cs=>qka c&&qfe cs
def qdH(e:Nat) (v:V):Prop:= ∃ cs,v= .a cs∧cs.length=e∧qfe cs=true
theorem qdH.cells {e:Nat} {v:V} (h:qdH e v):v.cells.length=e:=by obtain ⟨cs,rfl,h,-⟩:=h;exact h
section
variable {prog:Nat→Option AE} {α:Type} {R:α→V→Prop}
noncomputable local instance:DecidableEq α:=fun a b=>Classical.propDecidable (a=b)
end
end Go.Vm
namespace Go.Vm
def wS(s:Str):Prop:=s.length≤Lm
structure Cl where
 head:Tm
 body:Tm
 file:Str
noncomputable instance:DecidableEq Cl:=fun a b=>Classical.propDecidable (a=b)
def bCl(x:Cl) (v:V):Prop:= ∃ τ0 vs0 τ1 vs1,v= .a [I x.head.kind,S x.head.name,I x.head.num,.i τ0 vs0,I x.body.kind,S x.body.name,I x.body.num,.i τ1 vs1,S x.file]∧RL BT x.head.kids vs0∧RL BT x.body.kids vs1
def oCl(x:Cl):V:= .a [I x.head.kind,S x.head.name,I x.head.num,.o 4 (x.head.kids.map oT),I x.body.kind,S x.body.name,I x.body.num,.o 4 (x.body.kids.map oT),S x.file]
def iCl(τ:Bool) (x:Cl):V:= .a [I x.head.kind,S x.head.name,I x.head.num,.i τ (x.head.kids.map (iT τ)),I x.body.kind,S x.body.name,I x.body.num,.i τ (x.body.kids.map (iT τ)),S x.file]
def wCl(x:Cl):Prop:=wTm x.head∧wTm x.body∧wS x.file
theorem qeR(τ:Bool) (x:Cl):qX τ (oCl x)=iCl τ x:=by simp only [oCl,iCl,go_sem]
theorem qgL(x:Cl):qW (oCl x)=true:=by simp only [oCl,go_sem]
theorem qgG(x:Cl):qW (iCl false x)=true:=by simp only [iCl,go_sem]
@[go_sem] theorem qGS(τ:Bool) (x:Cl):zb (iCl τ x)=true:=rfl
@[go_sem] theorem qwM(m:Nat) (T:Mem) (τ:Bool) (x:Cl):qu (m+2) T (iCl τ x)=(iCl τ x,T):=rfl
@[go_sem] theorem qxa(τ τ':Bool) (x:Cl):qX τ (iCl τ' x)=iCl τ' x:=rfl
@[go_sem] theorem qAq(d:Nat) (τ:Bool) (x:Cl):qJ d (iCl τ x)=iCl τ x:=rfl
@[go_sem] theorem qxD(τ:Bool) (x:Cl):yK (iCl τ x)=[]:=rfl
@[go_sem] theorem qzN(τ:Bool) (x:Cl):(iCl τ x).isA=true:=rfl
@[go_sem] theorem qAR(τ:Bool) (x:Cl):qT true 9 (iCl τ x) 0=some (iCl τ x):=rfl
@[go_sem] theorem qvK(τ:Bool) (x:Cl):(iCl τ x).cells=[I x.head.kind,S x.head.name,I x.head.num,.i τ (x.head.kids.map (iT τ)),I x.body.kind,S x.body.name,I x.body.num,.i τ (x.body.kids.map (iT τ)),S x.file]:=rfl
@[go_sem] theorem qez(x:Cl):clE (oCl x)=true:=rfl
@[go_sem] theorem qvZ(τ:Bool) (x:Cl):clE (iCl τ x)=true:=rfl
attribute [go_sem] qeR qgL qgG
@[go_sem] theorem qwZ(τ:Bool) (l:List Cl):qY τ (l.map oCl)=l.map (iCl τ):=kW (qeR τ) l
@[go_sem] theorem qCr(l:List Cl):zg (l.map oCl)=true:=yV qgL l
@[go_sem] theorem qCy(l:List Cl):zg (l.map (iCl false))=true:=yV qgG l
@[go_sem] theorem qeI(l:List Cl):qx (l.map oCl)=true:=kq qez l
@[go_sem] theorem qA5(m:Nat) (T:Mem) (l:List Cl):qv (ze m) T (l.map oCl)=(l.map oCl,T):=kA m T _ (qeI l)
@[go_sem] theorem qE7(k:Key) (ob:Ob) (l:List Cl):zx k ob (l.map oCl)=none:=j3 k ob _ (qeI l)
@[go_sem] theorem qAa(d:Nat) (l:List Cl):qA d (l.map oCl)=l.map oCl:=kZ qez d l
structure Db where
 clauses:List Cl
 opn:List Str
noncomputable instance:DecidableEq Db:=fun a b=>Classical.propDecidable (a=b)
def bDb(x:Db) (v:V):Prop:= ∃ τ0 vs0 τ1,v= .a [.i τ0 vs0,.i τ1 (x.opn.map S)]∧RL bCl x.clauses vs0
def oDb(x:Db):V:= .a [.o 9 (x.clauses.map oCl),.o 1 (x.opn.map S)]
def iDb(τ:Bool) (x:Db):V:= .a [.i τ (x.clauses.map (iCl τ)),.i τ (x.opn.map S)]
def wDb(x:Db):Prop:=(x.clauses.length≤Lm∧ ∀ y ∈ x.clauses,wCl y)∧(x.opn.length≤Lm∧ ∀ y ∈ x.opn,wS y)
theorem qeS(τ:Bool) (x:Db):qX τ (oDb x)=iDb τ x:=by simp only [oDb,iDb,go_sem]
theorem qgM(x:Db):qW (oDb x)=true:=by simp only [oDb,go_sem]
theorem qgH(x:Db):qW (iDb false x)=true:=by simp only [iDb,go_sem]
@[go_sem] theorem qGT(τ:Bool) (x:Db):zb (iDb τ x)=true:=rfl
@[go_sem] theorem qwN(m:Nat) (T:Mem) (τ:Bool) (x:Db):qu (m+2) T (iDb τ x)=(iDb τ x,T):=rfl
@[go_sem] theorem qxb(τ τ':Bool) (x:Db):qX τ (iDb τ' x)=iDb τ' x:=rfl
@[go_sem] theorem qAr(d:Nat) (τ:Bool) (x:Db):qJ d (iDb τ x)=iDb τ x:=rfl
@[go_sem] theorem qxE(τ:Bool) (x:Db):yK (iDb τ x)=[]:=rfl
@[go_sem] theorem qzO(τ:Bool) (x:Db):(iDb τ x).isA=true:=rfl
@[go_sem] theorem qAS(τ:Bool) (x:Db):qT true 2 (iDb τ x) 0=some (iDb τ x):=rfl
@[go_sem] theorem qvL(τ:Bool) (x:Db):(iDb τ x).cells=[.i τ (x.clauses.map (iCl τ)),.i τ (x.opn.map S)]:=rfl
@[go_sem] theorem qeA(x:Db):clE (oDb x)=true:=rfl
@[go_sem] theorem qv0(τ:Bool) (x:Db):clE (iDb τ x)=true:=rfl
attribute [go_sem] qeS qgM qgH
@[go_sem] theorem qw0(τ:Bool) (l:List Db):qY τ (l.map oDb)=l.map (iDb τ):=kW (qeS τ) l
@[go_sem] theorem qCs(l:List Db):zg (l.map oDb)=true:=yV qgM l
@[go_sem] theorem qCz(l:List Db):zg (l.map (iDb false))=true:=yV qgH l
@[go_sem] theorem qeJ(l:List Db):qx (l.map oDb)=true:=kq qeA l
@[go_sem] theorem qA6(m:Nat) (T:Mem) (l:List Db):qv (ze m) T (l.map oDb)=(l.map oDb,T):=kA m T _ (qeJ l)
@[go_sem] theorem qE8(k:Key) (ob:Ob) (l:List Db):zx k ob (l.map oDb)=none:=j3 k ob _ (qeJ l)
@[go_sem] theorem qAb(d:Nat) (l:List Db):qA d (l.map oDb)=l.map oDb:=kZ qeA d l
structure Fl where
 name:Str
 text:Str
noncomputable instance:DecidableEq Fl:=fun a b=>Classical.propDecidable (a=b)
def bFl(x:Fl) (v:V):Prop:=v= .a [S x.name,S x.text]
def oFl(x:Fl):V:= .a [S x.name,S x.text]
def iFl(τ:Bool) (x:Fl):V:= .a [S x.name,S x.text]
def wFl(x:Fl):Prop:=wS x.name∧wS x.text
theorem qeT(τ:Bool) (x:Fl):qX τ (oFl x)=iFl τ x:=by simp only [oFl,iFl,go_sem]
theorem qgN(x:Fl):qW (oFl x)=true:=by simp only [oFl,go_sem]
theorem qgI(x:Fl):qW (iFl false x)=true:=by simp only [iFl,go_sem]
@[go_sem] theorem qGU(τ:Bool) (x:Fl):zb (iFl τ x)=true:=rfl
@[go_sem] theorem qwO(m:Nat) (T:Mem) (τ:Bool) (x:Fl):qu (m+2) T (iFl τ x)=(iFl τ x,T):=rfl
@[go_sem] theorem qxc(τ τ':Bool) (x:Fl):qX τ (iFl τ' x)=iFl τ' x:=rfl
@[go_sem] theorem qAs(d:Nat) (τ:Bool) (x:Fl):qJ d (iFl τ x)=iFl τ x:=rfl
@[go_sem] theorem qxF(τ:Bool) (x:Fl):yK (iFl τ x)=[]:=rfl
@[go_sem] theorem qzP(τ:Bool) (x:Fl):(iFl τ x).isA=true:=rfl
@[go_sem] theorem qAT(τ:Bool) (x:Fl):qT true 2 (iFl τ x) 0=some (iFl τ x):=rfl
@[go_sem] theorem qvM(τ:Bool) (x:Fl):(iFl τ x).cells=[S x.name,S x.text]:=rfl
@[go_sem] theorem qeB(x:Fl):clE (oFl x)=true:=rfl
@[go_sem] theorem qv1(τ:Bool) (x:Fl):clE (iFl τ x)=true:=rfl
attribute [go_sem] qeT qgN qgI
@[go_sem] theorem qw1(τ:Bool) (l:List Fl):qY τ (l.map oFl)=l.map (iFl τ):=kW (qeT τ) l
@[go_sem] theorem qCt(l:List Fl):zg (l.map oFl)=true:=yV qgN l
@[go_sem] theorem qCA(l:List Fl):zg (l.map (iFl false))=true:=yV qgI l
@[go_sem] theorem qbM(l:List Fl):qx (l.map oFl)=true:=kq qeB l
@[go_sem] theorem qA7(m:Nat) (T:Mem) (l:List Fl):qv (ze m) T (l.map oFl)=(l.map oFl,T):=kA m T _ (qbM l)
@[go_sem] theorem qE9(k:Key) (ob:Ob) (l:List Fl):zx k ob (l.map oFl)=none:=j3 k ob _ (qbM l)
@[go_sem] theorem qAc(d:Nat) (l:List Fl):qA d (l.map oFl)=l.map oFl:=kZ qeB d l
structure Se where
 files:List Fl
 db:Db
 lines:List Str
 out:Str
noncomputable instance:DecidableEq Se:=fun a b=>Classical.propDecidable (a=b)
def bSe(x:Se) (v:V):Prop:= ∃ τ0 vs0 τ1 vs1 τ2 τ3,v= .a [.i τ0 vs0,.i τ1 vs1,.i τ2 (x.db.opn.map S),.i τ3 (x.lines.map S),S x.out]∧RL bFl x.files vs0∧RL bCl x.db.clauses vs1
def oSe(x:Se):V:= .a [.o 2 (x.files.map oFl),.o 9 (x.db.clauses.map oCl),.o 1 (x.db.opn.map S),.o 1 (x.lines.map S),S x.out]
def iSe(τ:Bool) (x:Se):V:= .a [.i τ (x.files.map (iFl τ)),.i τ (x.db.clauses.map (iCl τ)),.i τ (x.db.opn.map S),.i τ (x.lines.map S),S x.out]
def wSe(x:Se):Prop:=(x.files.length≤Lm∧ ∀ y ∈ x.files,wFl y)∧wDb x.db∧(x.lines.length≤Lm∧ ∀ y ∈ x.lines,wS y)∧wS x.out
theorem qeV(τ:Bool) (x:Se):qX τ (oSe x)=iSe τ x:=by simp only [oSe,iSe,go_sem]
theorem qgP(x:Se):qW (oSe x)=true:=by simp only [oSe,go_sem]
theorem qgK(x:Se):qW (iSe false x)=true:=by simp only [iSe,go_sem]
@[go_sem] theorem qGW(τ:Bool) (x:Se):zb (iSe τ x)=true:=rfl
@[go_sem] theorem qwQ(m:Nat) (T:Mem) (τ:Bool) (x:Se):qu (m+2) T (iSe τ x)=(iSe τ x,T):=rfl
@[go_sem] theorem qxe(τ τ':Bool) (x:Se):qX τ (iSe τ' x)=iSe τ' x:=rfl
@[go_sem] theorem qAu(d:Nat) (τ:Bool) (x:Se):qJ d (iSe τ x)=iSe τ x:=rfl
@[go_sem] theorem qxH(τ:Bool) (x:Se):yK (iSe τ x)=[]:=rfl
@[go_sem] theorem qzR(τ:Bool) (x:Se):(iSe τ x).isA=true:=rfl
@[go_sem] theorem qAV(τ:Bool) (x:Se):qT true 5 (iSe τ x) 0=some (iSe τ x):=rfl
@[go_sem] theorem qvO(τ:Bool) (x:Se):(iSe τ x).cells=[.i τ (x.files.map (iFl τ)),.i τ (x.db.clauses.map (iCl τ)),.i τ (x.db.opn.map S),.i τ (x.lines.map S),S x.out]:=rfl
@[go_sem] theorem qeD(x:Se):clE (oSe x)=true:=rfl
@[go_sem] theorem qv3(τ:Bool) (x:Se):clE (iSe τ x)=true:=rfl
attribute [go_sem] qeV qgP qgK
@[go_sem] theorem qw3(τ:Bool) (l:List Se):qY τ (l.map oSe)=l.map (iSe τ):=kW (qeV τ) l
@[go_sem] theorem qCv(l:List Se):zg (l.map oSe)=true:=yV qgP l
@[go_sem] theorem qCC(l:List Se):zg (l.map (iSe false))=true:=yV qgK l
@[go_sem] theorem qeL(l:List Se):qx (l.map oSe)=true:=kq qeD l
@[go_sem] theorem qA9(m:Nat) (T:Mem) (l:List Se):qv (ze m) T (l.map oSe)=(l.map oSe,T):=kA m T _ (qeL l)
@[go_sem] theorem qFb(k:Key) (ob:Ob) (l:List Se):zx k ob (l.map oSe)=none:=j3 k ob _ (qeL l)
@[go_sem] theorem qAe(d:Nat) (l:List Se):qA d (l.map oSe)=l.map oSe:=kZ qeD d l
end Go.Vm
namespace Go.Vm
structure Rq where
 kind:Int
 name:Str
 text:Str
noncomputable instance:DecidableEq Rq:=fun a b=>Classical.propDecidable (a=b)
def bRq(x:Rq) (v:V):Prop:=v= .a [I x.kind,S x.name,S x.text]
def oRq(x:Rq):V:= .a [I x.kind,S x.name,S x.text]
def iRq(τ:Bool) (x:Rq):V:= .a [I x.kind,S x.name,S x.text]
def wRq(x:Rq):Prop:=inI x.kind∧wS x.name∧wS x.text
theorem qeU(τ:Bool) (x:Rq):qX τ (oRq x)=iRq τ x:=by simp only [oRq,iRq,go_sem]
theorem qgO(x:Rq):qW (oRq x)=true:=by simp only [oRq,go_sem]
theorem qgJ(x:Rq):qW (iRq false x)=true:=by simp only [iRq,go_sem]
@[go_sem] theorem qGV(τ:Bool) (x:Rq):zb (iRq τ x)=true:=rfl
@[go_sem] theorem qwP(m:Nat) (T:Mem) (τ:Bool) (x:Rq):qu (m+2) T (iRq τ x)=(iRq τ x,T):=rfl
@[go_sem] theorem qxd(τ τ':Bool) (x:Rq):qX τ (iRq τ' x)=iRq τ' x:=rfl
@[go_sem] theorem qAt(d:Nat) (τ:Bool) (x:Rq):qJ d (iRq τ x)=iRq τ x:=rfl
@[go_sem] theorem qxG(τ:Bool) (x:Rq):yK (iRq τ x)=[]:=rfl
@[go_sem] theorem qzQ(τ:Bool) (x:Rq):(iRq τ x).isA=true:=rfl
@[go_sem] theorem qAU(τ:Bool) (x:Rq):qT true 3 (iRq τ x) 0=some (iRq τ x):=rfl
@[go_sem] theorem qvN(τ:Bool) (x:Rq):(iRq τ x).cells=[I x.kind,S x.name,S x.text]:=rfl
@[go_sem] theorem qeC(x:Rq):clE (oRq x)=true:=rfl
@[go_sem] theorem qv2(τ:Bool) (x:Rq):clE (iRq τ x)=true:=rfl
attribute [go_sem] qeU qgO qgJ
@[go_sem] theorem qw2(τ:Bool) (l:List Rq):qY τ (l.map oRq)=l.map (iRq τ):=kW (qeU τ) l
@[go_sem] theorem qCu(l:List Rq):zg (l.map oRq)=true:=yV qgO l
@[go_sem] theorem qCB(l:List Rq):zg (l.map (iRq false))=true:=yV qgJ l
@[go_sem] theorem qeK(l:List Rq):qx (l.map oRq)=true:=kq qeC l
@[go_sem] theorem qA8(m:Nat) (T:Mem) (l:List Rq):qv (ze m) T (l.map oRq)=(l.map oRq,T):=kA m T _ (qeK l)
@[go_sem] theorem qFa(k:Key) (ob:Ob) (l:List Rq):zx k ob (l.map oRq)=none:=j3 k ob _ (qeK l)
@[go_sem] theorem qAd(d:Nat) (l:List Rq):qA d (l.map oRq)=l.map oRq:=kZ qeC d l
end Go.Vm
set_option linter.unusedSectionVars false
namespace Go.Vm
open Go.RowKit (Below)
def yS(P:Program) (e:TypeId) (zs:List V):V:=
 match P.underlying e with
 |some (.struct _)=> .a zs
 |_=>zs.headD .d
mutual
def Shp(P:Program):Nat→TypeId→List V→Prop
 |0,_,_=>False
 |n+1,t,xs=>match P.underlying t with
  |some .bool=> ∃ b,xs=[B b]
  |some (.int k)=> ∃ m,xs=[.v (.int k m)]∧(Lit.int k m).wf=true
  |some .string=> ∃ l,xs=[S l]
  |some (.slice e)=> ∃ ys:List V,xs=[.i false ys]∧ ∀ y ∈ ys,∃ zs,Shp P n e zs∧y=yS P e zs
  |some (.struct fs)=> ∃ parts:List (List V),xs=parts.flatten∧Kw P n (fs.toList.map (·.type)) parts
  |_=>False
def Kw(P:Program):Nat→List TypeId→List (List V)→Prop
 |_,[],[]=>True
 |n,t::ts,p::ps=>Shp P n t p∧Kw P n ts ps
 |_,_,_=>False
end
mutual
def xn:V→Nat
 | .v (.string s)=>s.size+1
 | .i _ xs=>zd xs+1
 | .o _ xs=>zd xs+1
 | .a xs=>zd xs
 |_=>1
def zd:List V→Nat
 |[]=>0
 |x::xs=>xn x+zd xs
end
theorem qer: ∀ (xs ys:List V),zd (xs++ys)=zd xs+zd ys
 |[],ys=>by simp [zd]
 |x::xs,ys=>by simp [zd,qer xs ys,Nat.add_assoc]
mutual
def z4 {H:Type}:DataW H→Nat
 | .lit (.string bytes)=>bytes.length+1
 | .lit _=>1
 | .nil=>1
 | .ptr d=>z4 d+1
 | .slice elems spare=>xZ elems+xZ spare+1
 | .agg parts=>xZ parts+1
 |_=>1
def xZ {H:Type}:List (DataW H)→Nat
 |[]=>0
 |d::r=>z4 d+xZ r
end
def qat(P:Program):Nat→List Field→Bool
 |_,[]=>true
 |n,f::fs=>decide (f.offset=n)&&qat P (n+P.cellsOf f.type) fs
def KS(P:Program):List Field→Nat
 |[]=>0
 |f::fs=>P.cellsOf f.type+KS P fs
def ZH(P:Program) (S:List TypeId) (t:TypeId):Bool:=
 match P.underlying t with
 |some .bool|some (.int _)|some .string=>decide (P.cellsOf t=1)
 |some (.slice e)=>decide (P.cellsOf t=1)&&S.contains e&&decide (0 < P.cellsOf e)
 |some (.struct fs)=>qat P 0 fs.toList&&decide (KS P fs.toList=P.cellsOf t)&&fs.toList.all fun f=>S.contains f.type
 |_=>false
def xF(w:World):Env:={w,I:=fun _ b=>b < w.heap.size,μ:=fun _=>none}
def yl(P:Program) (t:TypeId):Bool:=match P.underlying t with|some (.struct _)=>true|_=>false
def QW(P:Program) (t:TypeId) (cs:List Value):Value:=
 match P.underlying t with
 |some (.struct _)=> .agg cs.toArray
 |_=>cs.headD undef
section
variable {H:Type} {enc:TypeId × Value→H} {P:Program} {w:World} {St:List TypeId}
theorem qey {a:Addr} {n:Nat} {cs:List Value} (h:w.cells? 0 a n=some cs) (hn:0 < n):
 a.spot=none∧ ∃ cells T fz,w.heap[a.block]? =some (.cells cells T fz)∧cs=seg cells a.off n∧a.off+n≤cells.size∧a.block < w.heap.size:=by
 unfold World.cells? at h
 rw [if_pos (Nat.zero_le _)]at h
 have hl:cs.length=n:=by simpa using mapM_some_length h
 have hg: ∀ i,i < n→w.cell? (a.add i)=cs[i]? :=fun i hi=>mapM_some_get h i i (by simp [hi])
 have h0:=hg 0 hn
 have hc0:cs[0]? =some cs[0]:=List.getElem?_eq_getElem (by omega)
 rw [hc0]at h0
 simp only [Addr.add,if_true,World.cell?]at h0
 split at h0
 case h_2=>cases h0
 rename_i cells T fz hw
 split at h0
 ·cases h0
 rename_i hsp
 have hsp':a.spot=none:=by simpa using hsp
 refine ⟨hsp',cells,T,fz,hw, ?_, ?_,(Array.getElem?_eq_some_iff.1 hw).1⟩
 ·apply List.ext_getElem?
  intro i
  by_cases hi:i < n
  ·have:=hg i hi
   rw [← this]
   have e1:(a.add i).block=a.block∧(a.add i).off=a.off+i∧(a.add i).spot=none:=by
    unfold Addr.add
    split
    ·subst i;exact ⟨rfl,rfl,hsp'⟩
    ·exact ⟨rfl,rfl,rfl⟩
   simp only [World.cell?,e1.1,hw,e1.2.1,e1.2.2]
   simp only [seg,List.getElem?_take,hi,if_true,List.getElem?_drop,Array.getElem?_toList]
   simp
  ·rw [List.getElem?_eq_none (by omega)]
   simp [seg,List.getElem?_take,hi]
 ·have h1:=hg (n - 1) (by omega)
  have e1:(a.add (n - 1)).block=a.block∧(a.add (n - 1)).off=a.off+(n - 1)∧(a.add (n - 1)).spot=none:=by
   unfold Addr.add
   split
   ·rename_i h;rw [h];exact ⟨rfl,rfl,hsp'⟩
   ·exact ⟨rfl,rfl,rfl⟩
  simp only [World.cell?,e1.1,hw,e1.2.1,e1.2.2]at h1
  have hcn:cs[n - 1]? =some cs[n - 1]:=List.getElem?_eq_getElem (by omega)
  rw [hcn]at h1
  have:a.off+(n - 1) < cells.size:=by
   simp only [Option.isSome_none,Bool.false_eq_true,if_false]at h1
   exact (Array.getElem?_eq_some_iff.1 h1).1
  omega
theorem qj7:(xF w).cl=xF w:=rfl
theorem qh5 {t:TypeId} {xs:List V} {cs:List Value} (h:qj (xF w) xs cs c0) (hst:yl P t=true∨(xs.length=1∧zX cs)):
 Rel (xF w) (yS P t xs) (QW P t cs) c0∧(zX cs→(yS P t xs).cells.length=xs.length∨(yS P t xs).isA=true):=by
 unfold yS QW
 unfold yl at hst
 split at hst
 ·rename_i fs hu
  refine ⟨?_,fun _=> .inr ?_⟩
  ·simp only [Rel];exact ⟨cs.toArray,rfl,by simpa using h⟩
  ·rfl
 ·rename_i hns
  rcases hst with hst|⟨hst,hon⟩
  ·cases hst
  match xs,hst with
  |[x],_=>
   obtain ⟨y,rfl,hr⟩:=Jc h
   refine ⟨by simpa using hr,fun _=> ?_⟩
   by_cases hx:(V.isA x)=true
   ·exact .inr (by simpa using hx)
   ·left
    cases x<;>first|rfl|exact absurd rfl hx
def Rd(P:Program) (w:World) (H:Type) (enc:TypeId × Value→H) (n:Nat) (t:TypeId) (cs:List Value) (d:DataW H):Prop:=
 ∃ xs,qj (xF w) xs cs c0∧Shp P n t xs∧zd xs≤z4 d∧cs.length=P.cellsOf t∧zX cs∧(yl P t=false→ ∃ x,xs=[x]∧x.isA=false)
theorem qno(s:ByteArray):zX [Value.string s]:=by intro z hz;simp at hz;subst hz;rfl
theorem qjd(s:ByteArray):V.v (.string s)=S s.data.toList:=by simp [S]
theorem qe7 {n:Nat} (IH: ∀ t cs d ps,t ∈ St→DataW.trod enc P w 0 (fun _=>true) true n t cs=some (d,ps)→Rd P w H enc n t cs d) (cs:List Value):
 ∀ (fs:List Field) (off:Nat) (xs:List (DataW H × List MemPlace)),qat P off fs=true→off+KS P fs=cs.length→(fs.all fun f=>St.contains f.type)=true→
  xs.length=fs.length→(∀ (i:Nat) (f:Field),fs[i]? =some f→DataW.trod enc P w 0 (fun _=>true) true n f.type ((cs.drop f.offset).take (P.cellsOf f.type))=xs[i]?)→
  ∃ parts,qj (xF w) parts.flatten (cs.drop off) c0∧Kw P n (fs.map (·.type)) parts∧zd parts.flatten≤xZ (xs.map (·.1))∧zX (cs.drop off)
 |[],off,xs,_,hs,_,hl,_=>by
  have:xs=[]:=by simpa using hl
  subst this
  have hd:cs.drop off=[]:=List.drop_eq_nil_of_le (by simp only [KS]at hs;omega)
  rw [hd]
  exact ⟨[],by simp [qj],by simp [Kw],by simp [zd],by intro z hz;cases hz⟩
 |f::fs,off,[],_,_,_,hl,_=>by simp at hl
 |f::fs,off,x::xs,ho,hs,ha,hl,hg=>by
  simp only [qat,Bool.and_eq_true,decide_eq_true_eq]at ho
  simp only [List.all_cons,Bool.and_eq_true]at ha
  simp only [KS]at hs
  have h0:=hg 0 f rfl
  rw [ho.1]at h0
  simp only [List.getElem?_cons_zero]at h0
  obtain ⟨ys,hr,hsh,hb,hlen,hon,-⟩:=IH f.type _ x.1 x.2 (by simpa using ha.1) h0
  obtain ⟨parts,hr',hsh',hb',hon'⟩:=qe7 IH cs fs (off+P.cellsOf f.type) xs ho.2 (by omega) ha.2 (by simpa using hl) (fun i f' hf'=>by simpa using hg (i+1) f' (by simpa using hf'))
  have hsplit:cs.drop off=(cs.drop off).take (P.cellsOf f.type)++cs.drop (off+P.cellsOf f.type):=by
   rw [← List.drop_drop,List.take_append_drop]
  refine ⟨ys::parts, ?_, ?_, ?_, ?_⟩
  ·rw [hsplit,List.flatten_cons]
   have:=kD hr hr'
   rwa [Qz]at this
  ·simp only [List.map_cons,Kw];exact ⟨hsh,hsh'⟩
  ·simp only [List.flatten_cons,qer,List.map_cons,xZ];omega
  ·rw [hsplit]
   intro z hz
   rcases List.mem_append.1 hz with h|h
   ·exact hon z h
   ·exact hon' z h
theorem qe1 {n e:Nat} (he:e ∈ St) (hpos:0 < P.cellsOf e) (IH: ∀ t cs d ps,t ∈ St→DataW.trod enc P w 0 (fun _=>true) true n t cs=some (d,ps)→Rd P w H enc n t cs d)
 (a:Addr) (cells:Array Value):
 ∀ (elems:List (DataW H × List MemPlace)) (off:Nat),(∀ i,i < elems.length→((w.cells? 0 ⟨a.block,a.off+(off+i)*P.cellsOf e,none⟩ (P.cellsOf e)).bind (DataW.trod enc P w 0 (fun _=>true) true n e))=elems[i]?)→
  (∃ T fz,w.heap[a.block]? =some (.cells cells T fz))→
  ∃ ys,ys.length=elems.length∧qk (xF w) (P.cellsOf e) ys (seg cells (a.off+off*P.cellsOf e) (elems.length*P.cellsOf e)) c0∧(∀ y ∈ ys,∃ zs,Shp P n e zs∧y=yS P e zs)∧zd ys≤xZ (elems.map (·.1))
 |[],off,_,_=>⟨[],rfl,by simp [qk,seg],by simp,by simp [zd]⟩
 |x::elems,off,hg,hw=>by
  have h0:=hg 0 (by simp)
  simp only [Nat.add_zero,List.getElem?_cons_zero,Option.bind_eq_some_iff]at h0
  obtain ⟨cs,hcs,hx⟩:=h0
  obtain ⟨xs,hr,hsh,hb,hlen,hon,hns⟩:=IH e cs x.1 x.2 he hx
  obtain ⟨ys,hyl,hyr,hys,hyb⟩:=qe1 he hpos IH a cells elems (off+1) (fun i hi=>by
   have:=hg (i+1) (by simp;omega)
   rw [show off+1+i=off+(i+1)by omega];simpa using this) hw
  obtain ⟨T,fz,hw'⟩:=hw
  obtain ⟨-,cells',T',fz',hw'',hseg,hle,-⟩:=qey hcs hpos
  simp only [hw']at hw''
  obtain ⟨rfl,rfl,rfl⟩:cells=cells'∧T=T'∧fz=fz':=by simpa using hw''
  have hst:yl P e=true∨(xs.length=1∧zX cs):=by
   cases hi:yl P e
   ·obtain ⟨x',hx',-⟩:=hns hi;exact .inr ⟨by simp [hx'],hon⟩
   ·exact .inl rfl
  have hrel:=(qh5 (P:=P) (t:=e) hr hst).1
  have hlx:=yE hr
  have hval:(QW P e cs).cells.toList=cs∧(yS P e xs).cells.length=P.cellsOf e∧xn (yS P e xs)≤zd xs:=by
   unfold QW yS
   cases hi:yl P e
   ·obtain ⟨x',rfl,hxa⟩:=hns hi
    obtain ⟨y,rfl,hr1⟩:=Jc hr
    have hy:y.oneCell=true:=hon y (by simp)
    unfold yl at hi
    split at hi
    ·cases hi
    ·rename_i hq
     refine ⟨?_, ?_, ?_⟩
     ·simp only [List.headD_cons];cases y<;>first|rfl|(simp [Value.oneCell]at hy)
     ·simp only [List.headD_cons];rw [← hlen,List.length_singleton];cases x'<;>first|rfl|(simp [V.isA]at hxa)
     ·simp [zd]
   ·unfold yl at hi
    split at hi
    ·refine ⟨by simp [Value.cells], ?_, ?_⟩
     ·simp only [V.cells];omega
     ·simp [xn]
    ·cases hi
  refine ⟨yS P e xs::ys,by simp [hyl], ?_, ?_, ?_⟩
  ·simp only [qk]
   refine ⟨QW P e cs,seg cells (a.off+(off+1)*P.cellsOf e) (elems.length*P.cellsOf e),c0,c0, ?_, ?_,hval.2.1, ?_,hrel,hyr,rfl⟩
   ·rw [hval.1,hseg]
    simp only [seg,List.length_cons]
    have e1:(elems.length+1)*P.cellsOf e=P.cellsOf e+elems.length*P.cellsOf e:=by rw [Nat.add_mul];omega
    have e2:a.off+(off+1)*P.cellsOf e=a.off+off*P.cellsOf e+P.cellsOf e:=by rw [Nat.add_mul];omega
    rw [e1,List.take_add,e2,List.drop_drop]
   ·have hq:(QW P e cs).cells.size=cs.length:=by rw [← Array.length_toList,hval.1]
    rw [hq,hlen]
   ·rw [hval.1];exact hon
  ·intro y hy
   rcases List.mem_cons.1 hy with rfl|hy
   ·exact ⟨xs,hsh,rfl⟩
   ·exact hys y hy
  ·simp only [zd,List.map_cons,xZ];have:=hval.2.2;omega
theorem qiS(hS: ∀ t ∈ St,ZH P St t=true): ∀ (n:Nat) (t:TypeId) (cs:List Value) (d:DataW H) (ps:List MemPlace),t ∈ St→
 DataW.trod enc P w 0 (fun _=>true) true n t cs=some (d,ps)→Rd P w H enc n t cs d
 |0,t,cs,d,ps,_,h=>by simp [DataW.trod]at h
 |n+1,t,cs,d,ps,ht,h=>by
  have IH:=qiS hS n
  have hok:=hS t ht
  unfold ZH at hok
  split at hok
  ·rename_i hu
   obtain ⟨b,rfl,hx⟩:=DataW.trod_bool hu h
   refine ⟨[B b], ?_, ?_, ?_, ?_, ?_,fun _=>⟨_,rfl,rfl⟩⟩
   ·exact yn (by simp [B,Rel,yj])
   ·simp only [Shp,hu];exact ⟨b,rfl⟩
   ·simp only [Prod.mk.injEq]at hx;rw [hx.1];simp [zd,xn,B,z4]
   ·simpa using (of_decide_eq_true hok).symm
   ·intro z hz;simp at hz;subst hz;rfl
  ·rename_i k hu
   obtain ⟨m,rfl,hx,hwf⟩:=DataW.trod_int hu h
   refine ⟨[.v (.int k m)], ?_, ?_, ?_, ?_, ?_,fun _=>⟨_,rfl,rfl⟩⟩
   ·exact yn (by simp [Rel,yj])
   ·simp only [Shp,hu];exact ⟨m,rfl,hwf⟩
   ·simp only [Prod.mk.injEq]at hx;rw [hx.1];simp [zd,xn,z4]
   ·simpa using (of_decide_eq_true hok).symm
   ·intro z hz;simp at hz;subst hz;rfl
  ·rename_i hu
   obtain ⟨s,rfl,hx,-⟩:=DataW.trod_string hu h
   refine ⟨[.v (.string s)], ?_, ?_, ?_, ?_, ?_,fun _=>⟨_,rfl,rfl⟩⟩
   ·exact yn (by simp [Rel,yj])
   ·simp only [Shp,hu];exact ⟨s.data.toList,by rw [qjd]⟩
   ·simp only [Prod.mk.injEq]at hx;rw [hx.1];show s.data.size+1+0≤s.data.toList.length+1;simp
   ·simpa using (of_decide_eq_true hok).symm
   ·exact qno s
  ·rename_i e hu
   simp only [Bool.and_eq_true,decide_eq_true_eq,List.contains_iff_mem]at hok
   obtain ⟨⟨hc1,heS⟩,hpos⟩:=hok
   rcases DataW.trod_slice hu h with ⟨rfl,hx⟩|⟨a,len,cap,elems,rest,m,hm,rfl,hx,-,hle,-,hel,hg,-,-⟩
   ·refine ⟨[.i false []], ?_, ?_, ?_, ?_, ?_,fun _=>⟨_,rfl,rfl⟩⟩
    ·exact yn (by simp only [Rel];exact ⟨by trivial,none,0,rfl,Nat.le_refl _,.inl trivial⟩)
    ·simp only [Shp,hu];exact ⟨[],rfl,by simp⟩
    ·simp only [Prod.mk.injEq]at hx;rw [hx.1];simp [zd,xn,z4]
    ·simpa using hc1.symm
    ·intro z hz;simp at hz;subst hz;rfl
   ·have hmn:m=n:=by omega
    subst hmn
    by_cases hz:len=0
    ·subst hz
     refine ⟨[.i false []], ?_, ?_, ?_, ?_, ?_,fun _=>⟨_,rfl,rfl⟩⟩
     ·exact yn (by simp only [Rel];exact ⟨by trivial,some a,cap,rfl,Nat.zero_le _,.inl trivial⟩)
     ·simp only [Shp,hu];exact ⟨[],rfl,by simp⟩
     ·simp only [Prod.mk.injEq]at hx;rw [hx.1];simp [zd,xn,z4]
     ·simpa using hc1.symm
     ·intro z hz;simp at hz;subst hz;rfl
    ·have h0:=hg 0 (by omega)
     have he0:elems[0]? =some elems[0]:=List.getElem?_eq_getElem (by omega)
     rw [he0,Option.bind_eq_some_iff]at h0
     obtain ⟨cs0,hcs0,-⟩:=h0
     have ha0:a.add (0*P.cellsOf e)=a:=by simp [Addr.add]
     rw [ha0]at hcs0
     obtain ⟨hsp,cells,T,fz,hw,-,-,hlt⟩:=qey hcs0 hpos
     have ha:a=⟨a.block,a.off,none⟩:=by obtain ⟨b,o,s⟩:=a;simp only at hsp;subst hsp;rfl
     obtain ⟨ys,hyl,hyr,hys,hyb⟩:=qe1 heS hpos IH a cells elems 0 (fun i hi=>by
      have:=hg i (by omega)
      rw [← this]
      congr 2
      rw [Nat.zero_add]
      unfold Addr.add
      split
      ·rename_i hq;rw [hq,Nat.add_zero];exact ha.symm
      ·rfl) ⟨T,fz,hw⟩
     simp only [Nat.zero_mul,Nat.add_zero]at hyr
     refine ⟨[.i false ys], ?_, ?_, ?_, ?_, ?_,fun _=>⟨_,rfl,rfl⟩⟩
     ·refine yn ?_
      simp only [Rel]
      refine ⟨by trivial,some a,cap,by rw [hyl,hel],by omega,.inr ⟨a.block,a.off,P.cellsOf e,cells,T,fz,by rw [← ha],hlt,hw, ?_⟩⟩
      rw [hyl];exact hyr
     ·simp only [Shp,hu];exact ⟨ys,rfl,hys⟩
     ·simp only [Prod.mk.injEq]at hx;rw [hx.1];simp only [zd,xn,z4];omega
     ·simpa using hc1.symm
     ·intro z hz;simp at hz;subst hz;rfl
  ·rename_i fs hu
   simp only [Bool.and_eq_true,decide_eq_true_eq]at hok
   obtain ⟨xs,m,hm,hx,hlen,hxl,hg⟩:=DataW.trod_struct hu h
   have hmn:m=n:=by omega
   subst hmn
   obtain ⟨parts,h1,h2,h3,h4⟩:=qe7 IH cs fs.toList 0 xs hok.1.1 (by rw [hlen, ← hok.1.2];omega) hok.2 (by simpa using hxl) (fun i f hf=>hg i f (by simpa using hf))
   refine ⟨parts.flatten,by simpa using h1, ?_, ?_,hlen,by simpa using h4,fun hi=> ?_⟩
   ·simp only [Shp,hu];exact ⟨parts,rfl,h2⟩
   ·simp only [Prod.mk.injEq]at hx;rw [hx.1];simp only [z4];omega
   ·unfold yl at hi;rw [hu]at hi;cases hi
  ·cases hok
theorem qoA {f:Func} {s:ChangeSpec} {apart xG handsOn:Bool} {W W':World} {args:Array Value} {v:Value} {ds gs:List (DataW H)} {before pa pv:List MemPlace}
 (hW:DataW.Whole enc P f.params.toList s.vars apart W args.toList ds gs before)
 (hres: ∀ (b:Nat) (sp:Nat→Bool) (hd:Bool),DataW.TrodAll enc P W' b sp hd f.resultTypes.toList (v.resultList f.resultTypes.size) (s.fn H (ds++gs)).results [])
 (hargs: ∀ sp:Nat→Bool,(∀ p ∈ before,sp p.block=true)→DataW.TrodAll enc P W' 0 sp true f.params.toList args.toList (s.fn H (ds++gs)).args pa)
 (hvars: ∀ sp:Nat→Bool,(∀ p ∈ before,sp p.block=true)→DataW.TrodVars enc P W' sp s.vars (s.fn H (ds++gs)).vars pv)
 (hps:before=pa++pv) (hk:W.keptBut W' (· ∈ before)):
 s.post enc P f apart xG handsOn false W args v W':=by
 have z7: ∀ p ∈ before,(fun b=>decide (b < W.heap.size)) p.block=true:=fun p hp=>by simpa using hW.lt p hp
 refine ⟨ds,gs,before,[],pa,pv,hW,hres _ _ _,hargs _ z7,hvars _ z7,World.keptBut_mono (fun p hp=>⟨hp, ?_⟩) hk,fun h=>by cases h⟩
 rw [hps,List.mem_append]at hp
 exact Or.inr hp
theorem qjr {W W':World} (h:Below W.heap.size W W') (may:MemPlace→Prop):W.keptBut W' may:=by
 refine ⟨h.os,h.output,fun i hi=> ?_⟩
 rw [h.block i hi]
 have hx:W.heap[i]? =some W.heap[i]:=Array.getElem?_eq_getElem hi
 rw [hx]
 cases W.heap[i]with
 |cells c t fr=>exact ⟨rfl,rfl,rfl,fun _ _=>rfl⟩
 |map es clock=>exact .inr ⟨rfl,rfl⟩
 |_=>first|rfl|trivial
theorem qiR(hl:laidOutB P=true) {W W':World} (hb:Below W.heap.size W W'): ∀ {ts:List TypeId} {vs:List Value} {ds:List (DataW H)} {ps:List MemPlace},(ts.all fun t=>P.readableRec t&&decide (t < P.types.size))=true→
 DataW.TrodAll enc P W 0 (fun _=>true) true ts vs ds ps→(∀ p ∈ ps,p.block < W.heap.size)→ ∀ sp:Nat→Bool,(∀ p ∈ ps,sp p.block=true)→DataW.TrodAll enc P W' 0 sp true ts vs ds ps
 |[],[],[],ps,_,h,_,_,_=>h
 |t::ts,v::vs,d::ds,ps,hr,h,hlt,sp,hsp=>by
  simp only [List.all_cons,Bool.and_eq_true,decide_eq_true_eq]at hr
  obtain ⟨p,q,h1,h2,rfl⟩:=h
  refine ⟨p,q, ?_, ?_,rfl⟩
  ·exact WideElems.Trod_stays hl hr.1.1 hr.1.2 h1 (fun x hx=>hb.same (hlt x (List.mem_append_left _ hx))) (fun x hx=>hsp x (List.mem_append_left _ hx))
  ·exact qiR hl hb hr.2 h2 (fun x hx=>hlt x (List.mem_append_right _ hx)) sp (fun x hx=>hsp x (List.mem_append_right _ hx))
 |[],_::_,_,_,_,h,_,_,_=>h.elim
 |[],[],_::_,_,_,h,_,_,_=>h.elim
 |_::_,[],_,_,_,h,_,_,_=>h.elim
 |_::_,_::_,[],_,_,h,_,_,_=>h.elim
section
variable [Lay]
def qbw(w:World):Prop:=(∀ b,Lay.B b→b < w.heap.size)∧Lay.L w
theorem qke(w:World) (h:qbw w):Good (xF w) c0:=⟨fun _=>Nat.zero_le _,fun _ _ h=>⟨rfl,h⟩,fun _ h=>h,fun _ h=>absurd rfl h,⟨fun b hb=>h.1 b hb,h.2⟩⟩
theorem qme {prog:Nat→Option AE} (hK:Ql P prog) {f:FuncId} {xs:List V} {vs:List Value} {outs:List V} {fn:Func} (hfn:P.funcs[f]? =some fn) (hb:fn.body.isSome=true) (hn:(fn.name== "runtime.NumGoroutine")=false)
 (h:cw prog f xs=some (B true,outs)) (hr:qj (xF w) xs vs c0) (hL:qbw w):
 Calls P f vs.toArray w fun e w'=>e= .returned (.bool true)∧Below w.heap.size w w':=by
 obtain ⟨n,hn'⟩:=QC.1 h
 have hc:=Zn hK n f xs (B true) outs hn' (xF w) vs c0 (by rw [qj7];exact hr) (qke w hL)
 obtain ⟨code,hcode⟩:=Option.isSome_iff_exists.1 hb
 have hne:fn.name ≠ "runtime.NumGoroutine" :=by simpa using hn
 have hcf:(callFunc f vs.toArray).run P w= .ok (.enter f vs.toArray) w:=by
  simp [callFunc,hfn,hne,hcode]
 rw [show (xF w).w=w from rfl,hcf]at hc
 refine hc.2.mono ?_
 rintro e w' ⟨y,rfl,E',cr,co,rfl,hy,-,-,hA⟩
 refine ⟨?_,hA.os,hA.tape,hA.output,hA.size,fun b hb=>hA.frame b hb rfl⟩
 simp only [B,Rel]at hy
 rw [hy.1]
theorem qnl {base:Nat} {t:TypeId} {v:Value} (hok:ZH P St t=true) (h:Value.okWide P w .any base t v):
 (yl P t=true→ ∃ cs,v= .agg cs)∧(yl P t=false→v.cells.toList=[v]):=by
 unfold ZH at hok
 unfold Value.okWide at h
 unfold yl
 cases hu:P.underlying t with
 |none=>rw [hu]at hok;cases hok
 |some u=>
  rw [hu]at hok
  simp only [hu]at h ⊢
  cases u<;>first|cases hok|skip
  all_goals first
   |(obtain ⟨cs,rfl,-⟩:=h;exact ⟨fun _=>⟨cs,rfl⟩,fun h=>(by cases h)⟩)
   |skip
  all_goals refine ⟨fun h=>(by cases h),fun _=> ?_⟩
  all_goals cases v<;>first|rfl|skip
  all_goals exfalso;unfold Cell.okWide at h;rw [hu]at h;simp only at h;unfold Cell.ok at h;rw [hu]at h;exact h
theorem qjp(hS: ∀ t ∈ St,ZH P St t=true) {base:Nat} {t:TypeId} {v:Value} {d:DataW H} {ps:List MemPlace} (ht:t ∈ St) (hv:Value.okWide P w .any base t v) (h:DataW.Trod enc P w 0 (fun _=>true) true t v d ps):
 ∃ n xs,Rel (xF w) (yS P t xs) v c0∧Shp P n t xs∧zd xs≤z4 d:=by
 obtain ⟨n,h⟩:=h
 obtain ⟨xs,hr,hsh,hb,hlen,hon,hx⟩:=qiS hS n t v.cells.toList d ps ht h
 refine ⟨n,xs, ?_,hsh,hb⟩
 have hst:yl P t=true∨(xs.length=1∧zX v.cells.toList):=by
  cases hi:yl P t
  ·obtain ⟨x',hx',-⟩:=hx hi;exact .inr ⟨by simp [hx'],hon⟩
  ·exact .inl rfl
 have h1:=(qh5 (P:=P) (t:=t) hr hst).1
 have hl:=qnl (hS t ht) hv
 have:QW P t v.cells.toList=v:=by
  unfold QW
  unfold yl at hl
  split
  ·rename_i fs hu
   simp only [hu]at hl
   obtain ⟨cs,rfl⟩:=hl.1 trivial
   simp [Value.cells]
  ·rename_i hq
   have h2:v.cells.toList=[v]:=hl.2 (by
    split
    ·rename_i fs hu;exact absurd hu (hq fs)
    ·rfl)
   rw [h2];rfl
 rwa [this]at h1
theorem qmf {prog:Nat→Option AE} (hK:Ql P prog) (hl:laidOutB P=true) {f:FuncId} {fn:Func} (hfn:P.funcs[f]? =some fn) (hb:fn.body.isSome=true) (hn:(fn.name== "runtime.NumGoroutine")=false)
 {tb:TypeId} (hres:fn.resultTypes= #[tb]) (htb:P.underlying tb=some .bool) (hread:(fn.params.toList.all fun t=>P.readableRec t&&decide (t < P.types.size))=true)
 {s:ChangeSpec} (hvars:s.vars=[]) {apart xG handsOn:Bool} {W:World} {args:Array Value} {ds gs:List (DataW H)} {before:List MemPlace}
 (hW:DataW.Whole enc P fn.params.toList s.vars apart W args.toList ds gs before) (hspec:gs=[]→s.fn H (ds++gs)={results:=[.lit (.bool true)],args:=ds})
 (hL:qbw W) (hH: ∃ xs outs,qj (xF W) xs args.toList c0∧cw prog f xs=some (B true,outs)):
 Calls P f args W fun e W'=> ∃ v,e= .returned v∧s.post enc P fn apart xG handsOn false W args v W':=by
 obtain ⟨xs,outs,hr,hc⟩:=hH
 have hlt:=hW.lt
 have hW':=hW
 obtain ⟨p,q,hA,hV,rfl,hfz,hnd⟩:=hW
 rw [hvars]at hV
 obtain ⟨rfl,rfl⟩:gs=[]∧q=[]:=by
  cases gs with
  |nil=>exact ⟨rfl,hV⟩
  |cons=>exact hV.elim
 have hsp:=hspec rfl
 have hcall:=qme hK hfn hb hn hc hr hL
 rw [Array.toArray_toList]at hcall
 refine hcall.mono ?_
 rintro e W' ⟨rfl,hbel⟩
 refine ⟨_,rfl,qoA (pa:=p) (pv:=[]) hW' ?_ ?_ ?_ rfl (qjr hbel _)⟩
 ·intro b sp hd
  rw [hsp,hres]
  exact ChangeShapes.trodAll_mk1 (RowKit.shut_bool htb true)
 ·intro sp hsp'
  rw [hsp]
  exact qiR hl hbel hread hA (fun x hx=>hlt x (by simpa using hx)) sp (fun x hx=>hsp' x (by simpa using hx))
 ·intro sp _
  rw [hsp,hvars]
  rfl
end
theorem qp0 {n:Nat} {t e:TypeId} {xs:List V} (hu:P.underlying t=some (.slice e)) (h:Shp P n t xs): ∃ m ys,n=m+1∧xs=[.i false ys]∧ ∀ y ∈ ys,∃ zs,Shp P m e zs∧y=yS P e zs:=by
 cases n with
 |zero=>simp [Shp]at h
 |succ n=>simp only [Shp,hu]at h;obtain ⟨ys,h1,h2⟩:=h;exact ⟨n,ys,rfl,h1,h2⟩
theorem qqB {e:TypeId} {k:IntKind} {z:V} (hu:P.underlying e=some (.int k)):yS P e [z]=z:=by simp [yS,hu]
theorem qeu: ∀ {ys:List V} {y:V},y ∈ ys→xn y≤zd ys
 |x::xs,y,h=>by
  simp only [zd]
  rcases List.mem_cons.1 h with rfl|h
  ·omega
  ·have:=qeu h;omega
theorem qet: ∀ {ys:List V},(∀ y ∈ ys,1≤xn y)→ys.length≤zd ys
 |[],_=>Nat.zero_le _
 |x::xs,h=>by
  simp only [zd,List.length_cons]
  have:=qet (ys:=xs) fun y hy=>h y (by simp [hy])
  have:=h x (by simp)
  omega
theorem qif {α:Type} {R:α→V→Prop} {W:α→Prop}: ∀ {ys:List V},(∀ y ∈ ys,∃ t,R t y∧W t)→ ∃ ts,RL R ts ys∧ ∀ t ∈ ts,W t
 |[],_=>⟨[],rfl,by simp⟩
 |y::ys,h=>by
  obtain ⟨t,h1,h2⟩:=h y (by simp)
  obtain ⟨ts,h3,h4⟩:=qif (ys:=ys) fun z hz=>h z (by simp [hz])
  refine ⟨t::ts,by simp only [RL];exact ⟨y,ys,rfl,h1,h3⟩,fun u hu=> ?_⟩
  rcases List.mem_cons.1 hu with rfl|hu
  ·exact h2
  ·exact h4 u hu
structure TyTerm (P:Program) (tT tS ti ts:TypeId):Prop where
 hT: ∃ fs,P.underlying tT=some (.struct fs)∧fs.toList.map (·.type)=[ti,ts,ti,tS]
 hS:P.underlying tS=some (.slice tT)
 hi:P.underlying ti=some (.int .i64)
 hs:P.underlying ts=some .string
def RdC(P:Program) (t:TypeId) {α:Type} (Rc:α→List V→Prop) (W:α→Prop):Prop:=
 ∀ n xs,Shp P n t xs→zd xs≤Lm→1≤zd xs∧ ∃ x,Rc x xs∧W x
def cI(n:Int) (xs:List V):Prop:=xs=[I n]
def cB(b:Bool) (xs:List V):Prop:=xs=[B b]
def cS(s:Str) (xs:List V):Prop:=xs=[S s]
def cA {α:Type} (R:α→V→Prop) (x:α) (xs:List V):Prop:=R x (.a xs)
def cL {α:Type} (R:α→V→Prop) (l:List α) (xs:List V):Prop:= ∃ vs,xs=[.i false vs]∧RL R l vs
def wL {α:Type} (W:α→Prop) (l:List α):Prop:=l.length≤Lm∧ ∀ x ∈ l,W x
theorem qbG {e:TypeId}: ∀ (zs:List V),(yl P e=false→ ∃ z,zs=[z])→xn (yS P e zs)=zd zs:=by
 intro zs hz
 unfold yS
 unfold yl at hz
 split
 ·simp [xn]
 ·rename_i hq
  obtain ⟨z,rfl⟩:=hz (by split;(rename_i fs hu;exact absurd hu (hq fs));rfl)
  simp [zd]
theorem qo1 {α:Type} {Rc:α→List V→Prop} {R:α→V→Prop} {W:α→Prop} {tl te:TypeId} (hu:P.underlying tl=some (.slice te)) (he:RdC P te Rc W) (hw: ∀ x zs,Rc x zs→R x (yS P te zs)∧(yl P te=false→ ∃ z,zs=[z])):
 RdC P tl (cL R) (wL W):=fun n xs h hb=>by
 obtain ⟨m,ys,rfl,rfl,hys⟩:=qp0 hu h
 have e3:zd [V.i false ys]=zd ys+1:=by simp [xn,zd]
 rw [e3]at hb ⊢
 have hall: ∀ y ∈ ys,1≤xn y∧ ∃ t,R t y∧W t:=by
  intro y hy
  obtain ⟨zs,hz,rfl⟩:=hys y hy
  have hle:=qeu hy
  obtain ⟨x0,hx0⟩: ∃ x,Rc x zs∧W x∧1≤zd zs:=by
   by_cases hbz:zd zs≤Lm
   ·obtain ⟨h1,x,h2,h3⟩:=he m zs hz hbz;exact ⟨x,h2,h3,h1⟩
   ·exfalso
    apply hbz
    cases hst:yl P te
    ·have: ∃ z,zs=[z]:=by
      unfold yl at hst
      cases m with
      |zero=>simp [Shp]at hz
      |succ m=>
       simp only [Shp]at hz
       split at hz
       ·obtain ⟨b,rfl⟩:=hz;exact ⟨_,rfl⟩
       ·obtain ⟨b,rfl,-⟩:=hz;exact ⟨_,rfl⟩
       ·obtain ⟨b,rfl⟩:=hz;exact ⟨_,rfl⟩
       ·obtain ⟨b,rfl,-⟩:=hz;exact ⟨_,rfl⟩
       ·rename_i fs hu';rw [hu']at hst;cases hst
       ·exact hz.elim
     have:=qbG (P:=P) (e:=te) zs (fun _=>this)
     omega
    ·have:=qbG (P:=P) (e:=te) zs (fun h=>by rw [hst]at h;cases h)
     omega
  obtain ⟨h1,h2⟩:=hw x0 zs hx0.1
  rw [qbG zs h2]
  exact ⟨hx0.2.2,x0,h1,hx0.2.1⟩
 obtain ⟨us,hr,hws⟩:=qif (R:=R) (W:=W) fun y hy=>(hall y hy).2
 have hlen:=qet fun y hy=>(hall y hy).1
 have hl:=Kv hr
 exact ⟨by omega,us,⟨ys,rfl,hr⟩,by omega,hws⟩
end
end Go.Vm
namespace Go.Vm
section
variable [Lay] {P:Program} {E:Env} {c:Cnt} {w':World}
structure Adds (w w':World):Prop where
 os:w'.os=w.os
 tape:w'.tape=w.tape
 output:w'.output=w.output
 size:w.heap.size≤w'.heap.size
 old: ∀ b,b < w.heap.size→w'.heap[b]? =w.heap[b]?
theorem Adds.refl(w:World):Adds w w:=⟨rfl,rfl,rfl,Nat.le_refl _,fun _ _=>rfl⟩
theorem Adds.adv(h:Adds E.w w') (hg:Good E c):Mono E {E with w:=w'} c∧Good {E with w:=w'} c∧Adv E c {E with w:=w'} c:=by
 refine ⟨⟨fun τ b hb=>⟨hb,h.old b (hg.imm τ b hb).2⟩,fun b hb=>h.old b (hg.bnd b hb),fun k l h=>h⟩,
  ⟨hg.one,fun τ b hb=>⟨(hg.imm τ b hb).1,Nat.lt_of_lt_of_le (hg.imm τ b hb).2 h.size⟩,hg.sub,fun b hb=>Nat.lt_of_lt_of_le (hg.bnd b hb) h.size,hg.lay.next (fun b hb=>hb) (fun b hb=>h.old b (hg.imm false b hb).2)⟩,
  ⟨fun b n hn=>by rw [JX (h.old b (qbF hn))];exact hn,h.os,h.tape,h.output,h.size,fun b hb _=>h.old b hb,fun _ _ h=>h,fun b hb=> .inl hb,fun τ b hb=> .inl hb⟩⟩
theorem qoJ {f:Nat} {fn:Func} {xs:List V} {r:V} {x:Value} (hfn:P.funcs[f]? =some fn) (hb:fn.body.isSome=true) (hn:(fn.name== "runtime.NumGoroutine")=false) (hr:r= .v x) (hx:yj x=false)
 (h: ∀ (E:Env) (vs:List Value),qj E.cl xs vs c0→Lay.L E.w→Calls P f vs.toArray E.w fun e w'=>e= .returned x∧Adds E.w w') (hz: ∀ (E:Env) vs c,qj E.cl xs vs c→c=c0):
 XJ P f xs r xs:=by
 intro E vs c hxs hg
 have h0:=hz E vs c hxs
 subst h0
 obtain ⟨code,hcode⟩:=Option.isSome_iff_exists.1 hb
 have hne:fn.name ≠ "runtime.NumGoroutine" :=by simpa using hn
 have hcf:(callFunc f vs.toArray).run P E.w= .ok (.enter f vs.toArray) E.w:=by
  simp [callFunc,hfn,hne,hcode]
 rw [hcf]
 refine ⟨rfl,(h E vs hxs hg.lay.ll).mono ?_⟩
 rintro e w' ⟨rfl,ha⟩
 obtain ⟨hm,hg',hA⟩:=ha.adv hg
 refine ⟨x,rfl,{E with w:=w'},c0,c0,rfl, ?_,yP hxs (hm.cl), ?_, ?_⟩
 ·subst hr;simp [Rel,hx]
 ·rw [Qz];exact hg'
 ·rw [Qz];exact hA
end
def qz2:List V→Option (V × List V)
 |[.v (.int .i64 n)]=>if -9223372036854775808≤n∧n≤9223372036854775807 then some (S (Lib.itoa n),[I n])else none
 |_=>none
theorem qeY {prog:Nat→Option AE} {f:Nat} {g:List V→Option (V × List V)} (h:prog f=some (.prim g)) (xs:List V):cw prog f xs=g xs:=by
 apply kw
 intro r
 rw [QC]
 constructor
 ·rintro ⟨n,hn⟩
  cases n with
  |zero=>simp [qR]at hn
  |succ n=>simpa only [qR,h]using hn
 ·intro hr
  exact ⟨1,by simpa only [qR,h]using hr⟩
def KV:List V→Option (V × List V)
 |[.v (.string s),.v (.int .u8 c)]=>some (I (Lib.indexByte s.data.toList c.toNat.toUInt8),[.v (.string s),.v (.int .u8 c)])
 |_=>none
theorem qjP {prog:Nat→Option AE} {f:Nat} (h:prog f=some (.prim KV)) (s:Str) (c:Int):cr prog f [S s,U8 c]=some (I (Lib.indexByte s c.toNat.toUInt8)):=by
 unfold cr
 rw [qeY h]
 rfl
def qqe:V→Option Str
 | .v (.string s)=>some s.data.toList
 |_=>none
def qiC:List V→Option (List Str)
 |[]=>some []
 |x::xs=>match qqe x,qiC xs with
  |some s,some ss=>some (s::ss)
  |_,_=>none
def qz5:List V→Option (V × List V)
 |[.i τ xs,.v (.string p)]=>match qiC xs with
  |some ss=>if xs.length≤140737488355328∧(Lib.join ss p.data.toList).length≤140737488355328 then some (S (Lib.join ss p.data.toList),[.i τ xs,.v (.string p)])else none
  |none=>none
 |_=>none
def qFX:List V→Option (V × List V)
 |[.v (.string s),.v (.string p)]=>match p.data.toList with
  |[c]=>if c.toNat < 128∧s.size≤9223372036854775807 then some (S (Lib.trimB s.data.toList c),[.v (.string s),.v (.string p)])else none
  |_=>none
 |_=>none
def qFO:List V→Option (V × List V)
 |[.v (.string s),.v (.string p)]=>match p.data.toList with
  |[c]=>if s.size < 4294967281 then some (.i false ((Lib.split s.data.toList [c]).map S),[.v (.string s),.v (.string p)])else none
  |_=>none
 |_=>none
end Go.Vm
