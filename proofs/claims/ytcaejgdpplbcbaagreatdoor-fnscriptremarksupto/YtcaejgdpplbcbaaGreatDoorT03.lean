import Derived.Test.YtcaejgdpplbcbaaGreatDoorT02
import Derived.Laws.Strings
import Derived.ChangeArms
import Derived.ProofKit
import Derived.OpenShut
import Derived.Sort.Grow
import Derived.Deep.Draws
import Derived.Lib.LaidTab
import Derived.Lib.ItoaNum
import Derived.Lib.Bytealg
import Derived.Lib.Join
import Derived.Lib.Split
import Derived.Lib.TrimByte
set_option autoImplicit false
set_option linter.unusedVariables false
set_option linter.unusedSimpArgs false
namespace Go.Vm
section
variable {prog:Nat→Option AE} {st:St} {σ:Sl} {T:Mem} {call:qQ} {a b:Int} {x y:List UInt8}
@[go_sem] theorem qxq:zl .add (I a) (I b)=some (I (w64 (a+b))):=(rfl)
@[go_sem] theorem qxy:zl .sub (I a) (I b)=some (I (w64 (a - b))):=(rfl)
@[go_sem] theorem qxw:zl .mul (I a) (I b)=some (I (w64 (a*b))):=(rfl)
@[go_sem] theorem qxv:zl .lss (I a) (I b)=some (B (decide (a < b))):=(rfl)
@[go_sem] theorem qxu:zl .leq (I a) (I b)=some (B (decide (a≤b))):=(rfl)
@[go_sem] theorem qxt:zl .gtr (I a) (I b)=some (B (decide (b < a))):=(rfl)
@[go_sem] theorem qxs:zl .geq (I a) (I b)=some (B (decide (b≤a))):=(rfl)
@[go_sem] theorem qxr:zl .eql (I a) (I b)=some (B (decide (a=b))):=by
 have:(a==b)=decide (a=b):=by rw [Bool.eq_iff_iff];simp
 exact congrArg (fun t=>some (B t)) this
@[go_sem] theorem qxx:zl .neq (I a) (I b)=some (B (decide (a ≠ b))):=by
 have:(a != b)=decide (a ≠ b):=by rw [Bool.eq_iff_iff];simp
 exact congrArg (fun t=>some (B t)) this
@[go_sem] theorem qxk:zl .lss (U8 a) (U8 b)=some (B (decide (a < b))):=(rfl)
@[go_sem] theorem qxj:zl .leq (U8 a) (U8 b)=some (B (decide (a≤b))):=(rfl)
@[go_sem] theorem qxi:zl .gtr (U8 a) (U8 b)=some (B (decide (b < a))):=(rfl)
@[go_sem] theorem qxh:zl .geq (U8 a) (U8 b)=some (B (decide (b≤a))):=(rfl)
@[go_sem] theorem qxf:zl .add (U8 a) (U8 b)=some (U8 (IntKind.u8.wrap (a+b))):=(rfl)
@[go_sem] theorem qxg:zl .eql (U8 a) (U8 b)=some (B (decide (a=b))):=by
 have:(a==b)=decide (a=b):=by rw [Bool.eq_iff_iff];simp
 exact congrArg (fun t=>some (B t)) this
@[go_sem] theorem qxl:zl .neq (U8 a) (U8 b)=some (B (decide (a ≠ b))):=by
 have:(a != b)=decide (a ≠ b):=by rw [Bool.eq_iff_iff];simp
 exact congrArg (fun t=>some (B t)) this
theorem JD:(ByteArray.mk x.toArray).toList=x:=by rw [ByteArray.toList_eq]
@[go_sem] theorem qxm:zl .eql (S x) (S y)=some (B (decide (x=y))):=by
 have:(Op.stringOp .eql ⟨x.toArray⟩ ⟨y.toArray⟩).val? =some (.bool (decide (x=y))):=by
  simp only [Op.stringOp,JD]
  have:(x==y)=decide (x=y):=by rw [Bool.eq_iff_iff];simp
  rw [this];rfl
 exact congrArg (Option.map V.v) this
@[go_sem] theorem qxp:zl .neq (S x) (S y)=some (B (decide (x ≠ y))):=by
 have:(Op.stringOp .neq ⟨x.toArray⟩ ⟨y.toArray⟩).val? =some (.bool (decide (x ≠ y))):=by
  simp only [Op.stringOp,JD]
  have:(!x==y)=decide (x ≠ y):=by rw [Bool.eq_iff_iff];simp
  rw [this];rfl
 exact congrArg (Option.map V.v) this
@[go_sem] theorem qxo:zl .lss (S x) (S y)=some (B (Op.bytesLess x y)):=by
 have:(Op.stringOp .lss ⟨x.toArray⟩ ⟨y.toArray⟩).val? =some (.bool (Op.bytesLess x y)):=by
  simp only [Op.stringOp,JD];rfl
 exact congrArg (Option.map V.v) this
@[go_sem] theorem qxn:zl .gtr (S x) (S y)=some (B (!(Op.bytesLess x y||decide (x=y)))):=by
 have:(Op.stringOp .gtr ⟨x.toArray⟩ ⟨y.toArray⟩).val? =some (.bool (!(Op.bytesLess x y||decide (x=y)))):=by
  simp only [Op.stringOp,JD]
  have:(x==y)=decide (x=y):=by rw [Bool.eq_iff_iff];simp
  rw [this];rfl
 exact congrArg (Option.map V.v) this
theorem qv(h:x.length+y.length≤9223372036854775807):zl .add (S x) (S y)=some (S (x++y)):=by
 have:(Op.stringOp .add ⟨x.toArray⟩ ⟨y.toArray⟩).val? =some (.string ⟨(x++y).toArray⟩):=by
  simp only [Op.stringOp,ByteArray.size,List.size_toArray]
  rw [if_neg (by simp [IntKind.max,IntKind.signed,IntKind.bits];omega)]
  have:(ByteArray.mk x.toArray++ByteArray.mk y.toArray)=⟨(x++y).toArray⟩:=by
   apply ByteArray.ext
   simp
  rw [this];rfl
 exact congrArg (Option.map V.v) this
theorem qhg(h:b ≠ 0):zl .quo (I a) (I b)=some (I (w64 (a.tdiv b))):=by
 have:(Op.intDiv .quo .i64 a b).val? =some (.int .i64 (w64 (a.tdiv b))):=by
  simp only [Op.intDiv,if_neg h];rfl
 exact congrArg (Option.map V.v) this
theorem QF(h:b ≠ 0):zl .rem (I a) (I b)=some (I (a.tmod b)):=by
 have:(Op.intDiv .rem .i64 a b).val? =some (.int .i64 (a.tmod b)):=by
  simp only [Op.intDiv,if_neg h];rfl
 exact congrArg (Option.map V.v) this
@[go_sem] theorem qBC {p q:Bool}:eqV 0 (B p) (B q)=some (p==q):=(rfl)
@[go_sem] theorem qBE {e e':Nat}:eqV 2 (.n e) (.n e')=some true:=(rfl)
@[go_sem] theorem qBD {e:Nat} {τ:Bool} {z:V} {zs:List V}:eqV 2 (.i τ (z::zs)) (.n e)=some false:=(rfl)
@[go_sem] theorem qD6 {α β:Type} {f:α→β} {z:α}:(some z).map f=some (f z):=(rfl)
def ldO(ob:Option Ob) (idx:Nat) (agg:Bool) (size off:Nat):Option V:=
 match ob with
 |some ob=>qo ob.2[idx]? fun x=>qR agg size x off
 |none=>none
@[go_sem] theorem qDq {e idx size off:Nat} {xs:List V} {agg:Bool}:ldO (some (e,xs)) idx agg size off=qo xs[idx]? fun x=>qR agg size x off:=(rfl)
@[go_sem] theorem qDQ {k:Key} {idx off size:Nat} {agg:Bool}:yE T agg size (.p k idx off)=ldO (qq T k) idx agg size off:=by
 simp only [yE,ldO]
 cases qq T k with
 |none=>rfl
 |some ob=>simp only;cases ob.2[idx]? <;>rfl
@[go_sem] theorem qDR {τ:Bool} {xs:List V} {idx off size:Nat} {agg:Bool}:yE T agg size (.q τ xs idx off)=qo xs[idx]? fun x=>qR agg size x off:=by
 simp only [yE];cases xs[idx]? <;>rfl
@[go_sem] theorem qDB {n:Nat} {cs:List V} {off:Nat}:qR true n (.a cs) off=if off=0∧cs.length=n then some (.a cs)else if off+n≤cs.length then some (.a ((cs.drop off).take n))else none:=by
 unfold qR
 simp only [V.cells,V.isA,if_true]
 by_cases h:off=0∧cs.length=n
 ·simp only [h.1,h.2,and_self,if_true]
 ·rw [if_neg h,if_neg (fun h'=>h ⟨h'.1,h'.2.1⟩)];by_cases h2:off+n≤cs.length<;>simp only [h2,if_true,if_false]
@[go_sem] theorem qDC {n:Nat} {cs:List V} {off:Nat}:qR false n (.a cs) off=cs[off]? :=(rfl)
@[go_sem] theorem qDv {n:Nat}:qR false n (I a) 0=some (I a):=(rfl)
@[go_sem] theorem qDx {n:Nat}:qR false n (S x) 0=some (S x):=(rfl)
@[go_sem] theorem qDu {n:Nat} {p:Bool}:qR false n (B p) 0=some (B p):=(rfl)
@[go_sem] theorem qDz {n:Nat}:qR false n (U8 a) 0=some (U8 a):=(rfl)
@[go_sem] theorem qDE {n:Nat} {τ:Bool} {xs:List V}:qR false n (.i τ xs) 0=some (.i τ xs):=(rfl)
@[go_sem] theorem qDI {n:Nat} {k:Key} {lo len:Nat}:qR false n (.s k lo len) 0=some (.s k lo len):=(rfl)
@[go_sem] theorem qDH {n e:Nat} {xs:List V}:qR false n (.o e xs) 0=some (.o e xs):=(rfl)
@[go_sem] theorem qDG {n e:Nat}:qR false n (.n e) 0=some (.n e):=(rfl)
@[go_sem] theorem qDD {n:Nat} {fn:Fn} {xs ys:List V}:qR false n (.f fn xs ys) 0=some (.f fn xs ys):=(rfl)
def stO(T:Mem) (k:Key) (ob:Option Ob) (idx off:Nat) (y:V):Option Mem:=
 match ob with
 |some ob=>match ob.2[idx]? with
  |some x=>match kZ x off y with
   |some x'=>some ((k,ob.1,ob.2.set idx x')::qw T k)
   |none=>none
  |none=>none
 |none=>none
@[go_sem] theorem qIB {k:Key} {idx off:Nat} {y:V}:k7 T (.p k idx off) y=stO T k (qq T k) idx off y:=(rfl)
@[go_sem] theorem qIz {k:Key} {idx off e:Nat} {xs:List V} {y:V}:stO T k (some (e,xs)) idx off y=qo xs[idx]? fun x=>qo (kZ x off y) fun x'=>some ((k,e,xs.set idx x')::qw T k):=by
 simp only [stO]
 cases xs[idx]? with
 |none=>rfl
 |some x=>simp only [qo];cases kZ x off y<;>rfl
attribute [go_sem] kZ
@[go_sem] theorem qBo {z:V} {zs:List V}:(z::zs)[0]? =some z:=(rfl)
@[go_sem] theorem qBp {z:V} {zs:List V} {n:Nat}:(z::zs)[n+1]? =zs[n]? :=by simp
@[go_sem] theorem qIv {z z':V} {zs:List V}:(z::zs).set 0 z'=z'::zs:=(rfl)
@[go_sem] theorem qIw {z z':V} {zs:List V} {n:Nat}:(z::zs).set (n+1) z'=z::zs.set n z':=(rfl)
attribute [go_sem] List.length_cons List.length_nil List.take_zero List.take_succ_cons List.drop_zero List.drop_succ_cons List.nil_append List.cons_append List.append_nil List.length_append
def ixO(k:Key) (lo len e:Nat) (i:Int) (ob:Option Ob):Option V:=
 match ob with
 |some ob=>if ob.1=e∧lo+len≤ob.2.length then (zC i len).map fun j=> .p k (lo+j) 0 else none
 |none=>none
@[go_sem] theorem qwN {k:Key} {lo len e:Nat} {i:Int}:xC T e (.s k lo len) i=ixO k lo len e i (qq T k):=(rfl)
theorem jr {k:Key} {len e:Nat} {xs:List V} {i:Nat} (h:i < len) (hl:len≤xs.length):ixO k 0 len e (i:Int) (some (e,xs))=some (.p k i 0):=by
 simp only [ixO,zC]
 rw [if_pos ⟨trivial,by omega⟩,if_pos ⟨by omega,by omega⟩]
 simp
theorem kI {τ:Bool} {xs:List V} {e:Nat} {i:Nat} {z:V} (h:xs[i]? =some z) (hz:z.cells.length=e):xC T e (.i τ xs) (i:Int)=some (.q τ xs i 0):=by
 have hl:i < xs.length:=(List.getElem?_eq_some_iff.1 h).1
 simp only [xC,zC]
 rw [if_pos ⟨by omega,by omega⟩]
 simp only [Int.toNat_natCast,h,Option.getD_some,hz,if_true]
def elO(e lo len:Nat) (ob:Option Ob):Option (List V):=
 match ob with
 |some ob=>if ob.1=e∧lo+len≤ob.2.length then some ((ob.2.drop lo).take len)else none
 |none=>none
@[go_sem] theorem qBs {k:Key} {lo len e:Nat}:xD T e (.s k lo len)=elO e lo len (qq T k):=(rfl)
@[go_sem] theorem qBn {e e' lo len:Nat} {xs:List V}:elO e lo len (some (e',xs))=if e'=e∧lo+len≤xs.length then some ((xs.drop lo).take len)else none:=(rfl)
@[go_sem] theorem qBq {e:Nat} {τ:Bool} {xs:List V}:xD T e (.i τ xs)=some xs:=(rfl)
@[go_sem] theorem qBr {e e':Nat}:xD T e (.n e')=some []:=(rfl)
def apO(e lo len:Nat) (T':Mem) (ob:Option Ob):Option (List V × Mem):=
 match ob with
 |some ob=>if ob.1=e∧lo+len≤ob.2.length then some ((ob.2.drop lo).take len,T')else none
 |none=>none
@[go_sem] theorem qwS {e e':Nat}:kd T e (.n e')=some ([],T):=(rfl)
@[go_sem] theorem qwT {k:Key} {lo len e:Nat}:kd T e (.s k lo len)=apO e lo len (qw T k) (qq T k):=(rfl)
@[go_sem] theorem qwQ {e e' lo len:Nat} {xs:List V}:apO e lo len T (some (e',xs))=if e'=e∧lo+len≤xs.length then some ((xs.drop lo).take len,T)else none:=(rfl)
def jR {α:Type} (r:Option (List V × Mem)) (k:List V→Mem→Option α):Option α:=
 match r with
 |some (xs,T)=>k xs T
 |none=>none
@[congr] theorem qxP {α:Type} {r r':Option (List V × Mem)} {k:List V→Mem→Option α} (h:r=r'):jR r k=jR r' k:=by rw [h]
@[go_sem] theorem qxQ {α:Type} {xs:List V} {k:List V→Mem→Option α}:jR (some (xs,T)) k=k xs T:=(rfl)
@[go_sem] theorem qwR {e:Nat} {y:V}:QE T e y=zG (xD T e y) fun ys=>zt (yM ys) (some (ys,T)) (kd T e y):=by
 unfold QE
 cases xD T e y with
 |none=>rfl
 |some ys=>simp only [zG,zt]
@[go_sem] theorem qBT {d e bytes:Nat} {x y:AO}:qk call ⟨σ,T⟩ (.app d e bytes x y)=qo (ev σ x) fun x=>qo (ev σ y) fun y=>jR (QE T e y) fun ys Ty=>jR (kd Ty e x) fun xs T'=>
 y7 (QD e ys&&decide ((xs.length+ys.length)*bytes≤lim)&&decide (xs.length+ys.length≤lim))
  (some ⟨(d,.s (d,0) 0 (xs.length+ys.length))::yD d σ,((d,0),e,qC d (xs++ys))::wT d T'⟩):=by
 simp only [qk,qh,qaa]
 cases ev σ x with
 |none=>rfl
 |some x=>cases ev σ y with
  |none=>rfl
  |some y=>
   simp only [qo]
   cases QE T e y with
   |none=>rfl
   |some q=>
    obtain ⟨ys,Ty⟩:=q
    simp only [jR]
    cases kd Ty e x<;>rfl
theorem xG:lim=1099511627776:=(rfl)
def Yf(d:Option Nat) (k:Nat):Bool:=
 match d with
 |none=>false
 |some d=>decide (d=k)
@[go_sem] theorem qAH {k:Nat}:Yf none k=false:=(rfl)
@[go_sem] theorem qAI {d k:Nat}:Yf (some d) k=decide (d=k):=(rfl)
def jW {α:Type} (o:Option Nat) (x:α) (k:Nat→α):α:=
 match o with
 |none=>x
 |some d=>k d
@[congr] theorem qAJ {α:Type} {o o':Option Nat} {x:α} {k:Nat→α} (h:o=o'):jW o x k=jW o' x k:=by rw [h]
@[go_sem] theorem qAL {α:Type} {d:Nat} {x:α} {k:Nat→α}:jW (some d) x k=k d:=(rfl)
@[go_sem] theorem qAK {α:Type} {x:α} {k:Nat→α}:jW none x k=x:=(rfl)
@[go_sem] theorem qwV:zq call [] [] st=some st:=(rfl)
@[go_sem] theorem qwU {p:Dp} {ps:List Dp} {i:AI} {is:List AI}:zq call (p::ps) (i::is) st=xh (yJ call p i st) fun st=>zq call ps is st:=by
 simp only [zq];cases yJ call p i st<;>rfl
@[go_sem] theorem qIA {p:Dp} {i:AI}:yJ call p i ⟨σ,T⟩=xh (qk call ⟨zk σ (qI i),yG T p.ks⟩ i) fun st'=>jW (qt i) (some ⟨σ,j3 p none st'.T T⟩)
 (fun d=>qo (qB st'.σ d) fun x=>some ⟨(d,x)::σ,j3 p (some d) st'.T T⟩):=by
 unfold yJ jW
 simp only
 cases qk call ⟨zk σ (qI i),yG T p.ks⟩ i with
 |none=>rfl
 |some st'=>
  simp only [xh]
  cases qt i with
  |none=>rfl
  |some d=>simp only;cases qB st'.σ d<;>rfl
attribute [go_sem] x5 JF qE ju
@[go_sem] theorem qwP:zB [] []=[]:=(rfl)
@[go_sem] theorem qwO {k:Nat} {ks:List Key} {ps:List Dp} {i:AI} {is:List AI}:zB (⟨k,ks⟩::ps) (i::is)=if k=0 then zB ps is else jW (qt i) (zB ps is) fun d=>d::zB ps is:=by
 simp only [zB];cases qt i<;>rfl
@[go_sem] theorem qGK {k:Nat} {ks:List Key} {d:Option Nat} {x:Key}:Dp.own ⟨k,ks⟩ d x=((decide (k=1)&&yB x ks)||(!decide (k=0)&&Yf d x.1)):=by
 have h1: ∀ ks:List Key,ks.contains x=yB x ks:=by
  intro ks
  induction ks with
  |nil=>rfl
  |cons u r ih=>
   simp only [List.contains_cons,yB,ih]
   by_cases h:u=x
   ·subst h;simp
   ·have:(x==u)=false:=by simpa using fun h'=>h h'.symm
    simp [h,this]
 simp only [Dp.own,h1]
 have h2:(d==some x.1)=Yf d x.1:=by
  cases d with
  |none=>rfl
  |some d=>simp only [Yf];by_cases h:d=x.1<;>simp [h]
 rw [h2]
 have h3:(k==1)=decide (k=1):=by rw [Bool.eq_iff_iff];simp
 have h4:(k != 0)= !decide (k=0):=by rw [Bool.eq_iff_iff];simp
 rw [h3,h4]
@[go_sem] theorem qJi:yL [] st=st:=(rfl)
@[go_sem] theorem qIM {n:Nat}:qJ (.t n)=[n]:=(rfl)
@[go_sem] theorem qIL {z:V}:qJ (.c z)=[]:=(rfl)
@[go_sem] theorem qIJ:kC none=[]:=(rfl)
@[go_sem] theorem qIK {z:AO}:kC (some z)=qJ z:=(rfl)
@[go_sem] theorem qA5 {d:Nat} {x:AO}:qt (.mv d x)=some d:=(rfl)
@[go_sem] theorem qI6 {d:Nat} {x:AO}:qI (.mv d x)=qJ x:=(rfl)
@[go_sem] theorem qA9 {d:Nat} {x:AO} {y:AO} {z:AO}:qt (.pick d x y z)=some d:=(rfl)
@[go_sem] theorem qJa {d:Nat} {x:AO} {y:AO} {z:AO}:qI (.pick d x y z)=qJ x++(qJ y++qJ z):=(rfl)
@[go_sem] theorem qA7 {d:Nat} {x:AO}:qt (.new d x)=some d:=(rfl)
@[go_sem] theorem qI8 {d:Nat} {x:AO}:qI (.new d x)=qJ x:=(rfl)
@[go_sem] theorem qAO {d:Nat} {v:V} {bs:List (Nat × Nat × AO)}:qt (.build d v bs)=some d:=(rfl)
@[go_sem] theorem qIP {d:Nat} {v:V} {bs:List (Nat × Nat × AO)}:qI (.build d v bs)=JF bs:=(rfl)
@[go_sem] theorem qA4 {d:Nat} {e:Nat} {xs:List AO}:qt (.mks d e xs)=some d:=(rfl)
@[go_sem] theorem qI5 {d:Nat} {e:Nat} {xs:List AO}:qI (.mks d e xs)=x5 xs:=(rfl)
@[go_sem] theorem qA3 {d:Nat} {e:Nat} {v:V} {n:Nat} {x:AO} {y:AO}:qt (.mk d e v n x y)=some d:=(rfl)
@[go_sem] theorem qI4 {d:Nat} {e:Nat} {v:V} {n:Nat} {x:AO} {y:AO}:qI (.mk d e v n x y)=qJ x++qJ y:=(rfl)
@[go_sem] theorem qA0 {d:Nat} {p:Bool} {n:Nat} {x:AO}:qt (.ld d p n x)=some d:=(rfl)
@[go_sem] theorem qI1 {d:Nat} {p:Bool} {n:Nat} {x:AO}:qI (.ld d p n x)=qJ x:=(rfl)
@[go_sem] theorem qA1 {d:Nat} {p:Bool} {n:Nat} {x:AO}:qt (.ldq d p n x)=some d:=(rfl)
@[go_sem] theorem qI2 {d:Nat} {p:Bool} {n:Nat} {x:AO}:qI (.ldq d p n x)=qJ x:=(rfl)
@[go_sem] theorem qA8 {d:Nat} {x:AO}:qt (.nilc d x)=some d:=(rfl)
@[go_sem] theorem qI9 {d:Nat} {x:AO}:qI (.nilc d x)=qJ x:=(rfl)
@[go_sem] theorem qAN {d:Nat} {op:BinOp} {x:AO} {y:AO}:qt (.bin d op x y)=some d:=(rfl)
@[go_sem] theorem qIO {d:Nat} {op:BinOp} {x:AO} {y:AO}:qI (.bin d op x y)=qJ x++qJ y:=(rfl)
@[go_sem] theorem qAR {d:Nat} {n:Nat} {p:Bool} {x:AO} {y:AO}:qt (.eqs d n p x y)=some d:=(rfl)
@[go_sem] theorem qIS {d:Nat} {n:Nat} {p:Bool} {x:AO} {y:AO}:qI (.eqs d n p x y)=qJ x++qJ y:=(rfl)
@[go_sem] theorem qBf {d:Nat} {uo:UnOp} {x:AO}:qt (.un d uo x)=some d:=(rfl)
@[go_sem] theorem qJg {d:Nat} {uo:UnOp} {x:AO}:qI (.un d uo x)=qJ x:=(rfl)
@[go_sem] theorem qBa {d:Nat} {e:Nat} {x:AO} {ox:Option AO} {oy:Option AO}:qt (.sl d e x ox oy)=some d:=(rfl)
@[go_sem] theorem qJb {d:Nat} {e:Nat} {x:AO} {ox:Option AO} {oy:Option AO}:qI (.sl d e x ox oy)=qJ x++(kC ox++kC oy):=(rfl)
@[go_sem] theorem qBc {d:Nat} {x:AO} {ox:Option AO} {oy:Option AO}:qt (.ssl d x ox oy)=some d:=(rfl)
@[go_sem] theorem qJd {d:Nat} {x:AO} {ox:Option AO} {oy:Option AO}:qI (.ssl d x ox oy)=qJ x++(kC ox++kC oy):=(rfl)
@[go_sem] theorem qBb {d:Nat} {x:AO}:qt (.slen d x)=some d:=(rfl)
@[go_sem] theorem qJc {d:Nat} {x:AO}:qI (.slen d x)=qJ x:=(rfl)
@[go_sem] theorem qAT {d:Nat} {x:AO} {n:Nat}:qt (.fa d x n)=some d:=(rfl)
@[go_sem] theorem qIU {d:Nat} {x:AO} {n:Nat}:qI (.fa d x n)=qJ x:=(rfl)
@[go_sem] theorem qAU {d:Nat} {p:Bool} {n:Nat} {x:AO} {m:Nat}:qt (.fld d p n x m)=some d:=(rfl)
@[go_sem] theorem qIV {d:Nat} {p:Bool} {n:Nat} {x:AO} {m:Nat}:qI (.fld d p n x m)=qJ x:=(rfl)
@[go_sem] theorem qAX {d:Nat} {e:Nat} {x:AO} {y:AO}:qt (.ia d e x y)=some d:=(rfl)
@[go_sem] theorem qIY {d:Nat} {e:Nat} {x:AO} {y:AO}:qI (.ia d e x y)=qJ x++qJ y:=(rfl)
@[go_sem] theorem qAZ {d:Nat} {x:AO} {y:AO}:qt (.ix d x y)=some d:=(rfl)
@[go_sem] theorem qI0 {d:Nat} {x:AO} {y:AO}:qI (.ix d x y)=qJ x++qJ y:=(rfl)
@[go_sem] theorem qAS {d:Nat} {x:AO} {n:Nat}:qt (.ext d x n)=some d:=(rfl)
@[go_sem] theorem qIT {d:Nat} {x:AO} {n:Nat}:qI (.ext d x n)=qJ x:=(rfl)
@[go_sem] theorem qAV {d:Nat} {fn:Fn} {xs:List AO} {ys:List AO}:qt (.fun d fn xs ys)=some d:=(rfl)
@[go_sem] theorem qIW {d:Nat} {fn:Fn} {xs:List AO} {ys:List AO}:qI (.fun d fn xs ys)=x5 xs++x5 ys:=(rfl)
@[go_sem] theorem qAM {d:Nat} {e:Nat} {n:Nat} {x:AO} {y:AO}:qt (.app d e n x y)=some d:=(rfl)
@[go_sem] theorem qIN {d:Nat} {e:Nat} {n:Nat} {x:AO} {y:AO}:qI (.app d e n x y)=qJ x++qJ y:=(rfl)
@[go_sem] theorem qA2 {d:Nat} {x:AO}:qt (.len d x)=some d:=(rfl)
@[go_sem] theorem qI3 {d:Nat} {x:AO}:qI (.len d x)=qJ x:=(rfl)
@[go_sem] theorem qA6 {d:Nat} {p:Bool} {xs:List AO}:qt (.mx d p xs)=some d:=(rfl)
@[go_sem] theorem qI7 {d:Nat} {p:Bool} {xs:List AO}:qI (.mx d p xs)=x5 xs:=(rfl)
@[go_sem] theorem qAY {d:Nat} {ik:IntKind} {x:AO}:qt (.int d ik x)=some d:=(rfl)
@[go_sem] theorem qIZ {d:Nat} {ik:IntKind} {x:AO}:qI (.int d ik x)=qJ x:=(rfl)
@[go_sem] theorem qBe {d:Nat} {x:AO}:qt (.str d x)=some d:=(rfl)
@[go_sem] theorem qJf {d:Nat} {x:AO}:qI (.str d x)=qJ x:=(rfl)
@[go_sem] theorem qAP {d:Nat} {x:AO}:qt (.byt d x)=some d:=(rfl)
@[go_sem] theorem qIQ {d:Nat} {x:AO}:qI (.byt d x)=qJ x:=(rfl)
@[go_sem] theorem qBd {n:Nat} {x y:AO}:qt (.st n x y)=none:=(rfl)
@[go_sem] theorem qJe {n:Nat} {x y:AO}:qI (.st n x y)=qJ x++qJ y:=(rfl)
@[go_sem] theorem qAQ {o:Option Nat} {x:AO} {xs:List AO} {m:Md}:qt (.call o x xs m)=o:=(rfl)
@[go_sem] theorem qIR {o:Option Nat} {x:AO} {xs:List AO} {m:Md}:qI (.call o x xs m)=qJ x++x5 xs:=(rfl)
@[go_sem] theorem qAW {n:Nat} {p:Bool} {o:Option Nat} {i:AI}:qt (.gd n p o i)=o:=(rfl)
@[go_sem] theorem qIX {n:Nat} {p:Bool} {o:Option Nat} {i:AI}:qI (.gd n p o i)=n::qI i:=(rfl)
@[go_sem] theorem qD7 {k:Nat} {ks:List Key} {d:Option Nat} {T':Mem}:j3 ⟨k,ks⟩ d T' T=if k=0 then T else qE (Dp.own ⟨k,ks⟩ d) T'++qE (fun x=> !Dp.own ⟨k,ks⟩ d x) T:=(rfl)
@[go_sem] theorem qJh {ds:List Nat} {d:Nat}:yL (d::ds) ⟨σ,T⟩=yL ds ⟨yD d σ,wT d T⟩:=(rfl)
def Jg(n:Nat) (σ:Sl) (T:Mem):St:=jn n (yh σ) σ (Qg (yh σ) (yA σ++yy T (yh σ)) T)
@[go_sem] theorem qG7 {ls:List Nat} {ks:List Key}:yW ls ks ⟨σ,T⟩=Jg (Ya ks) (zk σ ls) T:=(rfl)
@[go_sem] theorem qx4:Ya []=0:=(rfl)
@[go_sem] theorem qx3 {n m:Nat} {r:List Key}:Ya ((n,m)::r)=n:=(rfl)
theorem qeP: ∀ (ks:List Key),yb [] ks=[]
 |[]=>rfl
 |k::ks=>by simp only [yb,qq,qeP ks]
theorem qdg(bx:List Key): ∀ (ks:List Key),ki bx ks []=[]
 |[]=>rfl
 |k::ks=>by
  have:jU [] k=[]:=rfl
  simp only [ki,this,ite_self,qdg bx ks]
@[go_sem] theorem qG6 {n:Nat}:Jg n σ []=jn n (yh σ) σ []:=by
 simp only [Jg,Qg,qdg,qeP]
@[go_sem] theorem qG5 {n:Nat} {ob:Key × Ob}:Jg n σ (ob::T)=jn n (yh σ) σ (Qg (yh σ) (yA σ++yy (ob::T) (yh σ)) (ob::T)):=(rfl)
@[go_sem] theorem qIx {bx k0:List Key}:Qg bx k0 T=yb (ki bx k0 T) k0:=(rfl)
@[go_sem] theorem qzt {bx:List Key}:ki bx [] T=T:=(rfl)
@[go_sem] theorem qzs {bx ks:List Key} {k:Key}:ki bx (k::ks) T=ki bx ks (zt (yB k bx) T (jU T k)):=(rfl)
def Jv(T:Mem) (k:Key) (ob:Option Ob):Mem:=
 match ob with
 |none=>T
 |some ob=>zt (qy ob.2) T ((k,ob.1,(qx (zn 30) (qw T k) ob.2).1)::(qx (zn 30) (qw T k) ob.2).2)
@[go_sem] theorem qzr {k:Key}:jU T k=Jv T k (qq T k):=by
 unfold jU Jv zt;cases qq T k<;>rfl
@[go_sem] theorem qIl {k:Key}:Jv T k none=T:=(rfl)
@[go_sem] theorem qIm {k:Key} {ob:Ob}:Jv T k (some ob)=zt (qy ob.2) T ((k,ob.1,(qx (zn 30) (qw T k) ob.2).1)::(qx (zn 30) (qw T k) ob.2).2):=(rfl)
@[go_sem] theorem qzq {m:Nat} {x:V}:zn m T x=zt (clE x) (x,T) (qu m T x):=(rfl)
theorem qeb(m:Nat): ∀ (xs ys:List V) (T:Mem),qx (zn m) T (xs++ys)=((qx (zn m) T xs).1++(qx (zn m) (qx (zn m) T xs).2 ys).1,(qx (zn m) (qx (zn m) T xs).2 ys).2)
 |[],ys,T=>rfl
 |x::xs,ys,T=>by simp only [List.cons_append,qx,qeb m xs ys]
theorem xZ(m:Nat) (T:Mem): ∀ (xs:List V),qy xs=true→qx (zn m) T xs=(xs,T)
 |[],_=>rfl
 |x::xs,h=>by
  simp only [qy,Bool.and_eq_true]at h
  have:zn m T x=(x,T):=by unfold zn;rw [if_pos h.1]
  simp only [qx,this,xZ m T xs h.2]
attribute [go_sem] qeb
def qac(n:Nat) (bx:List Key) (σ:Sl) (T:Mem):St:=⟨kz (xl n (yA σ++yy T bx)) σ,xN (xl n (yA σ++yy T bx)) (yb T (yA σ++yy T bx))⟩
@[go_sem] theorem qhn {n:Nat} {bx:List Key}:jn n bx σ T=qac n bx (yS σ) (xo σ++yl bx T):=(rfl)
def qc0(n:Nat) (kk:List Key) (σ:Sl) (T:Mem):St:=⟨kz (xl n kk) σ,xN (xl n kk) (yb T kk)⟩
@[go_sem] theorem qyx {n:Nat} {bx:List Key}:qac n bx σ T=qc0 n (yA σ++yy T bx) σ T:=(rfl)
@[go_sem] theorem qyy {n:Nat} {kk:List Key}:qc0 n kk σ T=⟨kz (xl n kk) σ,xN (xl n kk) (yb T kk)⟩:=(rfl)
@[go_sem] theorem qv7:NB=200000:=(rfl)
@[go_sem] theorem qnF:CN=100000:=(rfl)
attribute [go_sem] yS xo yy xl jq kz zP zW
@[go_sem] theorem qyz {n:Nat} {σ:Sl}:jn n [] σ []=qac n [] (yS σ) (xo σ):=by rw [qhn];simp only [yl,List.append_nil]
section nm
variable {t i j d e n lo len:Nat} {k k':Key} {x:V} {xs:List V} {bx tb:List Key} {r:Sl} {M:Mem} {τ nm:Bool} {u:Int} {l:List UInt8} {fn:Fn} {ys:List V}
@[go_sem] theorem qyp:yh []=[]:=(rfl)
def yg(x:V) (r:List Key):List Key:=match x with| .p k _ _=>k::r|_=>r
@[go_sem] theorem qyo:yh ((t,x)::r)=yg x (yh r):=by cases x<;>rfl
@[go_sem] theorem qyj {r:List Key}:yg (.p k i j) r=k::r:=(rfl)
@[go_sem] theorem qyl {r:List Key}:yg (.s k i j) r=r:=(rfl)
@[go_sem] theorem qx9 {r:List Key}:yg (I u) r=r:=(rfl)
@[go_sem] theorem qx7 {b:Bool} {r:List Key}:yg (B b) r=r:=(rfl)
@[go_sem] theorem qya {r:List Key}:yg (S l) r=r:=(rfl)
@[go_sem] theorem qyc {r:List Key}:yg (U8 u) r=r:=(rfl)
@[go_sem] theorem qyb {r:List Key}:yg (U32 u) r=r:=(rfl)
@[go_sem] theorem qyg {r:List Key}:yg (.i τ xs) r=r:=(rfl)
@[go_sem] theorem qyk {r:List Key}:yg (.q τ xs i j) r=r:=(rfl)
@[go_sem] theorem qyi {r:List Key}:yg (.o e xs) r=r:=(rfl)
@[go_sem] theorem qyh {r:List Key}:yg (.n e) r=r:=(rfl)
@[go_sem] theorem qyd {r:List Key}:yg (.a xs) r=r:=(rfl)
@[go_sem] theorem qym {r:List Key}:yg (.t xs) r=r:=(rfl)
@[go_sem] theorem qyf {r:List Key}:yg (.f fn xs ys) r=r:=(rfl)
@[go_sem] theorem qye {r:List Key}:yg .d r=r:=(rfl)
@[go_sem] theorem qyn {r:List Key}:yg zN r=r:=(rfl)
@[go_sem] theorem qx8 {g:Nat} {r:List Key}:yg (Fc g) r=r:=(rfl)
@[go_sem] theorem qAt:qap (some (e,[x]))=yj x:=(rfl)
@[go_sem] theorem qAs:qap none=[]:=(rfl)
@[go_sem] theorem qEp:qL d i nm (I u)=I u:=(rfl)
@[go_sem] theorem qEn {b:Bool}:qL d i nm (B b)=B b:=(rfl)
@[go_sem] theorem qEq:qL d i nm (S l)=S l:=(rfl)
@[go_sem] theorem qEs:qL d i nm (U8 u)=U8 u:=(rfl)
@[go_sem] theorem qEr:qL d i nm (U32 u)=U32 u:=(rfl)
@[go_sem] theorem qEG:qL d i nm zN=zN:=(rfl)
@[go_sem] theorem qEo {g:Nat}:qL d i nm (Fc g)=Fc g:=(rfl)
@[go_sem] theorem qEx:qL d i nm (.i τ xs)= .i τ xs:=(rfl)
@[go_sem] theorem qED:qL d i nm (.q τ xs lo len)= .q τ xs lo len:=(rfl)
@[go_sem] theorem qEB:qL d i nm (.o e xs)= .o e xs:=(rfl)
@[go_sem] theorem qEu:qL d i nm (.b x)= .b x:=(rfl)
@[go_sem] theorem qEv:qL d i nm .d= .d:=(rfl)
@[go_sem] theorem qEz:qL d i true (.n e)= .s (d,i) 0 0:=(rfl)
@[go_sem] theorem qEA:qL d i false (.n e)= .n e:=(rfl)
@[go_sem] theorem qEC:qL d i nm (.p k lo len)=if NB≤k.1 then .d else .p k lo len:=(rfl)
@[go_sem] theorem qEE:qL d i nm (.s k lo len)=if NB≤k.1 then .d else .s k lo len:=(rfl)
@[go_sem] theorem qEw:qL d i nm (.f fn xs ys)= .f fn (zP d i false xs) (zP d i false ys):=(rfl)
@[go_sem] theorem qEt:qL d i nm (.a xs)= .a (zP d i nm xs):=(rfl)
@[go_sem] theorem qEF:qL d i nm (.t xs)= .t (zP d i false xs):=(rfl)
def yT(d i:Nat) (x:V):Mem:=match x with| .n e=>[((d,i),e,[])]|_=>[]
@[go_sem] theorem qEc:ku d i []=[]:=(rfl)
@[go_sem] theorem qEb:ku d i (x::xs)=yT d i x++ku d (i+1) xs:=by cases x<;>rfl
@[go_sem] theorem qER:yT d i (.n e)=[((d,i),e,[])]:=(rfl)
@[go_sem] theorem qEJ:yT d i (I u)=[]:=(rfl)
@[go_sem] theorem qEI {b:Bool}:yT d i (B b)=[]:=(rfl)
@[go_sem] theorem qEK:yT d i (S l)=[]:=(rfl)
@[go_sem] theorem qEM:yT d i (U8 u)=[]:=(rfl)
@[go_sem] theorem qEL:yT d i (U32 u)=[]:=(rfl)
@[go_sem] theorem qEQ:yT d i (.i τ xs)=[]:=(rfl)
@[go_sem] theorem qES:yT d i (.o e xs)=[]:=(rfl)
@[go_sem] theorem qEV:yT d i (.s k lo len)=[]:=(rfl)
@[go_sem] theorem qET:yT d i (.p k lo len)=[]:=(rfl)
@[go_sem] theorem qEU:yT d i (.q τ xs lo len)=[]:=(rfl)
@[go_sem] theorem qEN:yT d i (.b x)=[]:=(rfl)
@[go_sem] theorem qEP:yT d i (.f fn xs ys)=[]:=(rfl)
@[go_sem] theorem qEO:yT d i .d=[]:=(rfl)
@[go_sem] theorem qEY:zK d i (I u)=[]:=(rfl)
@[go_sem] theorem qEW {b:Bool}:zK d i (B b)=[]:=(rfl)
@[go_sem] theorem qEZ:zK d i (S l)=[]:=(rfl)
@[go_sem] theorem qE1:zK d i (U8 u)=[]:=(rfl)
@[go_sem] theorem qE0:zK d i (U32 u)=[]:=(rfl)
@[go_sem] theorem qFd:zK d i zN=[]:=(rfl)
@[go_sem] theorem qEX {g:Nat}:zK d i (Fc g)=[]:=(rfl)
@[go_sem] theorem qE6:zK d i (.i τ xs)=[]:=(rfl)
@[go_sem] theorem qE8:zK d i (.o e xs)=[]:=(rfl)
@[go_sem] theorem qFb:zK d i (.s k lo len)=[]:=(rfl)
@[go_sem] theorem qE9:zK d i (.p k lo len)=[]:=(rfl)
@[go_sem] theorem qFa:zK d i (.q τ xs lo len)=[]:=(rfl)
@[go_sem] theorem qE3:zK d i (.b x)=[]:=(rfl)
@[go_sem] theorem qE5:zK d i (.f fn xs ys)=[]:=(rfl)
@[go_sem] theorem qFc:zK d i (.t xs)=[]:=(rfl)
@[go_sem] theorem qE4:zK d i .d=[]:=(rfl)
@[go_sem] theorem qE7:zK d i (.n e)=[((d,i),e,[])]:=(rfl)
@[go_sem] theorem qE2:zK d i (.a xs)=ku d i xs:=(rfl)
def qak(xs:List V):List V:=zt (qy xs) xs (zP 0 0 false xs)
@[go_sem] theorem qzU:qak xs=zt (qy xs) xs (zP 0 0 false xs):=(rfl)
@[go_sem] theorem qEj:xm d i true [x]=[qL d i true x]:=(rfl)
@[go_sem] theorem qEk:xm d i false xs=qak xs:=by
 unfold xm qak zt
 split
 ·simp only [Bool.false_eq_true,if_false,qy,Bool.and_true,zP]
 ·rfl
@[go_sem] theorem qEh:j6 d i true [x]=zK d i x:=(rfl)
@[go_sem] theorem qEi:j6 d i false xs=[]:=by unfold j6;split<;>rfl
@[go_sem] theorem qEm:yl bx []=[]:=(rfl)
@[go_sem] theorem qEl {ob:Ob}:yl bx ((k,ob)::M)=if NB≤k.1 then yl bx M else j6 (2*NB+k.1) (10*k.2) (yB k bx) ob.2++(k,ob.1,xm (2*NB+k.1) (10*k.2) (yB k bx) ob.2)::yl bx M:=(rfl)
def Jq(o:Option Nat) (k:Key):Option Key:=match o with|some i=>some (CN,i)|none=>if k.1=CN then none else some k
@[go_sem] theorem qHb:yI tb k=Jq (jq k 0 tb) k:=by unfold yI Jq;cases jq k 0 tb<;>rfl
@[go_sem] theorem qHa:Jq (some i) k=some (CN,i):=(rfl)
@[go_sem] theorem qG9:Jq none k=if k.1=CN then none else some k:=(rfl)
def sOf(o:Option Key) (a b:Nat):V:=match o with|some k=> .s k a b|none=> .d
def pOf(o:Option Key) (a b:Nat):V:=match o with|some k=> .p k a b|none=> .d
@[go_sem] theorem qIq:sOf (some k) i j= .s k i j:=(rfl)
@[go_sem] theorem qGO:pOf (some k) i j= .p k i j:=(rfl)
@[go_sem] theorem qIp:sOf none i j= .d:=(rfl)
@[go_sem] theorem qGN:pOf none i j= .d:=(rfl)
@[go_sem] theorem qHw:qP tb (.s k i j)=sOf (yI tb k) i j:=by simp only [qP,sOf];cases yI tb k<;>rfl
@[go_sem] theorem qHu:qP tb (.p k i j)=pOf (yI tb k) i j:=by simp only [qP,pOf];cases yI tb k<;>rfl
@[go_sem] theorem qHi:qP tb (I u)=I u:=(rfl)
@[go_sem] theorem qHg {b:Bool}:qP tb (B b)=B b:=(rfl)
@[go_sem] theorem qHj:qP tb (S l)=S l:=(rfl)
@[go_sem] theorem qHl:qP tb (U8 u)=U8 u:=(rfl)
@[go_sem] theorem qHk:qP tb (U32 u)=U32 u:=(rfl)
@[go_sem] theorem qHy:qP tb zN=zN:=(rfl)
@[go_sem] theorem qHh {g:Nat}:qP tb (Fc g)=Fc g:=(rfl)
@[go_sem] theorem qHq:qP tb (.i τ xs)= .i τ xs:=(rfl)
@[go_sem] theorem qHv:qP tb (.q τ xs i j)= .q τ xs i j:=(rfl)
@[go_sem] theorem qHt:qP tb (.o e xs)= .o e xs:=(rfl)
@[go_sem] theorem qHn:qP tb (.b x)= .b x:=(rfl)
@[go_sem] theorem qHs:qP tb (.n e)= .n e:=(rfl)
@[go_sem] theorem qHo:qP tb .d= .d:=(rfl)
@[go_sem] theorem qHp:qP tb (.f fn xs ys)= .f fn (zW tb xs) (zW tb ys):=(rfl)
@[go_sem] theorem qHm:qP tb (.a xs)= .a (zW tb xs):=(rfl)
@[go_sem] theorem qHx:qP tb (.t xs)= .t (zW tb xs):=(rfl)
def Jr(o:Option Key) (e:Nat) (xs:List V) (r:Mem):Mem:=match o with|some k=>(k,e,xs)::r|none=>r
@[go_sem] theorem qHd {r:Mem}:Jr (some k) e xs r=(k,e,xs)::r:=(rfl)
@[go_sem] theorem qHc {r:Mem}:Jr none e xs r=r:=(rfl)
@[go_sem] theorem qHf:xN tb []=[]:=(rfl)
@[go_sem] theorem qHe {ob:Ob}:xN tb ((k,ob)::M)=Jr (yI tb k) ob.1 (zt (qy ob.2) ob.2 (zW tb ob.2)) (xN tb M):=by
 obtain ⟨e,xs⟩:=ob
 simp only [xN,Jr,zt]
 cases yI tb k<;>rfl
end nm
attribute [go_sem] yj QN yA yB qaZ qfD List.reverse_cons List.reverse_nil
@[go_sem] theorem qAw {n:Int}:yj (I n)=[]:=(rfl)
@[go_sem] theorem qAu {b:Bool}:yj (B b)=[]:=(rfl)
@[go_sem] theorem qAx {l:List UInt8}:yj (S l)=[]:=(rfl)
@[go_sem] theorem qAz {n:Int}:yj (U8 n)=[]:=(rfl)
@[go_sem] theorem qAy {n:Int}:yj (U32 n)=[]:=(rfl)
@[go_sem] theorem qAv {g:Nat}:yj (Fc g)=[]:=(rfl)
@[go_sem] theorem qAA:yj zN=[]:=(rfl)
def Ju(T:Mem) (k:Key) (ob:Option Ob):Mem:=
 match ob with
 |none=>T
 |some ob=>zt (qy ob.2) (xq k ob (qw T k)) T
@[go_sem] theorem qIk {k:Key}:qbn T k=Ju T k (qq T k):=by
 unfold qbn Ju zt;cases qq T k<;>rfl
@[go_sem] theorem qIi {k:Key}:Ju T k none=T:=(rfl)
@[go_sem] theorem qIj {k:Key} {ob:Ob}:Ju T k (some ob)=zt (qy ob.2) (xq k ob (qw T k)) T:=(rfl)
def K6(d:Nat) (k:Key) (i:Nat) (σ:Sl) (T:Mem) (ob:Option Ob):St:=
 match ob with
 |some ob=>(match ob.2[i]? with
  |some x=>⟨σ,(qH d 0 x).2.2++((k,ob.1,ob.2.set i (qH d 0 x).1)::qw T k)⟩
  |none=>⟨σ,T⟩)
 |none=>⟨σ,T⟩
def qeH(d:Nat) (k:Key) (i:Nat) (σ:Sl) (T:Mem) (ob:Ob) (x:Option V):St:=
 match x with
 |some x=>⟨σ,(qH d 0 x).2.2++((k,ob.1,ob.2.set i (qH d 0 x).1)::qw T k)⟩
 |none=>⟨σ,T⟩
def Yh(d:Nat) (v:Option V):List (Nat × Key × Nat):=
 match v with
 |some (.p k idx _)=>[(d,k,idx)]
 |_=>[]
def QO(d:Nat) (v w:Option V):List (Nat × Key × Nat):=
 match v with
 |some (.p k idx _)=>[(d,k,idx)]
 |some (.s k lo _)=>match w with
  |some (.v (.int _ n))=>[(d,k,lo+n.toNat)]
  |_=>[]
 |_=>[]
@[congr] theorem qBl {d:Nat} {v v':Option V} (h:v=v'):Yh d v=Yh d v':=by rw [h]
@[congr] theorem qBg {d:Nat} {v v' w w':Option V} (h:v=v') (h':w=w'):QO d v w=QO d v' w':=by rw [h,h']
@[go_sem] theorem qBj {d r:Nat}:kN σ d r none=Yh d (qB σ r):=by
 unfold kN Yh
 cases qB σ r with
 |none=>rfl
 |some v=>cases v<;>rfl
@[go_sem] theorem qBk {d r i:Nat}:kN σ d r (some i)=QO d (qB σ r) (qB σ i):=by
 unfold kN QO
 cases qB σ r with
 |none=>rfl
 |some v=>cases v<;>rfl
@[go_sem] theorem qBm {d a b:Nat} {k:Key}:Yh d (some (.p k a b))=[(d,k,a)]:=(rfl)
@[go_sem] theorem qBh {d a b:Nat} {k:Key} {w:Option V}:QO d (some (.p k a b)) w=[(d,k,a)]:=(rfl)
@[go_sem] theorem qBi {d a b:Nat} {k:Key} {n:Int}:QO d (some (.s k a b)) (some (I n))=[(d,k,a+n.toNat)]:=(rfl)
@[go_sem] theorem qFU:jv [] st=st:=(rfl)
@[go_sem] theorem qFT {d r:Nat} {i:Option Nat} {os:List (Nat × Nat × Option Nat)}:jv ((d,r,i)::os) ⟨σ,T⟩=jv os (kw (kN σ d r i) ⟨σ,T⟩):=(rfl)
@[go_sem] theorem qGA:kw [] st=st:=(rfl)
@[go_sem] theorem qGz {d i:Nat} {k:Key} {r:List (Nat × Key × Nat)}:kw ((d,k,i)::r) ⟨σ,T⟩=kw r (QW d k i ⟨yD d σ,wT d T⟩):=(rfl)
@[go_sem] theorem qGD {d i:Nat} {k:Key}:QW d k i ⟨σ,T⟩=K6 d k i σ T (qq T k):=by
 unfold QW K6;simp only;cases qq T k<;>rfl
@[go_sem] theorem qGC {d i:Nat} {k:Key} {ob:Ob}:K6 d k i σ T (some ob)=qeH d k i σ T ob ob.2[i]? :=(rfl)
@[go_sem] theorem qGB {d i:Nat} {k:Key}:K6 d k i σ T none=⟨σ,T⟩:=(rfl)
@[go_sem] theorem qGE {d i:Nat} {k:Key} {ob:Ob} {x:V}:qeH d k i σ T ob (some x)=⟨σ,(qH d 0 x).2.2++((k,ob.1,ob.2.set i (qH d 0 x).1)::qw T k)⟩:=(rfl)
structure Lp where
 ls:List Nat
 ks:List Key
 body:AC
def lpC(l:Lp):AC:= .loop l.ls l.ks l.body
noncomputable def lw(prog:Nat→Option AE) (l:Lp) (s:St):Option (AX × St):=xg (xw prog l.body s) fun st'=>xw prog (lpC l) st'
@[go_sem] theorem qnr {l:Lp}:xw prog (lpC l) st=lw prog l (yW l.ls l.ks st):=by
 unfold lw lpC;exact qnq
theorem qA(l:Lp) (s:St):lw prog l s=xg (xw prog l.body s) fun st'=>lw prog l (yW l.ls l.ks st'):=by
 unfold lw
 congr 1
 funext st'
 rw [qnr];rfl
def Js(T:Mem) (k:Key) (agg:Bool) (size:Nat) (ob:Option Ob):Option (V × Mem):=
 match ob with
 |some (_,[x])=>(qR agg size x 0).bind fun y=>if x.cells.length=y.cells.length then some (y,qw T k)else none
 |_=>none
def Z9 {α:Type} (r:Option (V × Mem)) (k:V→Mem→Option α):Option α:=
 match r with
 |some (x,T)=>k x T
 |none=>none
@[congr] theorem qxR {α:Type} {r r':Option (V × Mem)} {k:V→Mem→Option α} (h:r=r'):Z9 r k=Z9 r' k:=by rw [h]
@[go_sem] theorem qxS {α:Type} {z:V} {k:V→Mem→Option α}:Z9 (some (z,T)) k=k z T:=(rfl)
@[go_sem] theorem qIg {t:Nat}:kA ⟨σ,T⟩ (.tmp t)=qo (qB σ t) fun x=>some (x,T):=by
 simp only [kA];cases qB σ t<;>rfl
def qa7(x:V) (k:Key→Option (V × Mem)):Option (V × Mem):=
 match x with
 | .p k' 0 0=>k k'
 |_=>none
@[go_sem] theorem qG8 {k':Key} {k:Key→Option (V × Mem)}:qa7 (.p k' 0 0) k=k k':=(rfl)
@[go_sem] theorem qIf {t size:Nat} {agg:Bool}:kA ⟨σ,T⟩ (.cell t agg size)=qo (qB σ t) fun x=>qa7 x fun k=>Js T k agg size (qq T k):=by
 simp only [kA]
 cases qB σ t with
 |none=>rfl
 |some x=>
  cases x<;>first|rfl|skip
  rename_i k idx off
  cases idx with
  |succ=>rfl
  |zero=>cases off with
   |succ=>rfl
   |zero=>
    simp only [qo,qa7,Js]
    cases qq T k with
    |none=>rfl
    |some ob=>obtain ⟨e,xs⟩:=ob;rcases xs with _|⟨x,_|⟨y,r⟩⟩<;>rfl
@[go_sem] theorem qIc {k:Key} {agg:Bool} {e size:Nat} {z:V}:Js T k agg size (some (e,[z]))=qo (qR agg size z 0) fun y=>if z.cells.length=y.cells.length then some (y,qw T k)else none:=by
 simp only [Js];cases qR agg size z 0<;>rfl
@[go_sem] theorem qIe:xr σ T []=some ([],T):=(rfl)
@[go_sem] theorem qId {r:AR} {rs:List AR}:xr σ T (r::rs)=Z9 (kA ⟨σ,T⟩ r) fun x T'=>jR (xr σ T' rs) fun xs T''=>some (x::xs,T''):=by
 simp only [xr]
 cases kA ⟨σ,T⟩ r with
 |none=>rfl
 |some xT=>obtain ⟨x,T'⟩:=xT;simp only [Z9];cases xr σ T' rs<;>rfl
@[go_sem] theorem qFA {z:V}:xI [z]=z:=(rfl)
@[go_sem] theorem qFB {z z':V} {zs:List V}:xI (z::z'::zs)= .t (z::z'::zs):=(rfl)
@[go_sem] theorem qFz:xI []= .t []:=(rfl)
attribute [go_sem] qZ yt qhj Option.some_beq_none Option.some_beq_some Option.none_beq_some
attribute [go_sem] Bool.true_and Bool.and_true Bool.false_and Bool.and_false Bool.not_true Bool.not_false Bool.or_true Bool.true_or Bool.or_false Bool.false_or if_true if_false
 decide_true decide_false decide_eq_true_eq ne_eq not_true_eq_false not_false_eq_true and_self and_true true_and and_false false_and beq_self_eq_true Bool.not_eq_eq_eq_not Bool.false_eq_true decide_not ite_not Bool.not_not
 eq_self Prod.mk.injEq List.contains_nil List.contains_cons Option.isNone_none Option.isNone_some
end
end Go.Vm
namespace Go.Vm
section
variable {prog:Nat→Option AE} {st:St} {σ:Sl} {T:Mem} {call:qQ} {d j e lo:Nat} {k:Key} {es:List (Int × Int)} {τ:Bool} {n u:Int} {o:Option Bool} {tb:List Key} {nm:Bool}
def yU {α:Type} (x:V) (g:Int→Option α):Option α:=
 match x with
 | .v (.int .i64 n)=>g n
 |_=>none
@[go_sem] theorem qFy {α:Type} {g:Int→Option α}:yU (I n) g=g n:=(rfl)
def kg {α:Type} (r:Option (List (Int × Int))) (g:List (Int × Int)→Option α):Option α:=
 match r with
 |some es=>g es
 |none=>none
@[congr] theorem qxz {α:Type} {r r':Option (List (Int × Int))} {g:List (Int × Int)→Option α} (h:r=r'):kg r g=kg r' g:=by rw [h]
@[go_sem] theorem qxA {α:Type} {g:List (Int × Int)→Option α}:kg (some es) g=g es:=(rfl)
def qdv(ob:Option Ob):Option (List (Int × Int)):=
 match ob with
 |some (_,[.w _ es])=>some es
 |_=>none
@[go_sem] theorem qBB:qdv (some (e,[.w o es]))=some es:=(rfl)
@[go_sem] theorem qBz:yk T (.m k)=qdv (qq T k):=(rfl)
@[go_sem] theorem qBA:yk T (.w (some τ) es)=some es:=(rfl)
def qfW(T:Mem) (k:Key) (ob:Option Ob) (es:List (Int × Int)):Option Mem:=
 match ob with
 |some _=>some ((k,0,[.w (some true) es])::qw T k)
 |none=>none
@[go_sem] theorem qIu {ob:Ob}:qfW T k (some ob) es=some ((k,0,[.w (some true) es])::qw T k):=(rfl)
@[go_sem] theorem qIt:xO T (.m k) es=qfW T k (qq T k) es:=(rfl)
@[go_sem] theorem qCf:qk call ⟨σ,T⟩ (.mkm d)=some ⟨(d,.m (d,0))::yD d σ,((d,0),0,[.w (some true) []])::wT d T⟩:=(rfl)
@[go_sem] theorem qCh {m k v:AO}:qk call ⟨σ,T⟩ (.mset m k v)=qo (ev σ m) fun m=>qo (ev σ k) fun k=>qo (ev σ v) fun v=>yU k fun k=>yU v fun v=>kg (yk T m) fun es=>kK (xO T m (zL k v es)) fun T'=>some ⟨σ,T'⟩:=by
 simp only [qk,qh]
 cases ev σ m with
 |none=>rfl
 |some m=>
 cases ev σ k with
 |none=>rfl
 |some k=>
 cases ev σ v with
 |none=>simp only [qo]
 |some v=>
 simp only [qo]
 split
 ·rename_i h1 h2 h3
  simp only [Option.some.injEq]at h1 h2 h3;subst h1;subst h2;subst h3
  simp only [yU]
  cases yk T m with
  |none=>rfl
  |some es=>simp only [kg];cases xO T m _<;>rfl
 ·rename_i h
  unfold yU
  split
  ·split
   ·exact absurd rfl (h _ _ _ rfl rfl)
   ·rfl
  ·rfl
@[go_sem] theorem qCd {m k:AO}:qk call ⟨σ,T⟩ (.mget d m k)=qo (ev σ m) fun m=>qo (ev σ k) fun k=>yU k fun k=>kg (yk T m) fun es=>some ⟨(d,I ((zf k es).getD 0))::σ,T⟩:=by
 simp only [qk,qh]
 cases ev σ m with
 |none=>rfl
 |some m=>
 cases ev σ k with
 |none=>rfl
 |some k=>
 simp only [qo]
 split
 ·rename_i h1 h2
  simp only [Option.some.injEq]at h1 h2;subst h1;subst h2
  simp only [yU]
  cases yk T m<;>rfl
 ·rename_i h
  unfold yU
  split
  ·exact absurd rfl (h _ _ rfl)
  ·rfl
@[go_sem] theorem qCb {m k:AO}:qk call ⟨σ,T⟩ (.men d m k)=qo (ev σ m) fun m=>qo (ev σ k) fun k=>yU k fun k=>kg (yk T m) fun es=>kK (xO T m (zL k ((zf k es).getD 0) es)) fun T'=>some ⟨(d,.t [I ((zf k es).getD 0),I (zc k es)])::σ,T'⟩:=by
 simp only [qk,qh]
 cases ev σ m with
 |none=>rfl
 |some m=>
 cases ev σ k with
 |none=>rfl
 |some k=>
 simp only [qo]
 split
 ·rename_i h1 h2
  simp only [Option.some.injEq]at h1 h2;subst h1;subst h2
  simp only [yU]
  cases yk T m with
  |none=>rfl
  |some es=>simp only [kg];cases xO T m _<;>rfl
 ·rename_i h
  unfold yU
  split
  ·exact absurd rfl (h _ _ rfl)
  ·rfl
def Ym {α:Type} (i:Option Nat) (g:Nat→Option α):Option α:=
 match i with
 |some i=>g i
 |none=>none
@[congr] theorem qCA {α:Type} {i i':Option Nat} {g:Nat→Option α} (h:i=i'):Ym i g=Ym i' g:=by rw [h]
@[go_sem] theorem qCB {α:Type} {i:Nat} {g:Nat→Option α}:Ym (some i) g=g i:=(rfl)
@[go_sem] theorem qCc {m k v:AO}:qk call ⟨σ,T⟩ (.mes m k v)=qo (ev σ m) fun m=>qo (ev σ k) fun k=>qo (ev σ v) fun v=>yU k fun s=>yU v fun v=>kg (yk T m) fun es=>Ym (zC s es.length) fun i=>kK (xO T m (es.modify i fun e=>(e.1,v))) fun T'=>some ⟨σ,T'⟩:=by
 simp only [qk,qh]
 cases ev σ m with
 |none=>rfl
 |some m=>
 cases ev σ k with
 |none=>rfl
 |some k=>
 cases ev σ v with
 |none=>simp only [qo]
 |some v=>
 simp only [qo]
 split
 ·rename_i h1 h2 h3
  simp only [Option.some.injEq]at h1 h2 h3;subst h1;subst h2;subst h3
  simp only [yU]
  cases yk T m with
  |none=>rfl
  |some es=>
   simp only [kg]
   cases zC _ es.length with
   |none=>rfl
   |some i=>simp only [Ym];cases xO T m _<;>rfl
 ·rename_i h
  unfold yU
  split
  ·split
   ·exact absurd rfl (h _ _ _ rfl rfl)
   ·rfl
  ·rfl
theorem qed(k v w:Int): ∀ (es:List (Int × Int)),(zL k w es).modify (zc k es) (fun e=>(e.1,v))=zL k v es
 |[]=>rfl
 |(a,b)::r=>by
  simp only [zL,zc]
  split
  ·rfl
  ·simp only [List.modify_succ_cons,qed k v w r]
theorem qeR(k w:Int): ∀ (es:List (Int × Int)),zc k es < (zL k w es).length
 |[]=>by simp [zL,zc]
 |(a,b)::r=>by
  simp only [zL,zc]
  split
  ·simp
  ·have:=qeR k w r;simp only [List.length_cons];omega
theorem qh7(k w:Int) (es:List (Int × Int)):zC (zc k es:Int) (zL k w es).length=some (zc k es):=by
 have:=qeR k w es
 unfold zC
 rw [if_pos ⟨by omega,by omega⟩];simp
attribute [go_sem] qed qh7
@[go_sem] theorem qwx:qh call ⟨σ,T⟩ (.mkm d)=qk call ⟨σ,T⟩ (.mkm d):=(rfl)
@[go_sem] theorem qwz {m k v:AO}:qh call ⟨σ,T⟩ (.mset m k v)=qk call ⟨σ,T⟩ (.mset m k v):=(rfl)
@[go_sem] theorem qwv {m k:AO}:qh call ⟨σ,T⟩ (.mget d m k)=qk call ⟨σ,T⟩ (.mget d m k):=(rfl)
@[go_sem] theorem qwt {m k:AO}:qh call ⟨σ,T⟩ (.men d m k)=qk call ⟨σ,T⟩ (.men d m k):=(rfl)
@[go_sem] theorem qwu {m k v:AO}:qh call ⟨σ,T⟩ (.mes m k v)=qk call ⟨σ,T⟩ (.mes m k v):=(rfl)
@[go_sem] theorem qyQ:(V.m k).cells=[V.m k]:=(rfl)
@[go_sem] theorem qyY:(V.w o es).cells=[V.w o es]:=(rfl)
@[go_sem] theorem qFM:(V.m k).one=true:=(rfl)
@[go_sem] theorem qFS:(V.w o es).one=true:=(rfl)
@[go_sem] theorem qCS:(V.m k).isA=false:=(rfl)
@[go_sem] theorem qCW:(V.w o es).isA=false:=(rfl)
@[go_sem] theorem qGt:zd d j (.m k)=(.m k,j,[]):=(rfl)
@[go_sem] theorem qGx:zd d j (.w none es)=(.m (d,j),j+1,[((d,j),0,[.w (some true) es])]):=(rfl)
@[go_sem] theorem qGy:zd d j (.w (some τ) es)=(.w (some τ) es,j,[]):=(rfl)
def mK(T':Mem) (ob:Option Ob) (T:Mem):V × Mem:=
 match ob with
 |some (_,[.w _ es])=>(.w none es,T')
 |_=>(.d,T)
@[go_sem] theorem qDS {T':Mem}:mK T' (some (e,[.w o es])) T=(.w none es,T'):=(rfl)
@[go_sem] theorem qzE {m:Nat}:qu (m+1) T (.m k)=mK (qw T k) (qq T k) T:=(rfl)
@[go_sem] theorem qzL {m:Nat}:qu (m+1) T (.w o es)=(.w o es,T):=(rfl)
@[go_sem] theorem qEy {i:Nat}:qL d i nm (.m k)=if NB≤k.1 then .d else .m k:=(rfl)
@[go_sem] theorem qEH {i:Nat}:qL d i nm (.w o es)= .w o es:=(rfl)
def mOf(o:Option Key):V:=match o with|some k=> .m k|none=> .d
@[congr] theorem qDT {o o':Option Key} (h:o=o'):mOf o=mOf o':=by rw [h]
@[go_sem] theorem qDU:mOf (some k)= .m k:=(rfl)
@[go_sem] theorem qHr:qP tb (.m k)=mOf (yI tb k):=by simp only [qP,mOf];cases yI tb k<;>rfl
@[go_sem] theorem qHz:qP tb (.w o es)= .w o es:=(rfl)
@[go_sem] theorem qDF {n:Nat}:qR false n (.m k) 0=some (.m k):=(rfl)
@[go_sem] theorem qDJ {n:Nat}:qR false n (.w o es) 0=some (.w o es):=(rfl)
end
end Go.Vm
namespace Go.Vm
abbrev Str:=List UInt8
theorem KO {α:Type} {l:List α} {i:Nat} {x:α} (h:l[i]? =some x):l.drop i=x::l.drop (i+1):=by
 obtain ⟨hl,rfl⟩:=List.getElem?_eq_some_iff.1 h
 exact List.drop_eq_getElem_cons hl
theorem kO {α:Type} {l:List α} {i:Nat} (h:i < l.length): ∃ x,l[i]? =some x:=⟨_,List.getElem?_eq_getElem h⟩
def RL {α:Type} (R:α→V→Prop):List α→List V→Prop
 |[],vs=>vs=[]
 |t::ts,vs=> ∃ v vs',vs=v::vs'∧R t v∧RL R ts vs'
section
variable {α:Type} {R R':α→V→Prop}
theorem qct: ∀ {ts:List α} {vs:List V},RL R ts vs→vs.length=ts.length
 |[],vs,h=>by simp only [RL]at h;simp [h]
 |t::ts,vs,h=>by
  simp only [RL]at h
  obtain ⟨v,vs',rfl,-,h⟩:=h
  simp [qct h]
theorem qcs {f:α→V} (h: ∀ t v,R t v→v=f t): ∀ {ts:List α} {vs:List V},RL R ts vs→vs=ts.map f
 |[],vs,hv=>hv
 |t::ts,vs,hv=>by
  simp only [RL]at hv
  obtain ⟨v,vs',rfl,h1,h2⟩:=hv
  rw [h t v h1,qcs h h2,List.map_cons]
end
def RI(n:Int) (v:V):Prop:=v=I n
def RS(s:Str) (v:V):Prop:=v=S s
mutual
theorem qd3(d:Nat): ∀ (x:V),clB x=true→qG d x=x
 | .v _,_| .q ..,_| .i ..,_| .o ..,_| .b _,_| .n _,_| .w ..,_=>rfl
 | .f fn first caps,h=>by
   simp only [clB,Bool.and_eq_true]at h
   simp only [qG,KT d first h.1,KT d caps h.2]
 | .p ..,h| .s ..,h| .a _,h| .t _,h| .m _,h| .d,h=>by simp [clB]at h
theorem KT(d:Nat): ∀ (xs:List V),yz xs=true→qC d xs=xs
 |[],_=>rfl
 |x::xs,h=>by
  simp only [yz,Bool.and_eq_true]at h
  simp only [qC,qd3 d x h.1,KT d xs h.2]
end
theorem qaK(d:Nat) (x:V) (h:clE x=true):qG d x=x:=by
 cases x
 case a cs=>simp only [clE]at h;simp only [qG,KT d cs h]
 all_goals exact qd3 d _ h
theorem qaJ(d:Nat): ∀ (xs:List V),qy xs=true→qC d xs=xs
 |[],_=>rfl
 |x::xs,h=>by
  simp only [qy,Bool.and_eq_true]at h
  simp only [qC,qaK d x h.1,qaJ d xs h.2]
theorem qc9: ∀ (xs ys:List V),qy (xs++ys)=(qy xs&&qy ys)
 |[],ys=>by simp [qy]
 |x::xs,ys=>by simp only [List.cons_append,qy,qc9 xs ys,Bool.and_assoc]
theorem qdX(d:Nat): ∀ (xs ys:List V),qC d (xs++ys)=qC d xs++qC d ys
 |[],ys=>rfl
 |x::xs,ys=>by simp only [List.cons_append,qC,qdX d xs ys]
theorem qdi(τ:Bool): ∀ (xs ys:List V),qW τ (xs++ys)=qW τ xs++qW τ ys
 |[],ys=>rfl
 |x::xs,ys=>by simp only [List.cons_append,qW,qdi τ xs ys]
theorem QJ(n:Nat) (z:V) (h:clE z=true):qy (List.replicate n z)=true:=by
 induction n with
 |zero=>rfl
 |succ n ih=>simp only [List.replicate_succ,qy,h,ih,Bool.and_self]
theorem qaI(d n:Nat) (z:V) (h:clE z=true):qC d (List.replicate n z)=List.replicate n z:=qaJ d _ (QJ n z h)
section
variable {α:Type} {f:α→V}
theorem xW(h: ∀ x,clE (f x)=true): ∀ (l:List α),qy (l.map f)=true
 |[]=>rfl
 |x::l=>by simp only [List.map_cons,qy,h x,xW h l,Bool.and_self]
theorem kS(h: ∀ x,clE (f x)=true) (d:Nat) (l:List α):qC d (l.map f)=l.map f:=qaJ d _ (xW h l)
theorem kj {g:α→V} {τ:Bool} (h: ∀ x,qV τ (f x)=g x): ∀ (l:List α),qW τ (l.map f)=l.map g
 |[]=>rfl
 |x::l=>by simp only [List.map_cons,qW,h x,kj h l]
theorem yF(h: ∀ x,qT (f x)=true): ∀ (l:List α),zb (l.map f)=true
 |[]=>rfl
 |x::l=>by simp only [List.map_cons,zb,h x,yF h l,Bool.and_self]
theorem qfB(k:Key) (ob:Ob): ∀ (xs ys:List V),qy xs=true→zu k ob (xs++ys)=(zu k ob ys).map (xs++ ·)
 |[],ys,_=>by simp
 |x::xs,ys,h=>by
  simp only [qy,Bool.and_eq_true]at h
  have hC: ∀ (c:V),clB c=true→zX k ob c=none:=by intro c hc;cases c<;>first|rfl|(simp [clB]at hc)
  have hCs: ∀ (cs:List V),yz cs=true→yX k ob cs=none:=by
   intro cs
   induction cs with
   |nil=>intro _;rfl
   |cons c cs ih=>
    intro h
    simp only [yz,Bool.and_eq_true]at h
    simp only [yX,hC c h.1,ih h.2,Option.map_none]
  have hE:yY k ob x=none:=by
   cases x
   case a cs=>simp only [clE]at h;simp only [yY,hCs cs h.1,Option.map_none]
   all_goals exact hC _ h.1
  simp only [List.cons_append,zu,hE,qfB k ob xs ys h.2]
  cases zu k ob ys<;>rfl
end
@[go_sem] theorem qc7(l:List Int):qy (l.map I)=true:=xW (fun _=>rfl) l
@[go_sem] theorem qc8(l:List Str):qy (l.map S)=true:=xW (fun _=>rfl) l
@[go_sem] theorem qC0(d:Nat) (l:List Int):qC d (l.map I)=l.map I:=kS (fun _=>rfl) d l
@[go_sem] theorem qC1(d:Nat) (l:List Str):qC d (l.map S)=l.map S:=kS (fun _=>rfl) d l
@[go_sem] theorem qzV(τ:Bool) (l:List Int):qW τ (l.map I)=l.map I:=kj (fun _=>rfl) l
@[go_sem] theorem qzW(τ:Bool) (l:List Str):qW τ (l.map S)=l.map S:=kj (fun _=>rfl) l
@[go_sem] theorem qFf(l:List Int):zb (l.map I)=true:=yF (fun _=>rfl) l
@[go_sem] theorem qFg(l:List Str):zb (l.map S)=true:=yF (fun _=>rfl) l
attribute [go_sem] qc9 qdX qdi QJ qaI
@[go_sem] theorem qhu(n:Nat) (l:Str):qy (List.replicate n (S l))=true:=QJ n _ rfl
@[go_sem] theorem qy5(n:Nat) (i:Int):qy (List.replicate n (I i))=true:=QJ n _ rfl
@[go_sem] theorem qDa(d n:Nat) (l:Str):qC d (List.replicate n (S l))=List.replicate n (S l):=qaI d n _ rfl
@[go_sem] theorem qC9(d n:Nat) (i:Int):qC d (List.replicate n (I i))=List.replicate n (I i):=qaI d n _ rfl
attribute [go_sem] List.length_map List.length_replicate Nat.zero_add Nat.add_zero Nat.le_refl List.take_length
@[go_sem] theorem qD5 {α:Type} {f:α→V} {l:List α} {x:α}:l.map f++[f x]=(l++[x]).map f:=by simp
@[go_sem] theorem qIF {α:Type} {f:α→V} {l:List α} {x:α}:((l++[x]).map f).take (l.length+1)=(l++[x]).map f:=by
 apply List.take_of_length_le;simp
@[go_sem] theorem qIE {α:Type} {f:α→V} {l:List α}:(l.map f).take l.length=l.map f:=by
 rw [← List.length_map (f:=f),List.take_length]
theorem jy(k:Key) (ob:Ob) (xs:List V) (h:qy xs=true):zu k ob xs=none:=by
 have:=qfB k ob xs [] h
 rw [List.append_nil]at this
 rw [this];rfl
@[go_sem] theorem qDV(m:Nat) (T:Mem) (l:List Int):qx (zn m) T (l.map I)=(l.map I,T):=xZ m T _ (qc7 l)
@[go_sem] theorem qDW(m:Nat) (T:Mem) (l:List Str):qx (zn m) T (l.map S)=(l.map S,T):=xZ m T _ (qc8 l)
@[go_sem] theorem qD3(m n:Nat) (T:Mem) (z:V) (h:clE z=true):qx (zn m) T (List.replicate n z)=(List.replicate n z,T):=xZ m T _ (QJ n z h)
@[go_sem] theorem qD4(m n:Nat) (T:Mem) (l:Str):qx (zn m) T (List.replicate n (S l))=(List.replicate n (S l),T):=xZ m T _ (qhu n l)
@[go_sem] theorem qHR(k:Key) (ob:Ob) (l:List Int):zu k ob (l.map I)=none:=jy k ob _ (qc7 l)
@[go_sem] theorem qHS(k:Key) (ob:Ob) (l:List Str):zu k ob (l.map S)=none:=jy k ob _ (qc8 l)
section lit
variable {k:Key} {lo len e:Nat} {xs:List V}
theorem qdW {i:Nat} (h:i < len) (hl:lo+len≤xs.length):ixO k lo len e (i:Int) (some (e,xs))=some (.p k (lo+i) 0):=by
 simp only [ixO,zC]
 rw [if_pos ⟨trivial,hl⟩,if_pos ⟨by omega,by omega⟩]
 simp
@[go_sem] theorem qCY:ixO k lo len e 0 (some (e,xs))=if 1≤len∧lo+len≤xs.length then some (.p k (lo+0) 0)else none:=by
 split
 ·rename_i h;exact qdW (i:=0) h.1 h.2
 ·rename_i h
  simp only [ixO,zC]
  split
  ·rename_i h2;rw [if_neg (by omega)];rfl
  ·rfl
@[go_sem] theorem qCZ:ixO k lo len e 1 (some (e,xs))=if 2≤len∧lo+len≤xs.length then some (.p k (lo+1) 0)else none:=by
 split
 ·rename_i h;exact qdW (i:=1) h.1 h.2
 ·rename_i h
  simp only [ixO,zC]
  split
  ·rename_i h2;rw [if_neg (by omega)];rfl
  ·rfl
@[go_sem] theorem qwL {T:Mem} {τ:Bool} {x:V}:xC T e (.i τ (x::xs)) 0=if x.cells.length=e then some (.q τ (x::xs) 0 0)else none:=by
 have h0:zC 0 (x::xs).length=some 0:=by
  unfold zC;rw [if_pos ⟨by omega,by simp only [List.length_cons];omega⟩];rfl
 simp only [xC,h0];rfl
@[go_sem] theorem qwM {T:Mem} {τ:Bool} {x y:V}:xC T e (.i τ (x::y::xs)) 1=if y.cells.length=e then some (.q τ (x::y::xs) 1 0)else none:=by
 have h0:zC 1 (x::y::xs).length=some 1:=by
  unfold zC;rw [if_pos ⟨by omega,by simp only [List.length_cons];omega⟩];rfl
 simp only [xC,h0];rfl
end lit
section rep
variable {k:Key} {ob:Ob} {k':Key} {e:Nat} {xs:List V} {T:Mem}
def Q3(k:Key) (ob:Ob) (r:Option (List V)) (k':Key) (e:Nat) (xs:List V) (T:Mem):Mem:=
 match r with
 |some xs'=>(k',e,xs')::T
 |none=>(k',e,xs)::xq k ob T
@[congr] theorem qH1 {r r':Option (List V)} (h:r=r'):Q3 k ob r k' e xs T=Q3 k ob r' k' e xs T:=by rw [h]
@[go_sem] theorem qIb:xq k ob []=[]:=(rfl)
@[go_sem] theorem qIa:xq k ob ((k',e,xs)::T)=Q3 k ob (zu k ob xs) k' e xs T:=by
 simp only [xq,Q3];cases zu k ob xs<;>rfl
@[go_sem] theorem qH3 {xs':List V}:Q3 k ob (some xs') k' e xs T=(k',e,xs')::T:=(rfl)
@[go_sem] theorem qH2:Q3 k ob none k' e xs T=(k',e,xs)::xq k ob T:=(rfl)
def Q5(k:Key) (ob:Ob) (r:Option V) (x:V) (xs:List V):Option (List V):=
 match r with
 |some x'=>some (x'::xs)
 |none=>zG (zu k ob xs) fun ys=>some (x::ys)
def Q4(k:Key) (ob:Ob) (r:Option V) (x:V) (xs:List V):Option (List V):=
 match r with
 |some x'=>some (x'::xs)
 |none=>zG (yX k ob xs) fun ys=>some (x::ys)
@[congr] theorem qH7 {r r':Option V} {x:V} (h:r=r'):Q5 k ob r x xs=Q5 k ob r' x xs:=by rw [h]
@[congr] theorem qH4 {r r':Option V} {x:V} (h:r=r'):Q4 k ob r x xs=Q4 k ob r' x xs:=by rw [h]
@[go_sem] theorem qH9 {x x':V}:Q5 k ob (some x') x xs=some (x'::xs):=(rfl)
@[go_sem] theorem qH8 {x:V}:Q5 k ob none x xs=zG (zu k ob xs) fun ys=>some (x::ys):=(rfl)
@[go_sem] theorem qH6 {x x':V}:Q4 k ob (some x') x xs=some (x'::xs):=(rfl)
@[go_sem] theorem qH5 {x:V}:Q4 k ob none x xs=zG (yX k ob xs) fun ys=>some (x::ys):=(rfl)
@[go_sem] theorem qH0:zu k ob []=none:=(rfl)
@[go_sem] theorem qHT {x:V}:zu k ob (x::xs)=Q5 k ob (yY k ob x) x xs:=by
 simp only [zu,Q5]
 cases yY k ob x with
 |some y=>rfl
 |none=>simp only;cases zu k ob xs<;>rfl
@[go_sem] theorem qHK:yX k ob []=none:=(rfl)
@[go_sem] theorem qHJ {x:V}:yX k ob (x::xs)=Q4 k ob (zX k ob x) x xs:=by
 simp only [yX,Q4]
 cases zX k ob x with
 |some y=>rfl
 |none=>simp only;cases yX k ob xs<;>rfl
@[go_sem] theorem qHO:yY k ob (.a xs)=zG (yX k ob xs) fun ys=>some (.a ys):=by
 simp only [yY];cases yX k ob xs<;>rfl
@[go_sem] theorem qHQ {lo len:Nat}:yY k ob (.s k' lo len)=zX k ob (.s k' lo len):=(rfl)
@[go_sem] theorem qHP {lo len:Nat}:yY k ob (.p k' lo len)=zX k ob (.p k' lo len):=(rfl)
@[go_sem] theorem qHI {lo len:Nat} {zs:List V}:zX k (e,zs) (.s k' lo len)=if k'=k∧lo=0∧len=zs.length then some (.o e zs)else none:=(rfl)
@[go_sem] theorem qHH {i o:Nat} {z:V}:zX k (e,[z]) (.p k' i o)=if k'=k∧i=0∧o=0 then some (.b z)else none:=(rfl)
@[go_sem] theorem qHB {n:Int}:zX k ob (I n)=none:=(rfl)
@[go_sem] theorem qHC {l:Str}:zX k ob (S l)=none:=(rfl)
@[go_sem] theorem qHA {b:Bool}:zX k ob (B b)=none:=(rfl)
@[go_sem] theorem qHD {n:Int}:zX k ob (U8 n)=none:=(rfl)
@[go_sem] theorem qHE {τ:Bool}:zX k ob (.i τ xs)=none:=(rfl)
@[go_sem] theorem qHG:zX k ob (.o e xs)=none:=(rfl)
@[go_sem] theorem qHF:zX k ob (.n e)=none:=(rfl)
@[go_sem] theorem qHM {n:Int}:yY k ob (I n)=none:=(rfl)
@[go_sem] theorem qHN {l:Str}:yY k ob (S l)=none:=(rfl)
@[go_sem] theorem qHL {b:Bool}:yY k ob (B b)=none:=(rfl)
end rep
inductive Tm where
 |mk (kind:Int) (name:Str) (num:Int) (kids:List Tm)
def Tm.kind:Tm→Int| .mk k _ _ _=>k
def Tm.name:Tm→Str| .mk _ s _ _=>s
def Tm.num:Tm→Int| .mk _ _ n _=>n
def Tm.kids:Tm→List Tm| .mk _ _ _ ks=>ks
noncomputable instance:DecidableEq Tm:=fun a b=>Classical.propDecidable (a=b)
section
variable {k n:Int} {s:Str} {ks:List Tm}
@[go_sem] theorem qwa:(Tm.mk k s n ks).kind=k:=(rfl)
@[go_sem] theorem qwb:(Tm.mk k s n ks).name=s:=(rfl)
@[go_sem] theorem qwc:(Tm.mk k s n ks).num=n:=(rfl)
@[go_sem] theorem qv9:(Tm.mk k s n ks).kids=ks:=(rfl)
end
mutual
def BT:Tm→V→Prop
 | .mk k s n ks,v=> ∃ τ vs,v= .a [I k,S s,I n,.i τ vs]∧BTs ks vs
def BTs:List Tm→List V→Prop
 |[],vs=>vs=[]
 |t::ts,vs=> ∃ v vs',vs=v::vs'∧BT t v∧BTs ts vs'
end
mutual
def oT:Tm→V
 | .mk k s n ks=> .a [I k,S s,I n,.o 4 (oTs ks)]
def oTs:List Tm→List V
 |[]=>[]
 |t::ts=>oT t::oTs ts
end
mutual
def iT(τ:Bool):Tm→V
 | .mk k s n ks=> .a [I k,S s,I n,.i τ (iTs τ ks)]
def iTs(τ:Bool):List Tm→List V
 |[]=>[]
 |t::ts=>iT τ t::iTs τ ts
end
theorem qeA: ∀ (ts:List Tm),oTs ts=ts.map oT
 |[]=>rfl
 |t::ts=>by simp only [oTs,List.map_cons,qeA ts]
theorem qdO(τ:Bool): ∀ (ts:List Tm),iTs τ ts=ts.map (iT τ)
 |[]=>rfl
 |t::ts=>by simp only [iTs,List.map_cons,qdO τ ts]
theorem KZ(t:Tm):oT t= .a [I t.kind,S t.name,I t.num,.o 4 (t.kids.map oT)]:=by cases t;simp only [oT,qeA];rfl
theorem kQ(τ:Bool) (t:Tm):iT τ t= .a [I t.kind,S t.name,I t.num,.i τ (t.kids.map (iT τ))]:=by cases t;simp only [iT,qdO];rfl
mutual
theorem qam(τ:Bool): ∀ (t:Tm),qV τ (oT t)=iT τ t
 | .mk k s n ks=>by simp only [oT,iT,qV,qW,qhC,qhD,qdj τ ks]
theorem qdj(τ:Bool): ∀ (ts:List Tm),qW τ (oTs ts)=iTs τ ts
 |[]=>rfl
 |t::ts=>by simp only [oTs,iTs,qW,qam τ t,qdj τ ts]
end
mutual
theorem qaU: ∀ (t:Tm),qT (oT t)=true
 | .mk k s n ks=>by simp only [oT,qT,zb,qen,qeo,qem ks,Bool.and_self]
theorem qem: ∀ (ts:List Tm),zb (oTs ts)=true
 |[]=>rfl
 |t::ts=>by simp only [oTs,zb,qaU t,qem ts,Bool.and_self]
end
mutual
theorem qaT: ∀ (t:Tm),qT (iT false t)=true
 | .mk k s n ks=>by simp only [iT,qT,zb,qen,qeo,qel ks,Bool.and_self,Bool.not_false]
theorem qel: ∀ (ts:List Tm),zb (iTs false ts)=true
 |[]=>rfl
 |t::ts=>by simp only [iTs,zb,qaT t,qel ts,Bool.and_self]
end
theorem KH(t:Tm):clE (oT t)=true:=by rw [KZ];rfl
theorem qht(τ:Bool) (t:Tm):clE (iT τ t)=true:=by rw [kQ];rfl
@[go_sem] theorem qJH(τ:Bool) (t:Tm):qX (iT τ t)=true:=by rw [kQ];rfl
@[go_sem] theorem qzR(m:Nat) (T:Mem) (τ:Bool) (t:Tm):qu (m+2) T (iT τ t)=(iT τ t,T):=by rw [kQ];rfl
@[go_sem] theorem qAd(τ τ':Bool) (t:Tm):qV τ (iT τ' t)=iT τ' t:=by rw [kQ];rfl
@[go_sem] theorem qDo(d:Nat) (τ:Bool) (t:Tm):qG d (iT τ t)=iT τ t:=qaK d _ (by rw [kQ];rfl)
@[go_sem] theorem qAG(τ:Bool) (t:Tm):yj (iT τ t)=[]:=by rw [kQ];rfl
@[go_sem] theorem qCR(τ:Bool) (t:Tm):(iT τ t).isA=true:=by rw [kQ];rfl
@[go_sem] theorem qyP(τ:Bool) (t:Tm):(iT τ t).cells=[I t.kind,S t.name,I t.num,.i τ (t.kids.map (iT τ))]:=by rw [kQ];rfl
@[go_sem] theorem qDP(τ:Bool) (t:Tm):qR true 4 (iT τ t) 0=some (iT τ t):=by rw [kQ];rfl
attribute [go_sem] qam qaU qaT KH qht
@[go_sem] theorem qz3(τ:Bool) (ts:List Tm):qW τ (ts.map oT)=ts.map (iT τ):=kj (qam τ) ts
@[go_sem] theorem qFn(ts:List Tm):zb (ts.map oT)=true:=yF qaU ts
@[go_sem] theorem qFo(ts:List Tm):zb (ts.map (iT false))=true:=yF qaT ts
@[go_sem] theorem qdf(ts:List Tm):qy (ts.map oT)=true:=xW KH ts
@[go_sem] theorem qC8(d:Nat) (ts:List Tm):qC d (ts.map oT)=ts.map oT:=kS KH d ts
@[go_sem] theorem qD2(m:Nat) (T:Mem) (l:List Tm):qx (zn m) T (l.map oT)=(l.map oT,T):=xZ m T _ (qdf l)
@[go_sem] theorem qHZ(k:Key) (ob:Ob) (l:List Tm):zu k ob (l.map oT)=none:=jy k ob _ (qdf l)
@[go_sem] theorem qDh(d:Nat) (t:Tm):qG d (oT t)=oT t:=qaK d _ (KH t)
@[go_sem] theorem qFC(t:Tm):z8 (oT t).cells=true:=by rw [KZ];rfl
@[go_sem] theorem qyT(t:Tm):(oT t).cells.length=4:=by rw [KZ];rfl
def Lm:Nat:=16777216
def inI(n:Int):Prop:= -9223372036854775808≤n∧n < 9223372036854775808
mutual
def WT:Tm→Prop
 | .mk k s n ks=>inI k∧s.length≤Lm∧inI n∧ks.length≤Lm∧WTs ks
def WTs:List Tm→Prop
 |[]=>True
 |t::ts=>WT t∧WTs ts
end
mutual
def nT:Tm→Nat
 | .mk _ _ _ ks=>nTs ks+1
def nTs:List Tm→Nat
 |[]=>0
 |t::ts=>nT t+nTs ts
end
theorem qef(t:Tm):1≤nT t:=by cases t;simp only [nT];omega
def wTm(t:Tm):Prop:=WT t∧nT t≤Lm
end Go.Vm
namespace Go.Vm
section
variable {α:Type} {f:α→V} {z x:V}
theorem qhp(xs:List V) (y:V) (zs:List V) (i:Nat) (h:xs.length=i):(xs++y::zs)[i]? =some y:=by
 subst h;simp
theorem qhr(xs:List V) (y y':V) (zs:List V) (i:Nat) (h:xs.length=i):(xs++y::zs).set i y'=xs++y'::zs:=by
 subst h;simp
end
end Go.Vm
namespace Go.Vm
theorem qmN(l:List Tm) (t:Tm):l.map oT++[.a [I t.kind,S t.name,I t.num,.o 4 (t.kids.map oT)]]=(l++[t]).map oT:=by
 rw [List.map_append,List.map_cons,List.map_nil,KZ]
theorem qkA(a:Int):(a < a)=False:=eq_false (Int.lt_irrefl a)
attribute [go_sem] qmN qkA Int.natCast_zero
end Go.Vm
set_option linter.unusedSectionVars false
namespace Go.Vm
open Go.RowKit (Below)
def ym(P:Program) (e:TypeId) (zs:List V):V:=
 match P.underlying e with
 |some (.struct _)=> .a zs
 |_=>zs.headD .d
mutual
def Shp(P:Program):Nat→TypeId→List V→Prop
 |0,_,_=>False
 |n+1,t,xs=>match P.underlying t with
  |some .bool=> ∃ b,xs=[B b]
  |some (.int k)=> ∃ m,xs=[.v (.int k m)]∧(Lit.int k m).wf=true
  |some .string=> ∃ l,xs=[S l]
  |some (.slice e)=> ∃ ys:List V,xs=[.i false ys]∧ ∀ y ∈ ys,∃ zs,Shp P n e zs∧y=ym P e zs
  |some (.struct fs)=> ∃ parts:List (List V),xs=parts.flatten∧Z4 P n (fs.toList.map (·.type)) parts
  |_=>False
def Z4(P:Program):Nat→List TypeId→List (List V)→Prop
 |_,[],[]=>True
 |n,t::ts,p::ps=>Shp P n t p∧Z4 P n ts ps
 |_,_,_=>False
end
mutual
def yP:V→Nat
 | .v (.string s)=>s.size+1
 | .i _ xs=>qY xs+1
 | .o _ xs=>qY xs+1
 | .a xs=>qY xs
 |_=>1
def qY:List V→Nat
 |[]=>0
 |x::xs=>yP x+qY xs
end
theorem qcV: ∀ (xs ys:List V),qY (xs++ys)=qY xs+qY ys
 |[],ys=>by simp [qY]
 |x::xs,ys=>by simp [qY,qcV xs ys,Nat.add_assoc]
mutual
def zH {H:Type}:DataW H→Nat
 | .lit (.string bytes)=>bytes.length+1
 | .lit _=>1
 | .nil=>1
 | .ptr d=>zH d+1
 | .slice elems spare=>xi elems+xi spare+1
 | .agg parts=>xi parts+1
 |_=>1
def xi {H:Type}:List (DataW H)→Nat
 |[]=>0
 |d::r=>zH d+xi r
end
def K1(P:Program):Nat→List Field→Bool
 |_,[]=>true
 |n,f::fs=>decide (f.offset=n)&&K1 P (n+P.cellsOf f.type) fs
def Yl(P:Program):List Field→Nat
 |[]=>0
 |f::fs=>P.cellsOf f.type+Yl P fs
def j7(P:Program) (S:List TypeId) (t:TypeId):Bool:=
 match P.underlying t with
 |some .bool|some (.int _)|some .string=>decide (P.cellsOf t=1)
 |some (.slice e)=>decide (P.cellsOf t=1)&&S.contains e&&decide (0 < P.cellsOf e)
 |some (.struct fs)=>K1 P 0 fs.toList&&decide (Yl P fs.toList=P.cellsOf t)&&fs.toList.all fun f=>S.contains f.type
 |_=>false
def y5(w:World):Env:={w,I:=fun _ b=>b < w.heap.size,μ:=fun _=>none}
def zS(P:Program) (t:TypeId):Bool:=match P.underlying t with|some (.struct _)=>true|_=>false
def jC(P:Program) (t:TypeId) (cs:List Value):Value:=
 match P.underlying t with
 |some (.struct _)=> .agg cs.toArray
 |_=>cs.headD undef
section
variable {H:Type} {enc:TypeId × Value→H} {P:Program} {w:World} {St:List TypeId}
theorem qc1 {a:Addr} {n:Nat} {cs:List Value} (h:w.cells? 0 a n=some cs) (hn:0 < n):
 a.spot=none∧ ∃ cells T fz,w.heap[a.block]? =some (.cells cells T fz)∧cs=seg cells a.off n∧a.off+n≤cells.size∧a.block < w.heap.size:=by
 unfold World.cells? at h
 rw [if_pos (Nat.zero_le _)]at h
 have hl:cs.length=n:=by simpa using mapM_some_length h
 have hg: ∀ i,i < n→w.cell? (a.add i)=cs[i]? :=fun i hi=>mapM_some_get h i i (by simp [hi])
 have h0:=hg 0 hn
 have hc0:cs[0]? =some cs[0]:=List.getElem?_eq_getElem (by omega)
 rw [hc0]at h0
 simp only [Addr.add,if_true,World.cell?]at h0
 split at h0
 case h_2=>cases h0
 rename_i cells T fz hw
 split at h0
 ·cases h0
 rename_i hsp
 have hsp':a.spot=none:=by simpa using hsp
 refine ⟨hsp',cells,T,fz,hw, ?_, ?_,(Array.getElem?_eq_some_iff.1 hw).1⟩
 ·apply List.ext_getElem?
  intro i
  by_cases hi:i < n
  ·have:=hg i hi
   rw [← this]
   have e1:(a.add i).block=a.block∧(a.add i).off=a.off+i∧(a.add i).spot=none:=by
    unfold Addr.add
    split
    ·subst i;exact ⟨rfl,rfl,hsp'⟩
    ·exact ⟨rfl,rfl,rfl⟩
   simp only [World.cell?,e1.1,hw,e1.2.1,e1.2.2]
   simp only [seg,List.getElem?_take,hi,if_true,List.getElem?_drop,Array.getElem?_toList]
   simp
  ·rw [List.getElem?_eq_none (by omega)]
   simp [seg,List.getElem?_take,hi]
 ·have h1:=hg (n - 1) (by omega)
  have e1:(a.add (n - 1)).block=a.block∧(a.add (n - 1)).off=a.off+(n - 1)∧(a.add (n - 1)).spot=none:=by
   unfold Addr.add
   split
   ·rename_i h;rw [h];exact ⟨rfl,rfl,hsp'⟩
   ·exact ⟨rfl,rfl,rfl⟩
  simp only [World.cell?,e1.1,hw,e1.2.1,e1.2.2]at h1
  have hcn:cs[n - 1]? =some cs[n - 1]:=List.getElem?_eq_getElem (by omega)
  rw [hcn]at h1
  have:a.off+(n - 1) < cells.size:=by
   simp only [Option.isSome_none,Bool.false_eq_true,if_false]at h1
   exact (Array.getElem?_eq_some_iff.1 h1).1
  omega
theorem qhR:(y5 w).cl=y5 w:=rfl
theorem qfx {t:TypeId} {xs:List V} {cs:List Value} (h:qi (y5 w) xs cs c0) (hst:zS P t=true∨(xs.length=1∧zF cs)):
 Rel (y5 w) (ym P t xs) (jC P t cs) c0∧(zF cs→(ym P t xs).cells.length=xs.length∨(ym P t xs).isA=true):=by
 unfold ym jC
 unfold zS at hst
 split at hst
 ·rename_i fs hu
  refine ⟨?_,fun _=> .inr ?_⟩
  ·simp only [Rel];exact ⟨cs.toArray,rfl,by simpa using h⟩
  ·rfl
 ·rename_i hns
  rcases hst with hst|⟨hst,hon⟩
  ·cases hst
  match xs,hst with
  |[x],_=>
   obtain ⟨y,rfl,hr⟩:=Yy h
   refine ⟨by simpa using hr,fun _=> ?_⟩
   by_cases hx:(V.isA x)=true
   ·exact .inr (by simpa using hx)
   ·left
    cases x<;>first|rfl|exact absurd rfl hx
def Rd(P:Program) (w:World) (H:Type) (enc:TypeId × Value→H) (n:Nat) (t:TypeId) (cs:List Value) (d:DataW H):Prop:=
 ∃ xs,qi (y5 w) xs cs c0∧Shp P n t xs∧qY xs≤zH d∧cs.length=P.cellsOf t∧zF cs∧(zS P t=false→ ∃ x,xs=[x]∧x.isA=false)
theorem qkU(s:ByteArray):zF [Value.string s]:=by intro z hz;simp at hz;subst hz;rfl
theorem qgZ(s:ByteArray):V.v (.string s)=S s.data.toList:=by simp [S]
theorem qdw {n:Nat} (IH: ∀ t cs d ps,t ∈ St→DataW.trod enc P w 0 (fun _=>true) true n t cs=some (d,ps)→Rd P w H enc n t cs d) (cs:List Value):
 ∀ (fs:List Field) (off:Nat) (xs:List (DataW H × List MemPlace)),K1 P off fs=true→off+Yl P fs=cs.length→(fs.all fun f=>St.contains f.type)=true→
  xs.length=fs.length→(∀ (i:Nat) (f:Field),fs[i]? =some f→DataW.trod enc P w 0 (fun _=>true) true n f.type ((cs.drop f.offset).take (P.cellsOf f.type))=xs[i]?)→
  ∃ parts,qi (y5 w) parts.flatten (cs.drop off) c0∧Z4 P n (fs.map (·.type)) parts∧qY parts.flatten≤xi (xs.map (·.1))∧zF (cs.drop off)
 |[],off,xs,_,hs,_,hl,_=>by
  have:xs=[]:=by simpa using hl
  subst this
  have hd:cs.drop off=[]:=List.drop_eq_nil_of_le (by simp only [Yl]at hs;omega)
  rw [hd]
  exact ⟨[],by simp [qi],by simp [Z4],by simp [qY],by intro z hz;cases hz⟩
 |f::fs,off,[],_,_,_,hl,_=>by simp at hl
 |f::fs,off,x::xs,ho,hs,ha,hl,hg=>by
  simp only [K1,Bool.and_eq_true,decide_eq_true_eq]at ho
  simp only [List.all_cons,Bool.and_eq_true]at ha
  simp only [Yl]at hs
  have h0:=hg 0 f rfl
  rw [ho.1]at h0
  simp only [List.getElem?_cons_zero]at h0
  obtain ⟨ys,hr,hsh,hb,hlen,hon,-⟩:=IH f.type _ x.1 x.2 (by simpa using ha.1) h0
  obtain ⟨parts,hr',hsh',hb',hon'⟩:=qdw IH cs fs (off+P.cellsOf f.type) xs ho.2 (by omega) ha.2 (by simpa using hl) (fun i f' hf'=>by simpa using hg (i+1) f' (by simpa using hf'))
  have hsplit:cs.drop off=(cs.drop off).take (P.cellsOf f.type)++cs.drop (off+P.cellsOf f.type):=by
   rw [← List.drop_drop,List.take_append_drop]
  refine ⟨ys::parts, ?_, ?_, ?_, ?_⟩
  ·rw [hsplit,List.flatten_cons]
   have:=xJ hr hr'
   rwa [QI]at this
  ·simp only [List.map_cons,Z4];exact ⟨hsh,hsh'⟩
  ·simp only [List.flatten_cons,qcV,List.map_cons,xi];omega
  ·rw [hsplit]
   intro z hz
   rcases List.mem_append.1 hz with h|h
   ·exact hon z h
   ·exact hon' z h
theorem qds {n e:Nat} (he:e ∈ St) (hpos:0 < P.cellsOf e) (IH: ∀ t cs d ps,t ∈ St→DataW.trod enc P w 0 (fun _=>true) true n t cs=some (d,ps)→Rd P w H enc n t cs d)
 (a:Addr) (cells:Array Value):
 ∀ (elems:List (DataW H × List MemPlace)) (off:Nat),(∀ i,i < elems.length→((w.cells? 0 ⟨a.block,a.off+(off+i)*P.cellsOf e,none⟩ (P.cellsOf e)).bind (DataW.trod enc P w 0 (fun _=>true) true n e))=elems[i]?)→
  (∃ T fz,w.heap[a.block]? =some (.cells cells T fz))→
  ∃ ys,ys.length=elems.length∧qj (y5 w) (P.cellsOf e) ys (seg cells (a.off+off*P.cellsOf e) (elems.length*P.cellsOf e)) c0∧(∀ y ∈ ys,∃ zs,Shp P n e zs∧y=ym P e zs)∧qY ys≤xi (elems.map (·.1))
 |[],off,_,_=>⟨[],rfl,by simp [qj,seg],by simp,by simp [qY]⟩
 |x::elems,off,hg,hw=>by
  have h0:=hg 0 (by simp)
  simp only [Nat.add_zero,List.getElem?_cons_zero,Option.bind_eq_some_iff]at h0
  obtain ⟨cs,hcs,hx⟩:=h0
  obtain ⟨xs,hr,hsh,hb,hlen,hon,hns⟩:=IH e cs x.1 x.2 he hx
  obtain ⟨ys,hyl,hyr,hys,hyb⟩:=qds he hpos IH a cells elems (off+1) (fun i hi=>by
   have:=hg (i+1) (by simp;omega)
   rw [show off+1+i=off+(i+1)by omega];simpa using this) hw
  obtain ⟨T,fz,hw'⟩:=hw
  obtain ⟨-,cells',T',fz',hw'',hseg,hle,-⟩:=qc1 hcs hpos
  simp only [hw']at hw''
  obtain ⟨rfl,rfl,rfl⟩:cells=cells'∧T=T'∧fz=fz':=by simpa using hw''
  have hst:zS P e=true∨(xs.length=1∧zF cs):=by
   cases hi:zS P e
   ·obtain ⟨x',hx',-⟩:=hns hi;exact .inr ⟨by simp [hx'],hon⟩
   ·exact .inl rfl
  have hrel:=(qfx (P:=P) (t:=e) hr hst).1
  have hlx:=yq hr
  have hval:(jC P e cs).cells.toList=cs∧(ym P e xs).cells.length=P.cellsOf e∧yP (ym P e xs)≤qY xs:=by
   unfold jC ym
   cases hi:zS P e
   ·obtain ⟨x',rfl,hxa⟩:=hns hi
    obtain ⟨y,rfl,hr1⟩:=Yy hr
    have hy:y.oneCell=true:=hon y (by simp)
    unfold zS at hi
    split at hi
    ·cases hi
    ·rename_i hq
     refine ⟨?_, ?_, ?_⟩
     ·simp only [List.headD_cons];cases y<;>first|rfl|(simp [Value.oneCell]at hy)
     ·simp only [List.headD_cons];rw [← hlen,List.length_singleton];cases x'<;>first|rfl|(simp [V.isA]at hxa)
     ·simp [qY]
   ·unfold zS at hi
    split at hi
    ·refine ⟨by simp [Value.cells], ?_, ?_⟩
     ·simp only [V.cells];omega
     ·simp [yP]
    ·cases hi
  refine ⟨ym P e xs::ys,by simp [hyl], ?_, ?_, ?_⟩
  ·simp only [qj]
   refine ⟨jC P e cs,seg cells (a.off+(off+1)*P.cellsOf e) (elems.length*P.cellsOf e),c0,c0, ?_, ?_,hval.2.1, ?_,hrel,hyr,rfl⟩
   ·rw [hval.1,hseg]
    simp only [seg,List.length_cons]
    have e1:(elems.length+1)*P.cellsOf e=P.cellsOf e+elems.length*P.cellsOf e:=by rw [Nat.add_mul];omega
    have e2:a.off+(off+1)*P.cellsOf e=a.off+off*P.cellsOf e+P.cellsOf e:=by rw [Nat.add_mul];omega
    rw [e1,List.take_add,e2,List.drop_drop]
   ·have hq:(jC P e cs).cells.size=cs.length:=by rw [← Array.length_toList,hval.1]
    rw [hq,hlen]
   ·rw [hval.1];exact hon
  ·intro y hy
   rcases List.mem_cons.1 hy with rfl|hy
   ·exact ⟨xs,hsh,rfl⟩
   ·exact hys y hy
  ·simp only [qY,List.map_cons,xi];have:=hval.2.2;omega
theorem qgf(hS: ∀ t ∈ St,j7 P St t=true): ∀ (n:Nat) (t:TypeId) (cs:List Value) (d:DataW H) (ps:List MemPlace),t ∈ St→
 DataW.trod enc P w 0 (fun _=>true) true n t cs=some (d,ps)→Rd P w H enc n t cs d
 |0,t,cs,d,ps,_,h=>by simp [DataW.trod]at h
 |n+1,t,cs,d,ps,ht,h=>by
  have IH:=qgf hS n
  have hok:=hS t ht
  unfold j7 at hok
  split at hok
  ·rename_i hu
   obtain ⟨b,rfl,hx⟩:=DataW.trod_bool hu h
   refine ⟨[B b], ?_, ?_, ?_, ?_, ?_,fun _=>⟨_,rfl,rfl⟩⟩
   ·exact zU (by simp [B,Rel,zO])
   ·simp only [Shp,hu];exact ⟨b,rfl⟩
   ·simp only [Prod.mk.injEq]at hx;rw [hx.1];simp [qY,yP,B,zH]
   ·simpa using (of_decide_eq_true hok).symm
   ·intro z hz;simp at hz;subst hz;rfl
  ·rename_i k hu
   obtain ⟨m,rfl,hx,hwf⟩:=DataW.trod_int hu h
   refine ⟨[.v (.int k m)], ?_, ?_, ?_, ?_, ?_,fun _=>⟨_,rfl,rfl⟩⟩
   ·exact zU (by simp [Rel,zO])
   ·simp only [Shp,hu];exact ⟨m,rfl,hwf⟩
   ·simp only [Prod.mk.injEq]at hx;rw [hx.1];simp [qY,yP,zH]
   ·simpa using (of_decide_eq_true hok).symm
   ·intro z hz;simp at hz;subst hz;rfl
  ·rename_i hu
   obtain ⟨s,rfl,hx,-⟩:=DataW.trod_string hu h
   refine ⟨[.v (.string s)], ?_, ?_, ?_, ?_, ?_,fun _=>⟨_,rfl,rfl⟩⟩
   ·exact zU (by simp [Rel,zO])
   ·simp only [Shp,hu];exact ⟨s.data.toList,by rw [qgZ]⟩
   ·simp only [Prod.mk.injEq]at hx;rw [hx.1];show s.data.size+1+0≤s.data.toList.length+1;simp
   ·simpa using (of_decide_eq_true hok).symm
   ·exact qkU s
  ·rename_i e hu
   simp only [Bool.and_eq_true,decide_eq_true_eq,List.contains_iff_mem]at hok
   obtain ⟨⟨hc1,heS⟩,hpos⟩:=hok
   rcases DataW.trod_slice hu h with ⟨rfl,hx⟩|⟨a,len,cap,elems,rest,m,hm,rfl,hx,-,hle,-,hel,hg,-,-⟩
   ·refine ⟨[.i false []], ?_, ?_, ?_, ?_, ?_,fun _=>⟨_,rfl,rfl⟩⟩
    ·exact zU (by simp only [Rel];exact ⟨by trivial,none,0,rfl,Nat.le_refl _,.inl trivial⟩)
    ·simp only [Shp,hu];exact ⟨[],rfl,by simp⟩
    ·simp only [Prod.mk.injEq]at hx;rw [hx.1];simp [qY,yP,zH]
    ·simpa using hc1.symm
    ·intro z hz;simp at hz;subst hz;rfl
   ·have hmn:m=n:=by omega
    subst hmn
    by_cases hz:len=0
    ·subst hz
     refine ⟨[.i false []], ?_, ?_, ?_, ?_, ?_,fun _=>⟨_,rfl,rfl⟩⟩
     ·exact zU (by simp only [Rel];exact ⟨by trivial,some a,cap,rfl,Nat.zero_le _,.inl trivial⟩)
     ·simp only [Shp,hu];exact ⟨[],rfl,by simp⟩
     ·simp only [Prod.mk.injEq]at hx;rw [hx.1];simp [qY,yP,zH]
     ·simpa using hc1.symm
     ·intro z hz;simp at hz;subst hz;rfl
    ·have h0:=hg 0 (by omega)
     have he0:elems[0]? =some elems[0]:=List.getElem?_eq_getElem (by omega)
     rw [he0,Option.bind_eq_some_iff]at h0
     obtain ⟨cs0,hcs0,-⟩:=h0
     have ha0:a.add (0*P.cellsOf e)=a:=by simp [Addr.add]
     rw [ha0]at hcs0
     obtain ⟨hsp,cells,T,fz,hw,-,-,hlt⟩:=qc1 hcs0 hpos
     have ha:a=⟨a.block,a.off,none⟩:=by obtain ⟨b,o,s⟩:=a;simp only at hsp;subst hsp;rfl
     obtain ⟨ys,hyl,hyr,hys,hyb⟩:=qds heS hpos IH a cells elems 0 (fun i hi=>by
      have:=hg i (by omega)
      rw [← this]
      congr 2
      rw [Nat.zero_add]
      unfold Addr.add
      split
      ·rename_i hq;rw [hq,Nat.add_zero];exact ha.symm
      ·rfl) ⟨T,fz,hw⟩
     simp only [Nat.zero_mul,Nat.add_zero]at hyr
     refine ⟨[.i false ys], ?_, ?_, ?_, ?_, ?_,fun _=>⟨_,rfl,rfl⟩⟩
     ·refine zU ?_
      simp only [Rel]
      refine ⟨by trivial,some a,cap,by rw [hyl,hel],by omega,.inr ⟨a.block,a.off,P.cellsOf e,cells,T,fz,by rw [← ha],hlt,hw, ?_⟩⟩
      rw [hyl];exact hyr
     ·simp only [Shp,hu];exact ⟨ys,rfl,hys⟩
     ·simp only [Prod.mk.injEq]at hx;rw [hx.1];simp only [qY,yP,zH];omega
     ·simpa using hc1.symm
     ·intro z hz;simp at hz;subst hz;rfl
  ·rename_i fs hu
   simp only [Bool.and_eq_true,decide_eq_true_eq]at hok
   obtain ⟨xs,m,hm,hx,hlen,hxl,hg⟩:=DataW.trod_struct hu h
   have hmn:m=n:=by omega
   subst hmn
   obtain ⟨parts,h1,h2,h3,h4⟩:=qdw IH cs fs.toList 0 xs hok.1.1 (by rw [hlen, ← hok.1.2];omega) hok.2 (by simpa using hxl) (fun i f hf=>hg i f (by simpa using hf))
   refine ⟨parts.flatten,by simpa using h1, ?_, ?_,hlen,by simpa using h4,fun hi=> ?_⟩
   ·simp only [Shp,hu];exact ⟨parts,rfl,h2⟩
   ·simp only [Prod.mk.injEq]at hx;rw [hx.1];simp only [zH];omega
   ·unfold zS at hi;rw [hu]at hi;cases hi
  ·cases hok
theorem qly {f:Func} {s:ChangeSpec} {apart y6 handsOn:Bool} {W W':World} {args:Array Value} {v:Value} {ds gs:List (DataW H)} {before pa pv:List MemPlace}
 (hW:DataW.Whole enc P f.params.toList s.vars apart W args.toList ds gs before)
 (hres: ∀ (b:Nat) (sp:Nat→Bool) (hd:Bool),DataW.TrodAll enc P W' b sp hd f.resultTypes.toList (v.resultList f.resultTypes.size) (s.fn H (ds++gs)).results [])
 (hargs: ∀ sp:Nat→Bool,(∀ p ∈ before,sp p.block=true)→DataW.TrodAll enc P W' 0 sp true f.params.toList args.toList (s.fn H (ds++gs)).args pa)
 (hvars: ∀ sp:Nat→Bool,(∀ p ∈ before,sp p.block=true)→DataW.TrodVars enc P W' sp s.vars (s.fn H (ds++gs)).vars pv)
 (hps:before=pa++pv) (hk:W.keptBut W' (· ∈ before)):
 s.post enc P f apart y6 handsOn false W args v W':=by
 have hold: ∀ p ∈ before,(fun b=>decide (b < W.heap.size)) p.block=true:=fun p hp=>by simpa using hW.lt p hp
 refine ⟨ds,gs,before,[],pa,pv,hW,hres _ _ _,hargs _ hold,hvars _ hold,World.keptBut_mono (fun p hp=>⟨hp, ?_⟩) hk,fun h=>by cases h⟩
 rw [hps,List.mem_append]at hp
 exact Or.inr hp
theorem qhc {W W':World} (h:Below W.heap.size W W') (may:MemPlace→Prop):W.keptBut W' may:=by
 refine ⟨h.os,h.output,fun i hi=> ?_⟩
 rw [h.block i hi]
 have hx:W.heap[i]? =some W.heap[i]:=Array.getElem?_eq_getElem hi
 rw [hx]
 cases W.heap[i]with
 |cells c t fr=>exact ⟨rfl,rfl,rfl,fun _ _=>rfl⟩
 |map es clock=>exact .inr ⟨rfl,rfl⟩
 |_=>first|rfl|trivial
theorem qge(hl:laidOutB P=true) {W W':World} (hb:Below W.heap.size W W'): ∀ {ts:List TypeId} {vs:List Value} {ds:List (DataW H)} {ps:List MemPlace},(ts.all fun t=>P.readableRec t&&decide (t < P.types.size))=true→
 DataW.TrodAll enc P W 0 (fun _=>true) true ts vs ds ps→(∀ p ∈ ps,p.block < W.heap.size)→ ∀ sp:Nat→Bool,(∀ p ∈ ps,sp p.block=true)→DataW.TrodAll enc P W' 0 sp true ts vs ds ps
 |[],[],[],ps,_,h,_,_,_=>h
 |t::ts,v::vs,d::ds,ps,hr,h,hlt,sp,hsp=>by
  simp only [List.all_cons,Bool.and_eq_true,decide_eq_true_eq]at hr
  obtain ⟨p,q,h1,h2,rfl⟩:=h
  refine ⟨p,q, ?_, ?_,rfl⟩
  ·exact WideElems.Trod_stays hl hr.1.1 hr.1.2 h1 (fun x hx=>hb.same (hlt x (List.mem_append_left _ hx))) (fun x hx=>hsp x (List.mem_append_left _ hx))
  ·exact qge hl hb hr.2 h2 (fun x hx=>hlt x (List.mem_append_right _ hx)) sp (fun x hx=>hsp x (List.mem_append_right _ hx))
 |[],_::_,_,_,_,h,_,_,_=>h.elim
 |[],[],_::_,_,_,h,_,_,_=>h.elim
 |_::_,[],_,_,_,h,_,_,_=>h.elim
 |_::_,_::_,[],_,_,h,_,_,_=>h.elim
section
variable [Lay]
def Kx(w:World):Prop:=(∀ b,Lay.B b→b < w.heap.size)∧Lay.L w
theorem qh0(w:World) (h:Kx w):Good (y5 w) c0:=⟨fun _=>Nat.zero_le _,fun _ _ h=>⟨rfl,h⟩,fun _ h=>h,fun _ h=>absurd rfl h,⟨fun b hb=>h.1 b hb,h.2⟩⟩
theorem qku {prog:Nat→Option AE} (hK:xc P prog) {f:FuncId} {xs:List V} {vs:List Value} {outs:List V} {fn:Func} (hfn:P.funcs[f]? =some fn) (hb:fn.body.isSome=true) (hn:(fn.name== "runtime.NumGoroutine")=false)
 (h:cw prog f xs=some (B true,outs)) (hr:qi (y5 w) xs vs c0) (hL:Kx w):
 Calls P f vs.toArray w fun e w'=>e= .returned (.bool true)∧Below w.heap.size w w':=by
 obtain ⟨n,hn'⟩:=QM.1 h
 have hc:=qcB hK n f xs (B true) outs hn' (y5 w) vs c0 (by rw [qhR];exact hr) (qh0 w hL)
 obtain ⟨code,hcode⟩:=Option.isSome_iff_exists.1 hb
 have hne:fn.name ≠ "runtime.NumGoroutine" :=by simpa using hn
 have hcf:(callFunc f vs.toArray).run P w= .ok (.enter f vs.toArray) w:=by
  simp [callFunc,hfn,hne,hcode]
 rw [show (y5 w).w=w from rfl,hcf]at hc
 refine hc.2.mono ?_
 rintro e w' ⟨y,rfl,E',cr,co,rfl,hy,-,-,hA⟩
 refine ⟨?_,hA.os,hA.tape,hA.output,hA.size,fun b hb=>hA.frame b hb rfl⟩
 simp only [B,Rel]at hy
 rw [hy.1]
theorem qkP {base:Nat} {t:TypeId} {v:Value} (hok:j7 P St t=true) (h:Value.okWide P w .any base t v):
 (zS P t=true→ ∃ cs,v= .agg cs)∧(zS P t=false→v.cells.toList=[v]):=by
 unfold j7 at hok
 unfold Value.okWide at h
 unfold zS
 cases hu:P.underlying t with
 |none=>rw [hu]at hok;cases hok
 |some u=>
  rw [hu]at hok
  simp only [hu]at h ⊢
  cases u<;>first|cases hok|skip
  all_goals first
   |(obtain ⟨cs,rfl,-⟩:=h;exact ⟨fun _=>⟨cs,rfl⟩,fun h=>(by cases h)⟩)
   |skip
  all_goals refine ⟨fun h=>(by cases h),fun _=> ?_⟩
  all_goals cases v<;>first|rfl|skip
  all_goals exfalso;unfold Cell.okWide at h;rw [hu]at h;simp only at h;unfold Cell.ok at h;rw [hu]at h;exact h
theorem qg8(hS: ∀ t ∈ St,j7 P St t=true) {base:Nat} {t:TypeId} {v:Value} {d:DataW H} {ps:List MemPlace} (ht:t ∈ St) (hv:Value.okWide P w .any base t v) (h:DataW.Trod enc P w 0 (fun _=>true) true t v d ps):
 ∃ n xs,Rel (y5 w) (ym P t xs) v c0∧Shp P n t xs∧qY xs≤zH d:=by
 obtain ⟨n,h⟩:=h
 obtain ⟨xs,hr,hsh,hb,hlen,hon,hx⟩:=qgf hS n t v.cells.toList d ps ht h
 refine ⟨n,xs, ?_,hsh,hb⟩
 have hst:zS P t=true∨(xs.length=1∧zF v.cells.toList):=by
  cases hi:zS P t
  ·obtain ⟨x',hx',-⟩:=hx hi;exact .inr ⟨by simp [hx'],hon⟩
  ·exact .inl rfl
 have h1:=(qfx (P:=P) (t:=t) hr hst).1
 have hl:=qkP (hS t ht) hv
 have:jC P t v.cells.toList=v:=by
  unfold jC
  unfold zS at hl
  split
  ·rename_i fs hu
   simp only [hu]at hl
   obtain ⟨cs,rfl⟩:=hl.1 trivial
   simp [Value.cells]
  ·rename_i hq
   have h2:v.cells.toList=[v]:=hl.2 (by
    split
    ·rename_i fs hu;exact absurd hu (hq fs)
    ·rfl)
   rw [h2];rfl
 rwa [this]at h1
theorem qkv {prog:Nat→Option AE} (hK:xc P prog) (hl:laidOutB P=true) {f:FuncId} {fn:Func} (hfn:P.funcs[f]? =some fn) (hb:fn.body.isSome=true) (hn:(fn.name== "runtime.NumGoroutine")=false)
 {tb:TypeId} (hres:fn.resultTypes= #[tb]) (htb:P.underlying tb=some .bool) (hread:(fn.params.toList.all fun t=>P.readableRec t&&decide (t < P.types.size))=true)
 {s:ChangeSpec} (hvars:s.vars=[]) {apart y6 handsOn:Bool} {W:World} {args:Array Value} {ds gs:List (DataW H)} {before:List MemPlace}
 (hW:DataW.Whole enc P fn.params.toList s.vars apart W args.toList ds gs before) (hspec:gs=[]→s.fn H (ds++gs)={results:=[.lit (.bool true)],args:=ds})
 (hL:Kx W) (hH: ∃ xs outs,qi (y5 W) xs args.toList c0∧cw prog f xs=some (B true,outs)):
 Calls P f args W fun e W'=> ∃ v,e= .returned v∧s.post enc P fn apart y6 handsOn false W args v W':=by
 obtain ⟨xs,outs,hr,hc⟩:=hH
 have hlt:=hW.lt
 have hW':=hW
 obtain ⟨p,q,hA,hV,rfl,hfz,hnd⟩:=hW
 rw [hvars]at hV
 obtain ⟨rfl,rfl⟩:gs=[]∧q=[]:=by
  cases gs with
  |nil=>exact ⟨rfl,hV⟩
  |cons=>exact hV.elim
 have hsp:=hspec rfl
 have hcall:=qku hK hfn hb hn hc hr hL
 rw [Array.toArray_toList]at hcall
 refine hcall.mono ?_
 rintro e W' ⟨rfl,hbel⟩
 refine ⟨_,rfl,qly (pa:=p) (pv:=[]) hW' ?_ ?_ ?_ rfl (qhc hbel _)⟩
 ·intro b sp hd
  rw [hsp,hres]
  exact ChangeShapes.trodAll_mk1 (RowKit.shut_bool htb true)
 ·intro sp hsp'
  rw [hsp]
  exact qge hl hbel hread hA (fun x hx=>hlt x (by simpa using hx)) sp (fun x hx=>hsp' x (by simpa using hx))
 ·intro sp _
  rw [hsp,hvars]
  rfl
end
theorem qmK {n:Nat} {t e:TypeId} {xs:List V} (hu:P.underlying t=some (.slice e)) (h:Shp P n t xs): ∃ m ys,n=m+1∧xs=[.i false ys]∧ ∀ y ∈ ys,∃ zs,Shp P m e zs∧y=ym P e zs:=by
 cases n with
 |zero=>simp [Shp]at h
 |succ n=>simp only [Shp,hu]at h;obtain ⟨ys,h1,h2⟩:=h;exact ⟨n,ys,rfl,h1,h2⟩
theorem qnp {e:TypeId} {k:IntKind} {z:V} (hu:P.underlying e=some (.int k)):ym P e [z]=z:=by simp [ym,hu]
theorem qcY: ∀ {ys:List V} {y:V},y ∈ ys→yP y≤qY ys
 |x::xs,y,h=>by
  simp only [qY]
  rcases List.mem_cons.1 h with rfl|h
  ·omega
  ·have:=qcY h;omega
theorem qcX: ∀ {ys:List V},(∀ y ∈ ys,1≤yP y)→ys.length≤qY ys
 |[],_=>Nat.zero_le _
 |x::xs,h=>by
  simp only [qY,List.length_cons]
  have:=qcX (ys:=xs) fun y hy=>h y (by simp [hy])
  have:=h x (by simp)
  omega
theorem qfH {α:Type} {R:α→V→Prop} {W:α→Prop}: ∀ {ys:List V},(∀ y ∈ ys,∃ t,R t y∧W t)→ ∃ ts,RL R ts ys∧ ∀ t ∈ ts,W t
 |[],_=>⟨[],rfl,by simp⟩
 |y::ys,h=>by
  obtain ⟨t,h1,h2⟩:=h y (by simp)
  obtain ⟨ts,h3,h4⟩:=qfH (ys:=ys) fun z hz=>h z (by simp [hz])
  refine ⟨t::ts,by simp only [RL];exact ⟨y,ys,rfl,h1,h3⟩,fun u hu=> ?_⟩
  rcases List.mem_cons.1 hu with rfl|hu
  ·exact h2
  ·exact h4 u hu
structure TyTerm (P:Program) (tT tS ti ts:TypeId):Prop where
 hT: ∃ fs,P.underlying tT=some (.struct fs)∧fs.toList.map (·.type)=[ti,ts,ti,tS]
 hS:P.underlying tS=some (.slice tT)
 hi:P.underlying ti=some (.int .i64)
 hs:P.underlying ts=some .string
def RdC(P:Program) (t:TypeId) {α:Type} (Rc:α→List V→Prop) (W:α→Prop):Prop:=
 ∀ n xs,Shp P n t xs→qY xs≤Lm→1≤qY xs∧ ∃ x,Rc x xs∧W x
def cI(n:Int) (xs:List V):Prop:=xs=[I n]
def cB(b:Bool) (xs:List V):Prop:=xs=[B b]
def cS(s:Str) (xs:List V):Prop:=xs=[S s]
def cA {α:Type} (R:α→V→Prop) (x:α) (xs:List V):Prop:=R x (.a xs)
def cL {α:Type} (R:α→V→Prop) (l:List α) (xs:List V):Prop:= ∃ vs,xs=[.i false vs]∧RL R l vs
def wL {α:Type} (W:α→Prop) (l:List α):Prop:=l.length≤Lm∧ ∀ x ∈ l,W x
theorem qab {e:TypeId}: ∀ (zs:List V),(zS P e=false→ ∃ z,zs=[z])→yP (ym P e zs)=qY zs:=by
 intro zs hz
 unfold ym
 unfold zS at hz
 split
 ·simp [yP]
 ·rename_i hq
  obtain ⟨z,rfl⟩:=hz (by split;(rename_i fs hu;exact absurd hu (hq fs));rfl)
  simp [qY]
theorem qlO {α:Type} {Rc:α→List V→Prop} {R:α→V→Prop} {W:α→Prop} {tl te:TypeId} (hu:P.underlying tl=some (.slice te)) (he:RdC P te Rc W) (hw: ∀ x zs,Rc x zs→R x (ym P te zs)∧(zS P te=false→ ∃ z,zs=[z])):
 RdC P tl (cL R) (wL W):=fun n xs h hb=>by
 obtain ⟨m,ys,rfl,rfl,hys⟩:=qmK hu h
 have e3:qY [V.i false ys]=qY ys+1:=by simp [yP,qY]
 rw [e3]at hb ⊢
 have hall: ∀ y ∈ ys,1≤yP y∧ ∃ t,R t y∧W t:=by
  intro y hy
  obtain ⟨zs,hz,rfl⟩:=hys y hy
  have hle:=qcY hy
  obtain ⟨x0,hx0⟩: ∃ x,Rc x zs∧W x∧1≤qY zs:=by
   by_cases hbz:qY zs≤Lm
   ·obtain ⟨h1,x,h2,h3⟩:=he m zs hz hbz;exact ⟨x,h2,h3,h1⟩
   ·exfalso
    apply hbz
    cases hst:zS P te
    ·have: ∃ z,zs=[z]:=by
      unfold zS at hst
      cases m with
      |zero=>simp [Shp]at hz
      |succ m=>
       simp only [Shp]at hz
       split at hz
       ·obtain ⟨b,rfl⟩:=hz;exact ⟨_,rfl⟩
       ·obtain ⟨b,rfl,-⟩:=hz;exact ⟨_,rfl⟩
       ·obtain ⟨b,rfl⟩:=hz;exact ⟨_,rfl⟩
       ·obtain ⟨b,rfl,-⟩:=hz;exact ⟨_,rfl⟩
       ·rename_i fs hu';rw [hu']at hst;cases hst
       ·exact hz.elim
     have:=qab (P:=P) (e:=te) zs (fun _=>this)
     omega
    ·have:=qab (P:=P) (e:=te) zs (fun h=>by rw [hst]at h;cases h)
     omega
  obtain ⟨h1,h2⟩:=hw x0 zs hx0.1
  rw [qab zs h2]
  exact ⟨hx0.2.2,x0,h1,hx0.2.1⟩
 obtain ⟨us,hr,hws⟩:=qfH (R:=R) (W:=W) fun y hy=>(hall y hy).2
 have hlen:=qcX fun y hy=>(hall y hy).1
 have hl:=qct hr
 exact ⟨by omega,us,⟨ys,rfl,hr⟩,by omega,hws⟩
end
end Go.Vm
set_option maxRecDepth 100000
namespace Go.Vm
def qbZ(f e:Nat):AC:=
 (.seq
  (.seq
   (.reg [.mv 11 (.t 5),
    .mv 12 (.t 0),
    .len 13 (.t 12),
    .bin 14 .lss (.t 11) (.t 13)])
  (.keep [0,1,5,14]
   (.cond (.t 14)
    .skip
    (.keep []
     (.exit 0)))))
 (.keep [0,1,5]
  (.seq
   (.block 1
    (.seq
     (.dreg [⟨0,[]⟩,⟨0,[]⟩,⟨0,[(0,0),(0,1),(0,2),(0,3),(100000,0),(100000,1),(100000,2),(100000,3),(100000,4),(100000,5)]⟩,⟨0,[(0,0),(0,1),(0,2),(0,3),(100000,0),(100000,1),(100000,2),(100000,3),(100000,4),(100000,5)]⟩,⟨0,[]⟩,⟨0,[]⟩,⟨0,[(1,0),(1,1),(1,2),(1,3),(100000,0),(100000,1),(100000,2),(100000,3),(100000,4),(100000,5)]⟩,⟨0,[(1,0),(1,1),(1,2),(1,3),(100000,0),(100000,1),(100000,2),(100000,3),(100000,4),(100000,5)]⟩,⟨2,[(0,0),(0,1),(0,2),(0,3),(1,0),(1,1),(1,2),(1,3),(20,0),(24,0),(100000,0),(100000,1),(100000,2),(100000,3),(100000,4),(100000,5)]⟩,⟨0,[]⟩]
      [.mv 17 (.t 0),
       .mv 18 (.t 5),
       .ia 19 e (.t 17) (.t 18),
       .ldq 20 true e (.t 19),
       .mv 21 (.t 1),
       .mv 22 (.t 5),
       .ia 23 e (.t 21) (.t 22),
       .ldq 24 true e (.t 23),
       .call (some 25) (.c (Fc f)) [(.t 20),(.t 24)] (.ro true),
       .un 26 .not (.t 25)])
    (.keep [0,1,5,26]
     (.cond (.t 26)
      (.seq
       (.reg [.mv 4 (.c (B false))])
      (.keep [4]
       .ret))
      .skip))))
  (.keep [0,1,5]
   (.reg [.mv 15 (.t 5),
    .bin 16 .add (.t 15) (.c (I 1)),
    .mv 5 (.t 16)])))))
def X1(f e:Nat):Lp:=⟨[0,1,5],[(2,0)],qbZ f e⟩
@[go_sem] theorem qt0 {f e:Nat}:(X1 f e).ls=[0,1,5]:=rfl
@[go_sem] theorem qtZ {f e:Nat}:(X1 f e).ks=[(2,0)]:=rfl
@[go_sem] theorem qtY {f e:Nat}:(X1 f e).body=qbZ f e:=rfl
def qtV(f e:Nat):AF where
 nargs:=2
 ntmps:=27
 res:=[.tmp 4]
 body:=
  (.seq
   (.reg [.mv 4 (.c (B false))])
  (.seq
   (.seq
    (.reg [.mv 6 (.t 0),
     .len 7 (.t 6),
     .mv 8 (.t 1),
     .len 9 (.t 8),
     .bin 10 .neq (.t 7) (.t 9)])
   (.keep [0,1,10]
    (.cond (.t 10)
     (.seq
      (.reg [.mv 4 (.c (B false))])
     (.keep [4]
      .ret))
     .skip)))
  (.keep [0,1]
   (.seq
    (.seq
     (.reg [.mv 5 (.c (I 0))])
    (.block 0
     (lpC (X1 f e))))
   (.keep []
    (.seq
     (.reg [.mv 4 (.c (B true))])
    (.keep [4]
     .ret)))))))
def qb0(f e:Nat):AC:=
        (.seq
         (.seq
          (.reg [.mv 12 (.t 5),
           .mv 13 (.t 0),
           .len 14 (.t 13),
           .bin 15 .lss (.t 12) (.t 14)])
         (.keep [0,1,5,15]
          (.cond (.t 15)
           .skip
           (.keep [1]
            (.exit 0)))))
        (.keep [0,1,5]
         (.seq
          (.block 1
           (.seq
            (.reg [.mv 18 (.t 0),
             .mv 19 (.t 5),
             .ia 20 e (.t 18) (.t 19),
             .ld 21 true e (.t 20),
             .mv 22 (.t 1),
             .call (some 23) (.c (Fc f)) [(.t 21),(.t 22)] (.ro false),
             .mv 1 (.t 23)])
           (.keep [0,1,5]
            (.seq
             (.reg [.mv 24 (.t 1),
              .bin 25 .lss (.t 24) (.c (I 0))])
            (.cond (.t 25)
             (.seq
              (.reg [.mv 4 (.c (I (-1)))])
             (.keep [4]
              .ret))
             .skip)))))
         (.keep [0,1,5]
          (.reg [.mv 16 (.t 5),
           .bin 17 .add (.t 16) (.c (I 1)),
           .mv 5 (.t 17)])))))
def X2(f e:Nat):Lp:=⟨[0,1,5],[(2,0)],qb0 f e⟩
@[go_sem] theorem qt3 {f e:Nat}:(X2 f e).ls=[0,1,5]:=rfl
@[go_sem] theorem qt2 {f e:Nat}:(X2 f e).ks=[(2,0)]:=rfl
@[go_sem] theorem qt1 {f e:Nat}:(X2 f e).body=qb0 f e:=rfl
def qtW(f e:Nat):AF where
 nargs:=2
 ntmps:=27
 res:=[.tmp 4]
 body:=
  (.seq
   (.reg [.mv 4 (.c (I 0))])
  (.seq
   (.reg [.mv 6 (.t 1),
    .mv 7 (.t 0),
    .len 8 (.t 7),
    .bin 9 .sub (.t 6) (.t 8),
    .mv 1 (.t 9)])
  (.keep [0,1]
   (.seq
    (.seq
     (.reg [.mv 10 (.t 1),
      .bin 11 .lss (.t 10) (.c (I 0))])
    (.cond (.t 11)
     (.seq
      (.reg [.mv 4 (.c (I (-1)))])
     (.keep [4]
      .ret))
     .skip))
   (.keep [0,1]
    (.seq
     (.seq
      (.reg [.mv 5 (.c (I 0))])
     (.block 0
      (lpC (X2 f e))))
    (.keep [1]
     (.seq
      (.reg [.mv 26 (.t 1),
       .mv 4 (.t 26)])
     (.keep [4]
      .ret)))))))))
def qb1(f e b:Nat) (z:V):AC:=
 (.seq
  (.seq
   (.reg [.mv 8 (.t 4),
    .mv 9 (.t 0),
    .len 10 (.t 9),
    .bin 11 .lss (.t 8) (.t 10)])
  (.keep [0,3,4,11]
   (.cond (.t 11)
    .skip
    (.keep [3]
     (.exit 0)))))
 (.keep [0,3,4]
  (.seq
   (.block 1
    (.reg [.mv 14 (.t 3),
     .mv 15 (.t 4),
     .mv 16 (.t 0),
     .mv 17 (.t 4),
     .ia 18 e (.t 16) (.t 17),
     .ld 19 true e (.t 18),
     .call (some 20) (.c (Fc f)) [(.t 19)] (.ro false),
     .ia 21 e (.t 14) (.t 15),
     .st e (.t 21) (.t 20)]))
  (.keep [0,3,4]
   (.reg [.mv 12 (.t 4),
    .bin 13 .add (.t 12) (.c (I 1)),
    .mv 4 (.t 13)])))))
def X3(f e b:Nat) (z:V):Lp:=⟨[0,3,4],[(1,0)],qb1 f e b z⟩
@[go_sem] theorem qt6 {f e b:Nat} {z:V}:(X3 f e b z).ls=[0,3,4]:=rfl
@[go_sem] theorem qt5 {f e b:Nat} {z:V}:(X3 f e b z).ks=[(1,0)]:=rfl
@[go_sem] theorem qt4 {f e b:Nat} {z:V}:(X3 f e b z).body=qb1 f e b z:=rfl
def qtX(f e b:Nat) (z:V):AF where
 nargs:=1
 ntmps:=23
 res:=[.tmp 2]
 body:=
  (.seq
   (.reg [.mv 2 (.c (.n e))])
  (.seq
   (.reg [.mv 5 (.t 0),
    .len 6 (.t 5),
    .mk 7 e z b (.t 6) (.t 6),
    .mv 3 (.t 7)])
  (.keep [0,3]
   (.seq
    (.seq
     (.reg [.mv 4 (.c (I 0))])
    (.block 0
     (lpC (X3 f e b z))))
   (.keep [3]
    (.seq
     (.reg [.mv 22 (.t 3),
      .mv 2 (.t 22)])
    (.keep [2]
     .ret)))))))
end Go.Vm
namespace Go.Vm
def qhU:V→Bool
 | .v _=>true
 | .i _ _=>true
 |_=>false
def qdD:List V→Bool
 |[]=>true
 |c::cs=>qhU c&&qdD cs
def qbY(e:Nat) (v:V):Prop:= ∃ cs,v= .a cs∧cs.length=e∧qdD cs=true
theorem qbY.cells {e:Nat} {v:V} (h:qbY e v):v.cells.length=e:=by obtain ⟨cs,rfl,h,-⟩:=h;exact h
section
variable {prog:Nat→Option AE} {α:Type} {R:α→V→Prop}
noncomputable local instance:DecidableEq α:=fun a b=>Classical.propDecidable (a=b)
end
end Go.Vm
namespace Go.Vm
def wS(s:Str):Prop:=s.length≤Lm
structure Cl where
 head:Tm
 body:Tm
 file:Str
noncomputable instance:DecidableEq Cl:=fun a b=>Classical.propDecidable (a=b)
def bCl(x:Cl) (v:V):Prop:= ∃ τ0 vs0 τ1 vs1,v= .a [I x.head.kind,S x.head.name,I x.head.num,.i τ0 vs0,I x.body.kind,S x.body.name,I x.body.num,.i τ1 vs1,S x.file]∧RL BT x.head.kids vs0∧RL BT x.body.kids vs1
def oCl(x:Cl):V:= .a [I x.head.kind,S x.head.name,I x.head.num,.o 4 (x.head.kids.map oT),I x.body.kind,S x.body.name,I x.body.num,.o 4 (x.body.kids.map oT),S x.file]
def iCl(τ:Bool) (x:Cl):V:= .a [I x.head.kind,S x.head.name,I x.head.num,.i τ (x.head.kids.map (iT τ)),I x.body.kind,S x.body.name,I x.body.num,.i τ (x.body.kids.map (iT τ)),S x.file]
def wCl(x:Cl):Prop:=wTm x.head∧wTm x.body∧wS x.file
theorem qdl(τ:Bool) (x:Cl):qV τ (oCl x)=iCl τ x:=by simp only [oCl,iCl,go_sem]
theorem qeu(x:Cl):qT (oCl x)=true:=by simp only [oCl,go_sem]
theorem qep(x:Cl):qT (iCl false x)=true:=by simp only [iCl,go_sem]
@[go_sem] theorem qJC(τ:Bool) (x:Cl):qX (iCl τ x)=true:=rfl
@[go_sem] theorem qzM(m:Nat) (T:Mem) (τ:Bool) (x:Cl):qu (m+2) T (iCl τ x)=(iCl τ x,T):=rfl
@[go_sem] theorem qz8(τ τ':Bool) (x:Cl):qV τ (iCl τ' x)=iCl τ' x:=rfl
@[go_sem] theorem qDj(d:Nat) (τ:Bool) (x:Cl):qG d (iCl τ x)=iCl τ x:=rfl
@[go_sem] theorem qAB(τ:Bool) (x:Cl):yj (iCl τ x)=[]:=rfl
@[go_sem] theorem qCM(τ:Bool) (x:Cl):(iCl τ x).isA=true:=rfl
@[go_sem] theorem qDK(τ:Bool) (x:Cl):qR true 9 (iCl τ x) 0=some (iCl τ x):=rfl
@[go_sem] theorem qyK(τ:Bool) (x:Cl):(iCl τ x).cells=[I x.head.kind,S x.head.name,I x.head.num,.i τ (x.head.kids.map (iT τ)),I x.body.kind,S x.body.name,I x.body.num,.i τ (x.body.kids.map (iT τ)),S x.file]:=rfl
@[go_sem] theorem qc2(x:Cl):clE (oCl x)=true:=rfl
@[go_sem] theorem qyZ(τ:Bool) (x:Cl):clE (iCl τ x)=true:=rfl
attribute [go_sem] qdl qeu qep
@[go_sem] theorem qzY(τ:Bool) (l:List Cl):qW τ (l.map oCl)=l.map (iCl τ):=kj (qdl τ) l
@[go_sem] theorem qFi(l:List Cl):zb (l.map oCl)=true:=yF qeu l
@[go_sem] theorem qFp(l:List Cl):zb (l.map (iCl false))=true:=yF qep l
@[go_sem] theorem qda(l:List Cl):qy (l.map oCl)=true:=xW qc2 l
@[go_sem] theorem qDX(m:Nat) (T:Mem) (l:List Cl):qx (zn m) T (l.map oCl)=(l.map oCl,T):=xZ m T _ (qda l)
@[go_sem] theorem qHU(k:Key) (ob:Ob) (l:List Cl):zu k ob (l.map oCl)=none:=jy k ob _ (qda l)
@[go_sem] theorem qC3(d:Nat) (l:List Cl):qC d (l.map oCl)=l.map oCl:=kS qc2 d l
structure Db where
 clauses:List Cl
 opn:List Str
noncomputable instance:DecidableEq Db:=fun a b=>Classical.propDecidable (a=b)
def bDb(x:Db) (v:V):Prop:= ∃ τ0 vs0 τ1,v= .a [.i τ0 vs0,.i τ1 (x.opn.map S)]∧RL bCl x.clauses vs0
def oDb(x:Db):V:= .a [.o 9 (x.clauses.map oCl),.o 1 (x.opn.map S)]
def iDb(τ:Bool) (x:Db):V:= .a [.i τ (x.clauses.map (iCl τ)),.i τ (x.opn.map S)]
def wDb(x:Db):Prop:=(x.clauses.length≤Lm∧ ∀ y ∈ x.clauses,wCl y)∧(x.opn.length≤Lm∧ ∀ y ∈ x.opn,wS y)
theorem qdm(τ:Bool) (x:Db):qV τ (oDb x)=iDb τ x:=by simp only [oDb,iDb,go_sem]
theorem qev(x:Db):qT (oDb x)=true:=by simp only [oDb,go_sem]
theorem qeq(x:Db):qT (iDb false x)=true:=by simp only [iDb,go_sem]
@[go_sem] theorem qJD(τ:Bool) (x:Db):qX (iDb τ x)=true:=rfl
@[go_sem] theorem qzN(m:Nat) (T:Mem) (τ:Bool) (x:Db):qu (m+2) T (iDb τ x)=(iDb τ x,T):=rfl
@[go_sem] theorem qz9(τ τ':Bool) (x:Db):qV τ (iDb τ' x)=iDb τ' x:=rfl
@[go_sem] theorem qDk(d:Nat) (τ:Bool) (x:Db):qG d (iDb τ x)=iDb τ x:=rfl
@[go_sem] theorem qAC(τ:Bool) (x:Db):yj (iDb τ x)=[]:=rfl
@[go_sem] theorem qCN(τ:Bool) (x:Db):(iDb τ x).isA=true:=rfl
@[go_sem] theorem qDL(τ:Bool) (x:Db):qR true 2 (iDb τ x) 0=some (iDb τ x):=rfl
@[go_sem] theorem qyL(τ:Bool) (x:Db):(iDb τ x).cells=[.i τ (x.clauses.map (iCl τ)),.i τ (x.opn.map S)]:=rfl
@[go_sem] theorem qc3(x:Db):clE (oDb x)=true:=rfl
@[go_sem] theorem qy0(τ:Bool) (x:Db):clE (iDb τ x)=true:=rfl
attribute [go_sem] qdm qev qeq
@[go_sem] theorem qzZ(τ:Bool) (l:List Db):qW τ (l.map oDb)=l.map (iDb τ):=kj (qdm τ) l
@[go_sem] theorem qFj(l:List Db):zb (l.map oDb)=true:=yF qev l
@[go_sem] theorem qFq(l:List Db):zb (l.map (iDb false))=true:=yF qeq l
@[go_sem] theorem qdb(l:List Db):qy (l.map oDb)=true:=xW qc3 l
@[go_sem] theorem qDY(m:Nat) (T:Mem) (l:List Db):qx (zn m) T (l.map oDb)=(l.map oDb,T):=xZ m T _ (qdb l)
@[go_sem] theorem qHV(k:Key) (ob:Ob) (l:List Db):zu k ob (l.map oDb)=none:=jy k ob _ (qdb l)
@[go_sem] theorem qC4(d:Nat) (l:List Db):qC d (l.map oDb)=l.map oDb:=kS qc3 d l
structure Fl where
 name:Str
 text:Str
noncomputable instance:DecidableEq Fl:=fun a b=>Classical.propDecidable (a=b)
def bFl(x:Fl) (v:V):Prop:=v= .a [S x.name,S x.text]
def oFl(x:Fl):V:= .a [S x.name,S x.text]
def iFl(τ:Bool) (x:Fl):V:= .a [S x.name,S x.text]
def wFl(x:Fl):Prop:=wS x.name∧wS x.text
theorem qdn(τ:Bool) (x:Fl):qV τ (oFl x)=iFl τ x:=by simp only [oFl,iFl,go_sem]
theorem qew(x:Fl):qT (oFl x)=true:=by simp only [oFl,go_sem]
theorem qer(x:Fl):qT (iFl false x)=true:=by simp only [iFl,go_sem]
@[go_sem] theorem qJE(τ:Bool) (x:Fl):qX (iFl τ x)=true:=rfl
@[go_sem] theorem qzO(m:Nat) (T:Mem) (τ:Bool) (x:Fl):qu (m+2) T (iFl τ x)=(iFl τ x,T):=rfl
@[go_sem] theorem qAa(τ τ':Bool) (x:Fl):qV τ (iFl τ' x)=iFl τ' x:=rfl
@[go_sem] theorem qDl(d:Nat) (τ:Bool) (x:Fl):qG d (iFl τ x)=iFl τ x:=rfl
@[go_sem] theorem qAD(τ:Bool) (x:Fl):yj (iFl τ x)=[]:=rfl
@[go_sem] theorem qCO(τ:Bool) (x:Fl):(iFl τ x).isA=true:=rfl
@[go_sem] theorem qDM(τ:Bool) (x:Fl):qR true 2 (iFl τ x) 0=some (iFl τ x):=rfl
@[go_sem] theorem qyM(τ:Bool) (x:Fl):(iFl τ x).cells=[S x.name,S x.text]:=rfl
@[go_sem] theorem qc4(x:Fl):clE (oFl x)=true:=rfl
@[go_sem] theorem qy1(τ:Bool) (x:Fl):clE (iFl τ x)=true:=rfl
attribute [go_sem] qdn qew qer
@[go_sem] theorem qz0(τ:Bool) (l:List Fl):qW τ (l.map oFl)=l.map (iFl τ):=kj (qdn τ) l
@[go_sem] theorem qFk(l:List Fl):zb (l.map oFl)=true:=yF qew l
@[go_sem] theorem qFr(l:List Fl):zb (l.map (iFl false))=true:=yF qer l
@[go_sem] theorem qdc(l:List Fl):qy (l.map oFl)=true:=xW qc4 l
@[go_sem] theorem qDZ(m:Nat) (T:Mem) (l:List Fl):qx (zn m) T (l.map oFl)=(l.map oFl,T):=xZ m T _ (qdc l)
@[go_sem] theorem qHW(k:Key) (ob:Ob) (l:List Fl):zu k ob (l.map oFl)=none:=jy k ob _ (qdc l)
@[go_sem] theorem qC5(d:Nat) (l:List Fl):qC d (l.map oFl)=l.map oFl:=kS qc4 d l
structure Se where
 files:List Fl
 db:Db
 lines:List Str
 out:Str
noncomputable instance:DecidableEq Se:=fun a b=>Classical.propDecidable (a=b)
def bSe(x:Se) (v:V):Prop:= ∃ τ0 vs0 τ1 vs1 τ2 τ3,v= .a [.i τ0 vs0,.i τ1 vs1,.i τ2 (x.db.opn.map S),.i τ3 (x.lines.map S),S x.out]∧RL bFl x.files vs0∧RL bCl x.db.clauses vs1
def oSe(x:Se):V:= .a [.o 2 (x.files.map oFl),.o 9 (x.db.clauses.map oCl),.o 1 (x.db.opn.map S),.o 1 (x.lines.map S),S x.out]
def iSe(τ:Bool) (x:Se):V:= .a [.i τ (x.files.map (iFl τ)),.i τ (x.db.clauses.map (iCl τ)),.i τ (x.db.opn.map S),.i τ (x.lines.map S),S x.out]
def wSe(x:Se):Prop:=(x.files.length≤Lm∧ ∀ y ∈ x.files,wFl y)∧wDb x.db∧(x.lines.length≤Lm∧ ∀ y ∈ x.lines,wS y)∧wS x.out
theorem qdp(τ:Bool) (x:Se):qV τ (oSe x)=iSe τ x:=by simp only [oSe,iSe,go_sem]
theorem qey(x:Se):qT (oSe x)=true:=by simp only [oSe,go_sem]
theorem qet(x:Se):qT (iSe false x)=true:=by simp only [iSe,go_sem]
@[go_sem] theorem qJG(τ:Bool) (x:Se):qX (iSe τ x)=true:=rfl
@[go_sem] theorem qzQ(m:Nat) (T:Mem) (τ:Bool) (x:Se):qu (m+2) T (iSe τ x)=(iSe τ x,T):=rfl
@[go_sem] theorem qAc(τ τ':Bool) (x:Se):qV τ (iSe τ' x)=iSe τ' x:=rfl
@[go_sem] theorem qDn(d:Nat) (τ:Bool) (x:Se):qG d (iSe τ x)=iSe τ x:=rfl
@[go_sem] theorem qAF(τ:Bool) (x:Se):yj (iSe τ x)=[]:=rfl
@[go_sem] theorem qCQ(τ:Bool) (x:Se):(iSe τ x).isA=true:=rfl
@[go_sem] theorem qDO(τ:Bool) (x:Se):qR true 5 (iSe τ x) 0=some (iSe τ x):=rfl
@[go_sem] theorem qyO(τ:Bool) (x:Se):(iSe τ x).cells=[.i τ (x.files.map (iFl τ)),.i τ (x.db.clauses.map (iCl τ)),.i τ (x.db.opn.map S),.i τ (x.lines.map S),S x.out]:=rfl
@[go_sem] theorem qc6(x:Se):clE (oSe x)=true:=rfl
@[go_sem] theorem qy3(τ:Bool) (x:Se):clE (iSe τ x)=true:=rfl
attribute [go_sem] qdp qey qet
@[go_sem] theorem qz2(τ:Bool) (l:List Se):qW τ (l.map oSe)=l.map (iSe τ):=kj (qdp τ) l
@[go_sem] theorem qFm(l:List Se):zb (l.map oSe)=true:=yF qey l
@[go_sem] theorem qFt(l:List Se):zb (l.map (iSe false))=true:=yF qet l
@[go_sem] theorem qde(l:List Se):qy (l.map oSe)=true:=xW qc6 l
@[go_sem] theorem qD1(m:Nat) (T:Mem) (l:List Se):qx (zn m) T (l.map oSe)=(l.map oSe,T):=xZ m T _ (qde l)
@[go_sem] theorem qHY(k:Key) (ob:Ob) (l:List Se):zu k ob (l.map oSe)=none:=jy k ob _ (qde l)
@[go_sem] theorem qC7(d:Nat) (l:List Se):qC d (l.map oSe)=l.map oSe:=kS qc6 d l
end Go.Vm
namespace Go.Vm
section
variable [Lay] {P:Program} {E:Env} {c:Cnt} {w':World}
structure Adds (w w':World):Prop where
 os:w'.os=w.os
 tape:w'.tape=w.tape
 output:w'.output=w.output
 size:w.heap.size≤w'.heap.size
 old: ∀ b,b < w.heap.size→w'.heap[b]? =w.heap[b]?
theorem Adds.refl(w:World):Adds w w:=⟨rfl,rfl,rfl,Nat.le_refl _,fun _ _=>rfl⟩
theorem qg3(w:World) (k:Nat) (os:Array Obj):Adds w (Sort.grow (w.drewN k) os):=
 ⟨rfl,rfl,rfl,by show w.heap.size≤(w.heap++os).size;simp,fun b hb=>by show (w.heap++os)[b]? =_;rw [Array.getElem?_append_left hb]⟩
theorem Adds.adv(h:Adds E.w w') (hg:Good E c):Mono E {E with w:=w'} c∧Good {E with w:=w'} c∧Adv E c {E with w:=w'} c:=by
 refine ⟨⟨fun τ b hb=>⟨hb,h.old b (hg.imm τ b hb).2⟩,fun b hb=>h.old b (hg.bnd b hb),fun k l h=>h⟩,
  ⟨hg.one,fun τ b hb=>⟨(hg.imm τ b hb).1,Nat.lt_of_lt_of_le (hg.imm τ b hb).2 h.size⟩,hg.sub,fun b hb=>Nat.lt_of_lt_of_le (hg.bnd b hb) h.size,hg.lay.next (fun b hb=>hb) (fun b hb=>h.old b (hg.imm false b hb).2)⟩,
  ⟨fun b n hn=>by rw [Yb (h.old b (KF hn))];exact hn,h.os,h.tape,h.output,h.size,fun b hb _=>h.old b hb,fun _ _ h=>h,fun b hb=> .inl hb,fun τ b hb=> .inl hb⟩⟩
theorem K7 {f:Nat} {fn:Func} {xs:List V} {r:V} {x:Value} (hfn:P.funcs[f]? =some fn) (hb:fn.body.isSome=true) (hn:(fn.name== "runtime.NumGoroutine")=false) (hr:r= .v x) (hx:zO x=false)
 (h: ∀ (E:Env) (vs:List Value),qi E.cl xs vs c0→Lay.L E.w→Calls P f vs.toArray E.w fun e w'=>e= .returned x∧Adds E.w w') (hz: ∀ (E:Env) vs c,qi E.cl xs vs c→c=c0):
 kF P f xs r xs:=by
 intro E vs c hxs hg
 have h0:=hz E vs c hxs
 subst h0
 obtain ⟨code,hcode⟩:=Option.isSome_iff_exists.1 hb
 have hne:fn.name ≠ "runtime.NumGoroutine" :=by simpa using hn
 have hcf:(callFunc f vs.toArray).run P E.w= .ok (.enter f vs.toArray) E.w:=by
  simp [callFunc,hfn,hne,hcode]
 rw [hcf]
 refine ⟨rfl,(h E vs hxs hg.lay.ll).mono ?_⟩
 rintro e w' ⟨rfl,ha⟩
 obtain ⟨hm,hg',hA⟩:=ha.adv hg
 refine ⟨x,rfl,{E with w:=w'},c0,c0,rfl, ?_,yr hxs (hm.cl), ?_, ?_⟩
 ·subst hr;simp [Rel,hx]
 ·rw [QI];exact hg'
 ·rw [QI];exact hA
end
def jX:List V→Option (V × List V)
 |[.v (.int .i64 n)]=>if -9223372036854775808≤n∧n≤9223372036854775807 then some (S (Lib.itoa n),[I n])else none
 |_=>none
theorem qao {prog:Nat→Option AE} {f:Nat} {g:List V→Option (V × List V)} (h:prog f=some (.prim g)) (xs:List V):cw prog f xs=g xs:=by
 apply xE
 intro r
 rw [QM]
 constructor
 ·rintro ⟨n,hn⟩
  cases n with
  |zero=>simp [za]at hn
  |succ n=>simpa only [za,h]using hn
 ·intro hr
  exact ⟨1,by simpa only [za,h]using hr⟩
theorem qhE {prog:Nat→Option AE} {f:Nat} (h:prog f=some (.prim jX)) (n:Int) (h0: -9223372036854775808≤n) (h1:n≤9223372036854775807):cr prog f [I n]=some (S (Lib.itoa n)):=by
 unfold cr
 rw [qao h]
 show (jX [.v (.int .i64 n)]).map _=_
 simp only [jX,if_pos (show -9223372036854775808≤n∧n≤9223372036854775807 from ⟨h0,h1⟩),Option.map_some]
def qaF:List V→Option (V × List V)
 |[.v (.string s),.v (.int .u8 c)]=>some (I (Lib.indexByte s.data.toList c.toNat.toUInt8),[.v (.string s),.v (.int .u8 c)])
 |_=>none
def qbD:V→Option Str
 | .v (.string s)=>some s.data.toList
 |_=>none
def JA:List V→Option (List Str)
 |[]=>some []
 |x::xs=>match qbD x,JA xs with
  |some s,some ss=>some (s::ss)
  |_,_=>none
theorem qm0 {x:V} {s:Str} (h:qbD x=some s):x=S s:=by
 unfold qbD at h
 split at h
 ·cases h;rfl
 ·cases h
theorem qf2: ∀ {xs:List V} {ss:List Str},JA xs=some ss→xs=ss.map S
 |[],ss,h=>by cases h;rfl
 |x::xs,ss,h=>by
  simp only [JA]at h
  split at h
  ·rename_i s r h1 h2
   cases h
   rw [List.map_cons,qm0 h1,qf2 h2]
  ·cases h
def qaG:List V→Option (V × List V)
 |[.i τ xs,.v (.string p)]=>match JA xs with
  |some ss=>if xs.length≤140737488355328∧(Lib.join ss p.data.toList).length≤140737488355328 then some (S (Lib.join ss p.data.toList),[.i τ xs,.v (.string p)])else none
  |none=>none
 |_=>none
theorem qfm {E:Env} {e:Nat}: ∀ {ss:List Str} {ys:List Value} {c:Cnt},qj E e (ss.map S) ys c→(ss=[]∨e=1)∧ys=ss.map fun s=> .string ⟨s.toArray⟩
 |[],ys,c,h=>by simp only [List.map_nil,qj]at h;exact ⟨.inl rfl,h.1⟩
 |s::ss,ys,c,h=>by
  simp only [List.map_cons,qj]at h
  obtain ⟨y,ys',c1,c2,rfl,hy,-,-,h1,h2,-⟩:=h
  simp only [S,Rel]at h1
  obtain ⟨rfl,-,-⟩:=h1
  refine ⟨.inr (by rw [← hy];rfl), ?_⟩
  rw [(qfm h2).2]
  rfl
def Qm:List V→Option (V × List V)
 |[.v (.string s),.v (.string p)]=>match p.data.toList with
  |[c]=>if c.toNat < 128∧s.size≤9223372036854775807 then some (S (Lib.trimB s.data.toList c),[.v (.string s),.v (.string p)])else none
  |_=>none
 |_=>none
theorem qhG {prog:Nat→Option AE} {f:Nat} (h:prog f=some (.prim Qm)) (s:Str) (c:UInt8) (h0:c.toNat < 128) (h1:s.length≤9223372036854775807):cr prog f [S s,S [c]]=some (S (Lib.trimB s c)):=by
 unfold cr
 rw [qao h]
 show (Qm [.v (.string ⟨s.toArray⟩),.v (.string ⟨[c].toArray⟩)]).map _=_
 simp only [Qm]
 rw [if_pos ⟨h0,by show s.toArray.size≤_;simpa using h1⟩]
 rfl
def Qh:List V→Option (V × List V)
 |[.v (.string s),.v (.string p)]=>match p.data.toList with
  |[c]=>if s.size < 4294967281 then some (.i false ((Lib.split s.data.toList [c]).map S),[.v (.string s),.v (.string p)])else none
  |_=>none
 |_=>none
theorem qhF {prog:Nat→Option AE} {f:Nat} (h:prog f=some (.prim Qh)) (s:Str) (c:UInt8) (h1:s.length < 4294967281):cr prog f [S s,S [c]]=some (.i false ((Lib.split s [c]).map S)):=by
 unfold cr
 rw [qao h]
 show (Qh [.v (.string ⟨s.toArray⟩),.v (.string ⟨[c].toArray⟩)]).map _=_
 simp only [Qh]
 rw [if_pos (by show s.toArray.size < _;simpa using h1)]
 rfl
theorem qfn(E:Env): ∀ ss:List Str,qj E 1 (ss.map S) (ss.map fun s=> .string ⟨s.toArray⟩) c0
 |[]=>by simp [qj]
 |s::ss=>by
  simp only [List.map_cons,qj]
  refine ⟨.string ⟨s.toArray⟩,_,c0,c0,rfl,rfl,rfl, ?_, ?_,qfn E ss,rfl⟩
  ·intro z hz
   simp [Value.cells]at hz;subst hz;rfl
  ·simp [S,Rel,zO]
theorem qlB [Lay] {P:Program} {f:Nat} {fn:Func} {xs:List V} {ss:List Str} (hfn:P.funcs[f]? =some fn) (hb:fn.body.isSome=true) (hn:(fn.name== "runtime.NumGoroutine")=false)
 (h: ∀ (E:Env) (vs:List Value),qi E.cl xs vs c0→Lay.L E.w→Calls P f vs.toArray E.w fun e w'=> ∃ T,e= .returned (.slice (some ⟨E.w.heap.size,0,none⟩) ss.length ss.length)∧w'=E.w.alloc (.cells (ss.map fun s=>Value.string ⟨s.toArray⟩).toArray T)) (hz: ∀ (E:Env) vs c,qi E.cl xs vs c→c=c0):
 kF P f xs (.i false (ss.map S)) xs:=by
 intro E vs c hxs hg
 have h0:=hz E vs c hxs
 subst h0
 obtain ⟨code,hcode⟩:=Option.isSome_iff_exists.1 hb
 have hne:fn.name ≠ "runtime.NumGoroutine" :=by simpa using hn
 have hcf:(callFunc f vs.toArray).run P E.w= .ok (.enter f vs.toArray) E.w:=by
  simp [callFunc,hfn,hne,hcode]
 rw [hcf]
 refine ⟨rfl,(h E vs hxs hg.lay.ll).mono ?_⟩
 rintro e w' ⟨T,rfl,rfl⟩
 have hold: ∀ b,b < E.w.heap.size→(E.w.alloc (.cells (ss.map fun s=>Value.string ⟨s.toArray⟩).toArray T)).heap[b]? =E.w.heap[b]? :=fun b hb=>by
  show (E.w.heap.push _)[b]? =_
  rw [Array.getElem?_push_lt hb,Array.getElem?_eq_getElem hb]
 have hsz:(E.w.alloc (.cells (ss.map fun s=>Value.string ⟨s.toArray⟩).toArray T)).heap.size=E.w.heap.size+1:=by
  show (E.w.heap.push _).size=_;simp
 have hnew:(E.w.alloc (.cells (ss.map fun s=>Value.string ⟨s.toArray⟩).toArray T)).heap[E.w.heap.size]? =some (.cells (ss.map fun s=>Value.string ⟨s.toArray⟩).toArray T (0,0)):=by
  show (E.w.heap.push _)[E.w.heap.size]? =_
  simp
 refine ⟨_,rfl,{E with w:=E.w.alloc (.cells (ss.map fun s=>Value.string ⟨s.toArray⟩).toArray T),I:=fun τ b=>E.I τ b∨b=E.w.heap.size},c0,c0,rfl, ?_, ?_, ?_, ?_⟩
 ·simp only [Rel]
  refine ⟨by trivial,some ⟨E.w.heap.size,0,none⟩,ss.length,by simp,by simp,.inr ⟨E.w.heap.size,0,1,_,T,(0,0),rfl,.inr rfl,hnew, ?_⟩⟩
  have hs:seg (ss.map fun s=>Value.string ⟨s.toArray⟩).toArray 0 ((ss.map S).length*1)=ss.map fun s=>Value.string ⟨s.toArray⟩:=by
   simp only [seg,List.drop_zero,List.length_map,Nat.mul_one]
   exact List.take_of_length_le (by simp)
  rw [hs]
  exact qfn _ ss
 ·exact yr hxs ⟨fun τ b hb=>⟨.inl hb,hold b (hg.imm τ b hb).2⟩,fun b hb=>absurd rfl hb,fun k l hk=>hk⟩
 ·rw [QI]
  refine ⟨fun b=>Nat.zero_le _,fun τ b hb=>⟨rfl, ?_⟩,fun b hb=> ?_,fun b hb=>absurd rfl hb,hg.lay.next (fun b hb=> .inl hb) (fun b hb=>hold b (hg.imm false b hb).2)⟩
  ·rcases hb with hb|rfl
   ·exact Nat.lt_of_lt_of_le (hg.imm τ b hb).2 (by rw [hsz];omega)
   ·show E.w.heap.size < _;rw [hsz];omega
  ·exact hb.imp (hg.sub b) id
 ·rw [QI]
  refine ⟨fun b n hn=> ?_,rfl,rfl,rfl,by show E.w.heap.size≤_;rw [hsz];omega,fun b hb _=>hold b hb,fun _ _ h=> .inl h,fun b hb=>absurd rfl hb,fun τ b hb=> ?_⟩
  ·rw [Yb (hold b (KF hn))];exact hn
  ·rcases hb with hb|rfl
   ·exact .inl hb
   ·exact .inr (.inr (Nat.le_refl _))
end Go.Vm
