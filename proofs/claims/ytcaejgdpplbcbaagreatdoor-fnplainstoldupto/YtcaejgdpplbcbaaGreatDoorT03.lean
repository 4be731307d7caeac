import Derived.Test.YtcaejgdpplbcbaaGreatDoorT02
import Derived.Laws.Strings
import Derived.ChangeArms
import Derived.ProofKit
import Derived.OpenShut
import Derived.Sort.Grow
import Derived.Deep.Draws
import Derived.Lib.LaidTab
import Derived.Lib.ItoaNum
import Derived.Lib.Bytealg
import Derived.Lib.Join
import Derived.Lib.Split
import Derived.Lib.TrimByte
set_option autoImplicit false
set_option linter.unusedVariables false
set_option linter.unusedSimpArgs false
namespace Go.Vm
section
variable {prog:Nat→Option AE} {st:St} {σ:Sl} {T:Mem} {call:qX} {a b:Int} {x y:List UInt8}
@[go_sem] theorem qKf:qo .add (I a) (I b)=some (I (w64 (a+b))):=(rfl)
@[go_sem] theorem qKn:qo .sub (I a) (I b)=some (I (w64 (a - b))):=(rfl)
@[go_sem] theorem qKl:qo .mul (I a) (I b)=some (I (w64 (a*b))):=(rfl)
@[go_sem] theorem qKk:qo .lss (I a) (I b)=some (B (decide (a < b))):=(rfl)
@[go_sem] theorem qKj:qo .leq (I a) (I b)=some (B (decide (a≤b))):=(rfl)
@[go_sem] theorem qKi:qo .gtr (I a) (I b)=some (B (decide (b < a))):=(rfl)
@[go_sem] theorem qKh:qo .geq (I a) (I b)=some (B (decide (b≤a))):=(rfl)
@[go_sem] theorem qKg:qo .eql (I a) (I b)=some (B (decide (a=b))):=by
 have:(a==b)=decide (a=b):=by rw [Bool.eq_iff_iff];simp
 exact congrArg (fun t=>some (B t)) this
@[go_sem] theorem qKm:qo .neq (I a) (I b)=some (B (decide (a ≠ b))):=by
 have:(a != b)=decide (a ≠ b):=by rw [Bool.eq_iff_iff];simp
 exact congrArg (fun t=>some (B t)) this
@[go_sem] theorem qJ9:qo .lss (U8 a) (U8 b)=some (B (decide (a < b))):=(rfl)
@[go_sem] theorem qJ8:qo .leq (U8 a) (U8 b)=some (B (decide (a≤b))):=(rfl)
@[go_sem] theorem qJ7:qo .gtr (U8 a) (U8 b)=some (B (decide (b < a))):=(rfl)
@[go_sem] theorem qJ6:qo .geq (U8 a) (U8 b)=some (B (decide (b≤a))):=(rfl)
@[go_sem] theorem qJ4:qo .add (U8 a) (U8 b)=some (U8 (IntKind.u8.wrap (a+b))):=(rfl)
@[go_sem] theorem qJ5:qo .eql (U8 a) (U8 b)=some (B (decide (a=b))):=by
 have:(a==b)=decide (a=b):=by rw [Bool.eq_iff_iff];simp
 exact congrArg (fun t=>some (B t)) this
@[go_sem] theorem qKa:qo .neq (U8 a) (U8 b)=some (B (decide (a ≠ b))):=by
 have:(a != b)=decide (a ≠ b):=by rw [Bool.eq_iff_iff];simp
 exact congrArg (fun t=>some (B t)) this
theorem qfD:(ByteArray.mk x.toArray).toList=x:=by rw [ByteArray.toList_eq]
@[go_sem] theorem qKb:qo .eql (S x) (S y)=some (B (decide (x=y))):=by
 have:(Op.stringOp .eql ⟨x.toArray⟩ ⟨y.toArray⟩).val? =some (.bool (decide (x=y))):=by
  simp only [Op.stringOp,qfD]
  have:(x==y)=decide (x=y):=by rw [Bool.eq_iff_iff];simp
  rw [this];rfl
 exact congrArg (Option.map V.v) this
@[go_sem] theorem qKe:qo .neq (S x) (S y)=some (B (decide (x ≠ y))):=by
 have:(Op.stringOp .neq ⟨x.toArray⟩ ⟨y.toArray⟩).val? =some (.bool (decide (x ≠ y))):=by
  simp only [Op.stringOp,qfD]
  have:(!x==y)=decide (x ≠ y):=by rw [Bool.eq_iff_iff];simp
  rw [this];rfl
 exact congrArg (Option.map V.v) this
@[go_sem] theorem qKd:qo .lss (S x) (S y)=some (B (Op.bytesLess x y)):=by
 have:(Op.stringOp .lss ⟨x.toArray⟩ ⟨y.toArray⟩).val? =some (.bool (Op.bytesLess x y)):=by
  simp only [Op.stringOp,qfD];rfl
 exact congrArg (Option.map V.v) this
@[go_sem] theorem qKc:qo .gtr (S x) (S y)=some (B (!(Op.bytesLess x y||decide (x=y)))):=by
 have:(Op.stringOp .gtr ⟨x.toArray⟩ ⟨y.toArray⟩).val? =some (.bool (!(Op.bytesLess x y||decide (x=y)))):=by
  simp only [Op.stringOp,qfD]
  have:(x==y)=decide (x=y):=by rw [Bool.eq_iff_iff];simp
  rw [this];rfl
 exact congrArg (Option.map V.v) this
theorem qw(h:x.length+y.length≤9223372036854775807):qo .add (S x) (S y)=some (S (x++y)):=by
 have:(Op.stringOp .add ⟨x.toArray⟩ ⟨y.toArray⟩).val? =some (.string ⟨(x++y).toArray⟩):=by
  simp only [Op.stringOp,ByteArray.size,List.size_toArray]
  rw [if_neg (by simp [IntKind.max,IntKind.signed,IntKind.bits];omega)]
  have:(ByteArray.mk x.toArray++ByteArray.mk y.toArray)=⟨(x++y).toArray⟩:=by
   apply ByteArray.ext
   simp
  rw [this];rfl
 exact congrArg (Option.map V.v) this
theorem qqb(h:b ≠ 0):qo .quo (I a) (I b)=some (I (w64 (a.tdiv b))):=by
 have:(Op.intDiv .quo .i64 a b).val? =some (.int .i64 (w64 (a.tdiv b))):=by
  simp only [Op.intDiv,if_neg h];rfl
 exact congrArg (Option.map V.v) this
theorem Z8(h:b ≠ 0):qo .rem (I a) (I b)=some (I (a.tmod b)):=by
 have:(Op.intDiv .rem .i64 a b).val? =some (.int .i64 (a.tmod b)):=by
  simp only [Op.intDiv,if_neg h];rfl
 exact congrArg (Option.map V.v) this
@[go_sem] theorem qOh {p q:Bool}:eqV 0 (B p) (B q)=some (p==q):=(rfl)
@[go_sem] theorem qOj {e e':Nat}:eqV 2 (.n e) (.n e')=some true:=(rfl)
@[go_sem] theorem qOi {e:Nat} {τ:Bool} {z:V} {zs:List V}:eqV 2 (.i τ (z::zs)) (.n e)=some false:=(rfl)
@[go_sem] theorem qQH {α β:Type} {f:α→β} {z:α}:(some z).map f=some (f z):=(rfl)
def ldO(ob:Option Ob) (idx:Nat) (agg:Bool) (size off:Nat):Option V:=
 match ob with
 |some ob=>qt ob.2[idx]? fun x=>qZ agg size x off
 |none=>none
@[go_sem] theorem qP2 {e idx size off:Nat} {xs:List V} {agg:Bool}:ldO (some (e,xs)) idx agg size off=qt xs[idx]? fun x=>qZ agg size x off:=(rfl)
@[go_sem] theorem qQr {k:Key} {idx off size:Nat} {agg:Bool}:xO T agg size (.p k idx off)=ldO (qu T k) idx agg size off:=by
 simp only [xO,ldO]
 cases qu T k with
 |none=>rfl
 |some ob=>simp only;cases ob.2[idx]? <;>rfl
@[go_sem] theorem qQs {τ:Bool} {xs:List V} {idx off size:Nat} {agg:Bool}:xO T agg size (.q τ xs idx off)=qt xs[idx]? fun x=>qZ agg size x off:=by
 simp only [xO];cases xs[idx]? <;>rfl
@[go_sem] theorem qQd {n:Nat} {cs:List V} {off:Nat}:qZ true n (.a cs) off=if off=0∧cs.length=n then some (.a cs)else if off+n≤cs.length then some (.a ((cs.drop off).take n))else none:=by
 unfold qZ
 simp only [V.cells,V.isA,if_true]
 by_cases h:off=0∧cs.length=n
 ·simp only [h.1,h.2,and_self,if_true]
 ·rw [if_neg h,if_neg (fun h'=>h ⟨h'.1,h'.2.1⟩)];by_cases h2:off+n≤cs.length<;>simp only [h2,if_true,if_false]
@[go_sem] theorem qQe {n:Nat} {cs:List V} {off:Nat}:qZ false n (.a cs) off=cs[off]? :=(rfl)
@[go_sem] theorem qP7 {n:Nat}:qZ false n (I a) 0=some (I a):=(rfl)
@[go_sem] theorem qP9 {n:Nat}:qZ false n (S x) 0=some (S x):=(rfl)
@[go_sem] theorem qP6 {n:Nat} {p:Bool}:qZ false n (B p) 0=some (B p):=(rfl)
@[go_sem] theorem qQb {n:Nat}:qZ false n (U8 a) 0=some (U8 a):=(rfl)
@[go_sem] theorem qQg {n:Nat} {τ:Bool} {xs:List V}:qZ false n (.i τ xs) 0=some (.i τ xs):=(rfl)
@[go_sem] theorem qQk {n:Nat} {k:Key} {lo len:Nat}:qZ false n (.s k lo len) 0=some (.s k lo len):=(rfl)
@[go_sem] theorem qQj {n e:Nat} {xs:List V}:qZ false n (.o e xs) 0=some (.o e xs):=(rfl)
@[go_sem] theorem qQi {n e:Nat}:qZ false n (.n e) 0=some (.n e):=(rfl)
@[go_sem] theorem qQf {n:Nat} {fn:Fn} {xs ys:List V}:qZ false n (.f fn xs ys) 0=some (.f fn xs ys):=(rfl)
def stO(T:Mem) (k:Key) (ob:Option Ob) (idx off:Nat) (y:V):Option Mem:=
 match ob with
 |some ob=>match ob.2[idx]? with
  |some x=>match ZB x off y with
   |some x'=>some ((k,ob.1,ob.2.set idx x')::qG T k)
   |none=>none
  |none=>none
 |none=>none
@[go_sem] theorem qU8 {k:Key} {idx off:Nat} {y:V}:ZC T (.p k idx off) y=stO T k (qu T k) idx off y:=(rfl)
@[go_sem] theorem qU6 {k:Key} {idx off e:Nat} {xs:List V} {y:V}:stO T k (some (e,xs)) idx off y=qt xs[idx]? fun x=>qt (ZB x off y) fun x'=>some ((k,e,xs.set idx x')::qG T k):=by
 simp only [stO]
 cases xs[idx]? with
 |none=>rfl
 |some x=>simp only [qt];cases ZB x off y<;>rfl
attribute [go_sem] ZB
@[go_sem] theorem qN4 {z:V} {zs:List V}:(z::zs)[0]? =some z:=(rfl)
@[go_sem] theorem qN5 {z:V} {zs:List V} {n:Nat}:(z::zs)[n+1]? =zs[n]? :=by simp
@[go_sem] theorem qU1 {z z':V} {zs:List V}:(z::zs).set 0 z'=z'::zs:=(rfl)
@[go_sem] theorem qU2 {z z':V} {zs:List V} {n:Nat}:(z::zs).set (n+1) z'=z::zs.set n z':=(rfl)
attribute [go_sem] List.length_cons List.length_nil List.take_zero List.take_succ_cons List.drop_zero List.drop_succ_cons List.nil_append List.cons_append List.append_nil List.length_append
def ixO(k:Key) (lo len e:Nat) (i:Int) (ob:Option Ob):Option V:=
 match ob with
 |some ob=>if ob.1=e∧lo+len≤ob.2.length then (yf i len).map fun j=> .p k (lo+j) 0 else none
 |none=>none
@[go_sem] theorem qJB {k:Key} {lo len e:Nat} {i:Int}:ji T e (.s k lo len) i=ixO k lo len e i (qu T k):=(rfl)
theorem jq {k:Key} {len e:Nat} {xs:List V} {i:Nat} (h:i < len) (hl:len≤xs.length):ixO k 0 len e (i:Int) (some (e,xs))=some (.p k i 0):=by
 simp only [ixO,yf]
 rw [if_pos ⟨trivial,by omega⟩,if_pos ⟨by omega,by omega⟩]
 simp
theorem zy {τ:Bool} {xs:List V} {e:Nat} {i:Nat} {z:V} (h:xs[i]? =some z) (hz:z.cells.length=e):ji T e (.i τ xs) (i:Int)=some (.q τ xs i 0):=by
 have hl:i < xs.length:=(List.getElem?_eq_some_iff.1 h).1
 simp only [ji,yf]
 rw [if_pos ⟨by omega,by omega⟩]
 simp only [Int.toNat_natCast,h,Option.getD_some,hz,if_true]
def elO(e lo len:Nat) (ob:Option Ob):Option (List V):=
 match ob with
 |some ob=>if ob.1=e∧lo+len≤ob.2.length then some ((ob.2.drop lo).take len)else none
 |none=>none
@[go_sem] theorem qN8 {k:Key} {lo len e:Nat}:jm T e (.s k lo len)=elO e lo len (qu T k):=(rfl)
@[go_sem] theorem qN3 {e e' lo len:Nat} {xs:List V}:elO e lo len (some (e',xs))=if e'=e∧lo+len≤xs.length then some ((xs.drop lo).take len)else none:=(rfl)
@[go_sem] theorem qN6 {e:Nat} {τ:Bool} {xs:List V}:jm T e (.i τ xs)=some xs:=(rfl)
@[go_sem] theorem qN7 {e e':Nat}:jm T e (.n e')=some []:=(rfl)
def apO(e lo len:Nat) (T':Mem) (ob:Option Ob):Option (List V × Mem):=
 match ob with
 |some ob=>if ob.1=e∧lo+len≤ob.2.length then some ((ob.2.drop lo).take len,T')else none
 |none=>none
@[go_sem] theorem qJG {e e':Nat}:QA T e (.n e')=some ([],T):=(rfl)
@[go_sem] theorem qJH {k:Key} {lo len e:Nat}:QA T e (.s k lo len)=apO e lo len (qG T k) (qu T k):=(rfl)
@[go_sem] theorem qJE {e e' lo len:Nat} {xs:List V}:apO e lo len T (some (e',xs))=if e'=e∧lo+len≤xs.length then some ((xs.drop lo).take len,T)else none:=(rfl)
def Y9 {α:Type} (r:Option (List V × Mem)) (k:List V→Mem→Option α):Option α:=
 match r with
 |some (xs,T)=>k xs T
 |none=>none
@[congr] theorem qKE {α:Type} {r r':Option (List V × Mem)} {k:List V→Mem→Option α} (h:r=r'):Y9 r k=Y9 r' k:=by rw [h]
@[go_sem] theorem qKF {α:Type} {xs:List V} {k:List V→Mem→Option α}:Y9 (some (xs,T)) k=k xs T:=(rfl)
@[go_sem] theorem qJF {e:Nat} {y:V}:K5 T e y=yt (jm T e y) fun ys=>zQ (yk ys) (some (ys,T)) (QA T e y):=by
 unfold K5
 cases jm T e y with
 |none=>rfl
 |some ys=>simp only [yt,zQ]
@[go_sem] theorem qOy {d e bytes:Nat} {x y:AO}:qm call ⟨σ,T⟩ (.app d e bytes x y)=qt (ev σ x) fun x=>qt (ev σ y) fun y=>Y9 (K5 T e y) fun ys Ty=>Y9 (QA Ty e x) fun xs T'=>
 kE (kO e ys&&decide ((xs.length+ys.length)*bytes≤lim)&&decide (xs.length+ys.length≤lim))
  (some ⟨(d,.s (d,0) 0 (xs.length+ys.length))::xM d σ,((d,0),e,qE d (xs++ys))::wT d T'⟩):=by
 simp only [qm,qj,qgS]
 cases ev σ x with
 |none=>rfl
 |some x=>cases ev σ y with
  |none=>rfl
  |some y=>
   simp only [qt]
   cases K5 T e y with
   |none=>rfl
   |some q=>
    obtain ⟨ys,Ty⟩:=q
    simp only [Y9]
    cases QA Ty e x<;>rfl
theorem ze:lim=1099511627776:=(rfl)
def qbJ(d:Option Nat) (k:Nat):Bool:=
 match d with
 |none=>false
 |some d=>decide (d=k)
@[go_sem] theorem qNn {k:Nat}:qbJ none k=false:=(rfl)
@[go_sem] theorem qNo {d k:Nat}:qbJ (some d) k=decide (d=k):=(rfl)
def Xf {α:Type} (o:Option Nat) (x:α) (k:Nat→α):α:=
 match o with
 |none=>x
 |some d=>k d
@[congr] theorem qNp {α:Type} {o o':Option Nat} {x:α} {k:Nat→α} (h:o=o'):Xf o x k=Xf o' x k:=by rw [h]
@[go_sem] theorem qNr {α:Type} {d:Nat} {x:α} {k:Nat→α}:Xf (some d) x k=k d:=(rfl)
@[go_sem] theorem qNq {α:Type} {x:α} {k:Nat→α}:Xf none x k=x:=(rfl)
@[go_sem] theorem qJJ:zU call [] [] st=some st:=(rfl)
@[go_sem] theorem qJI {p:Dp} {ps:List Dp} {i:AI} {is:List AI}:zU call (p::ps) (i::is) st=kQ (xS call p i st) fun st=>zU call ps is st:=by
 simp only [zU];cases xS call p i st<;>rfl
@[go_sem] theorem qU7 {p:Dp} {i:AI}:xS call p i ⟨σ,T⟩=kQ (qm call ⟨zG σ (qR i),xP T p.ks⟩ i) fun st'=>Xf (qz i) (some ⟨σ,Xp p none st'.T T⟩)
 (fun d=>qt (qI st'.σ d) fun x=>some ⟨(d,x)::σ,Xp p (some d) st'.T T⟩):=by
 unfold xS Xf
 simp only
 cases qm call ⟨zG σ (qR i),xP T p.ks⟩ i with
 |none=>rfl
 |some st'=>
  simp only [kQ]
  cases qz i with
  |none=>rfl
  |some d=>simp only;cases qI st'.σ d<;>rfl
attribute [go_sem] j9 qfG qM Yn
@[go_sem] theorem qJD:yd [] []=[]:=(rfl)
@[go_sem] theorem qJC {k:Nat} {ks:List Key} {ps:List Dp} {i:AI} {is:List AI}:yd (⟨k,ks⟩::ps) (i::is)=if k=0 then yd ps is else Xf (qz i) (yd ps is) fun d=>d::yd ps is:=by
 simp only [yd];cases qz i<;>rfl
@[go_sem] theorem qTh {k:Nat} {ks:List Key} {d:Option Nat} {x:Key}:Dp.own ⟨k,ks⟩ d x=((decide (k=1)&&xL x ks)||(!decide (k=0)&&qbJ d x.1)):=by
 have h1: ∀ ks:List Key,ks.contains x=xL x ks:=by
  intro ks
  induction ks with
  |nil=>rfl
  |cons u r ih=>
   simp only [List.contains_cons,xL,ih]
   by_cases h:u=x
   ·subst h;simp
   ·have:(x==u)=false:=by simpa using fun h'=>h h'.symm
    simp [h,this]
 simp only [Dp.own,h1]
 have h2:(d==some x.1)=qbJ d x.1:=by
  cases d with
  |none=>rfl
  |some d=>simp only [qbJ];by_cases h:d=x.1<;>simp [h]
 rw [h2]
 have h3:(k==1)=decide (k=1):=by rw [Bool.eq_iff_iff];simp
 have h4:(k != 0)= !decide (k=0):=by rw [Bool.eq_iff_iff];simp
 rw [h3,h4]
@[go_sem] theorem qVO:xV [] st=st:=(rfl)
@[go_sem] theorem qVi {n:Nat}:qS (.t n)=[n]:=(rfl)
@[go_sem] theorem qVh {z:V}:qS (.c z)=[]:=(rfl)
@[go_sem] theorem qVf:QV none=[]:=(rfl)
@[go_sem] theorem qVg {z:AO}:QV (some z)=qS z:=(rfl)
@[go_sem] theorem qNL {d:Nat} {x:AO}:qz (.mv d x)=some d:=(rfl)
@[go_sem] theorem qVC {d:Nat} {x:AO}:qR (.mv d x)=qS x:=(rfl)
@[go_sem] theorem qNP {d:Nat} {x:AO} {y:AO} {z:AO}:qz (.pick d x y z)=some d:=(rfl)
@[go_sem] theorem qVG {d:Nat} {x:AO} {y:AO} {z:AO}:qR (.pick d x y z)=qS x++(qS y++qS z):=(rfl)
@[go_sem] theorem qNN {d:Nat} {x:AO}:qz (.new d x)=some d:=(rfl)
@[go_sem] theorem qVE {d:Nat} {x:AO}:qR (.new d x)=qS x:=(rfl)
@[go_sem] theorem qNu {d:Nat} {v:V} {bs:List (Nat × Nat × AO)}:qz (.build d v bs)=some d:=(rfl)
@[go_sem] theorem qVl {d:Nat} {v:V} {bs:List (Nat × Nat × AO)}:qR (.build d v bs)=qfG bs:=(rfl)
@[go_sem] theorem qNK {d:Nat} {e:Nat} {xs:List AO}:qz (.mks d e xs)=some d:=(rfl)
@[go_sem] theorem qVB {d:Nat} {e:Nat} {xs:List AO}:qR (.mks d e xs)=j9 xs:=(rfl)
@[go_sem] theorem qNJ {d:Nat} {e:Nat} {v:V} {n:Nat} {x:AO} {y:AO}:qz (.mk d e v n x y)=some d:=(rfl)
@[go_sem] theorem qVA {d:Nat} {e:Nat} {v:V} {n:Nat} {x:AO} {y:AO}:qR (.mk d e v n x y)=qS x++qS y:=(rfl)
@[go_sem] theorem qNG {d:Nat} {p:Bool} {n:Nat} {x:AO}:qz (.ld d p n x)=some d:=(rfl)
@[go_sem] theorem qVx {d:Nat} {p:Bool} {n:Nat} {x:AO}:qR (.ld d p n x)=qS x:=(rfl)
@[go_sem] theorem qNH {d:Nat} {p:Bool} {n:Nat} {x:AO}:qz (.ldq d p n x)=some d:=(rfl)
@[go_sem] theorem qVy {d:Nat} {p:Bool} {n:Nat} {x:AO}:qR (.ldq d p n x)=qS x:=(rfl)
@[go_sem] theorem qNO {d:Nat} {x:AO}:qz (.nilc d x)=some d:=(rfl)
@[go_sem] theorem qVF {d:Nat} {x:AO}:qR (.nilc d x)=qS x:=(rfl)
@[go_sem] theorem qNt {d:Nat} {op:BinOp} {x:AO} {y:AO}:qz (.bin d op x y)=some d:=(rfl)
@[go_sem] theorem qVk {d:Nat} {op:BinOp} {x:AO} {y:AO}:qR (.bin d op x y)=qS x++qS y:=(rfl)
@[go_sem] theorem qNx {d:Nat} {n:Nat} {p:Bool} {x:AO} {y:AO}:qz (.eqs d n p x y)=some d:=(rfl)
@[go_sem] theorem qVo {d:Nat} {n:Nat} {p:Bool} {x:AO} {y:AO}:qR (.eqs d n p x y)=qS x++qS y:=(rfl)
@[go_sem] theorem qNV {d:Nat} {uo:UnOp} {x:AO}:qz (.un d uo x)=some d:=(rfl)
@[go_sem] theorem qVM {d:Nat} {uo:UnOp} {x:AO}:qR (.un d uo x)=qS x:=(rfl)
@[go_sem] theorem qNQ {d:Nat} {e:Nat} {x:AO} {ox:Option AO} {oy:Option AO}:qz (.sl d e x ox oy)=some d:=(rfl)
@[go_sem] theorem qVH {d:Nat} {e:Nat} {x:AO} {ox:Option AO} {oy:Option AO}:qR (.sl d e x ox oy)=qS x++(QV ox++QV oy):=(rfl)
@[go_sem] theorem qNS {d:Nat} {x:AO} {ox:Option AO} {oy:Option AO}:qz (.ssl d x ox oy)=some d:=(rfl)
@[go_sem] theorem qVJ {d:Nat} {x:AO} {ox:Option AO} {oy:Option AO}:qR (.ssl d x ox oy)=qS x++(QV ox++QV oy):=(rfl)
@[go_sem] theorem qNR {d:Nat} {x:AO}:qz (.slen d x)=some d:=(rfl)
@[go_sem] theorem qVI {d:Nat} {x:AO}:qR (.slen d x)=qS x:=(rfl)
@[go_sem] theorem qNz {d:Nat} {x:AO} {n:Nat}:qz (.fa d x n)=some d:=(rfl)
@[go_sem] theorem qVq {d:Nat} {x:AO} {n:Nat}:qR (.fa d x n)=qS x:=(rfl)
@[go_sem] theorem qNA {d:Nat} {p:Bool} {n:Nat} {x:AO} {m:Nat}:qz (.fld d p n x m)=some d:=(rfl)
@[go_sem] theorem qVr {d:Nat} {p:Bool} {n:Nat} {x:AO} {m:Nat}:qR (.fld d p n x m)=qS x:=(rfl)
@[go_sem] theorem qND {d:Nat} {e:Nat} {x:AO} {y:AO}:qz (.ia d e x y)=some d:=(rfl)
@[go_sem] theorem qVu {d:Nat} {e:Nat} {x:AO} {y:AO}:qR (.ia d e x y)=qS x++qS y:=(rfl)
@[go_sem] theorem qNF {d:Nat} {x:AO} {y:AO}:qz (.ix d x y)=some d:=(rfl)
@[go_sem] theorem qVw {d:Nat} {x:AO} {y:AO}:qR (.ix d x y)=qS x++qS y:=(rfl)
@[go_sem] theorem qNy {d:Nat} {x:AO} {n:Nat}:qz (.ext d x n)=some d:=(rfl)
@[go_sem] theorem qVp {d:Nat} {x:AO} {n:Nat}:qR (.ext d x n)=qS x:=(rfl)
@[go_sem] theorem qNB {d:Nat} {fn:Fn} {xs:List AO} {ys:List AO}:qz (.fun d fn xs ys)=some d:=(rfl)
@[go_sem] theorem qVs {d:Nat} {fn:Fn} {xs:List AO} {ys:List AO}:qR (.fun d fn xs ys)=j9 xs++j9 ys:=(rfl)
@[go_sem] theorem qNs {d:Nat} {e:Nat} {n:Nat} {x:AO} {y:AO}:qz (.app d e n x y)=some d:=(rfl)
@[go_sem] theorem qVj {d:Nat} {e:Nat} {n:Nat} {x:AO} {y:AO}:qR (.app d e n x y)=qS x++qS y:=(rfl)
@[go_sem] theorem qNI {d:Nat} {x:AO}:qz (.len d x)=some d:=(rfl)
@[go_sem] theorem qVz {d:Nat} {x:AO}:qR (.len d x)=qS x:=(rfl)
@[go_sem] theorem qNM {d:Nat} {p:Bool} {xs:List AO}:qz (.mx d p xs)=some d:=(rfl)
@[go_sem] theorem qVD {d:Nat} {p:Bool} {xs:List AO}:qR (.mx d p xs)=j9 xs:=(rfl)
@[go_sem] theorem qNE {d:Nat} {ik:IntKind} {x:AO}:qz (.int d ik x)=some d:=(rfl)
@[go_sem] theorem qVv {d:Nat} {ik:IntKind} {x:AO}:qR (.int d ik x)=qS x:=(rfl)
@[go_sem] theorem qNU {d:Nat} {x:AO}:qz (.str d x)=some d:=(rfl)
@[go_sem] theorem qVL {d:Nat} {x:AO}:qR (.str d x)=qS x:=(rfl)
@[go_sem] theorem qNv {d:Nat} {x:AO}:qz (.byt d x)=some d:=(rfl)
@[go_sem] theorem qVm {d:Nat} {x:AO}:qR (.byt d x)=qS x:=(rfl)
@[go_sem] theorem qNT {n:Nat} {x y:AO}:qz (.st n x y)=none:=(rfl)
@[go_sem] theorem qVK {n:Nat} {x y:AO}:qR (.st n x y)=qS x++qS y:=(rfl)
@[go_sem] theorem qNw {o:Option Nat} {x:AO} {xs:List AO} {m:Md}:qz (.call o x xs m)=o:=(rfl)
@[go_sem] theorem qVn {o:Option Nat} {x:AO} {xs:List AO} {m:Md}:qR (.call o x xs m)=qS x++j9 xs:=(rfl)
@[go_sem] theorem qNC {n:Nat} {p:Bool} {o:Option Nat} {i:AI}:qz (.gd n p o i)=o:=(rfl)
@[go_sem] theorem qVt {n:Nat} {p:Bool} {o:Option Nat} {i:AI}:qR (.gd n p o i)=n::qR i:=(rfl)
@[go_sem] theorem qQI {k:Nat} {ks:List Key} {d:Option Nat} {T':Mem}:Xp ⟨k,ks⟩ d T' T=if k=0 then T else qM (Dp.own ⟨k,ks⟩ d) T'++qM (fun x=> !Dp.own ⟨k,ks⟩ d x) T:=(rfl)
@[go_sem] theorem qVN {ds:List Nat} {d:Nat}:xV (d::ds) ⟨σ,T⟩=xV ds ⟨xM d σ,wT d T⟩:=(rfl)
def qe8(n:Nat) (σ:Sl) (T:Mem):St:=Yb n (xh σ) σ (XB (xh σ) (xK σ++xI T (xh σ)) T)
@[go_sem] theorem qTD {ls:List Nat} {ks:List Key}:ki ls ks ⟨σ,T⟩=qe8 (qbD ks) (zG σ ls) T:=(rfl)
@[go_sem] theorem qKT:qbD []=0:=(rfl)
@[go_sem] theorem qKS {n m:Nat} {r:List Key}:qbD ((n,m)::r)=n:=(rfl)
theorem qne: ∀ (ks:List Key),y8 [] ks=[]
 |[]=>rfl
 |k::ks=>by simp only [y8,qu,qne ks]
theorem qkX(bx:List Key): ∀ (ks:List Key),QF bx ks []=[]
 |[]=>rfl
 |k::ks=>by
  have:Xd [] k=[]:=rfl
  simp only [QF,this,ite_self,qkX bx ks]
@[go_sem] theorem qTC {n:Nat}:qe8 n σ []=Yb n (xh σ) σ []:=by
 simp only [qe8,XB,qkX,qne]
@[go_sem] theorem qTB {n:Nat} {ob:Key × Ob}:qe8 n σ (ob::T)=Yb n (xh σ) σ (XB (xh σ) (xK σ++xI (ob::T) (xh σ)) (ob::T)):=(rfl)
@[go_sem] theorem qU3 {bx k0:List Key}:XB bx k0 T=y8 (QF bx k0 T) k0:=(rfl)
@[go_sem] theorem qMe {bx:List Key}:QF bx [] T=T:=(rfl)
@[go_sem] theorem qMd {bx ks:List Key} {k:Key}:QF bx (k::ks) T=QF bx ks (zQ (xL k bx) T (Xd T k)):=(rfl)
def qfo(T:Mem) (k:Key) (ob:Option Ob):Mem:=
 match ob with
 |none=>T
 |some ob=>zQ (qF ob.2) T ((k,ob.1,(qB (zd 30) (qG T k) ob.2).1)::(qB (zd 30) (qG T k) ob.2).2)
@[go_sem] theorem qMc {k:Key}:Xd T k=qfo T k (qu T k):=by
 unfold Xd qfo zQ;cases qu T k<;>rfl
@[go_sem] theorem qUQ {k:Key}:qfo T k none=T:=(rfl)
@[go_sem] theorem qUR {k:Key} {ob:Ob}:qfo T k (some ob)=zQ (qF ob.2) T ((k,ob.1,(qB (zd 30) (qG T k) ob.2).1)::(qB (zd 30) (qG T k) ob.2).2):=(rfl)
@[go_sem] theorem qMb {m:Nat} {x:V}:zd m T x=zQ (clE x) (x,T) (qA m T x):=(rfl)
theorem qml(m:Nat): ∀ (xs ys:List V) (T:Mem),qB (zd m) T (xs++ys)=((qB (zd m) T xs).1++(qB (zd m) (qB (zd m) T xs).2 ys).1,(qB (zd m) (qB (zd m) T xs).2 ys).2)
 |[],ys,T=>rfl
 |x::xs,ys,T=>by simp only [List.cons_append,qB,qml m xs ys]
theorem x9(m:Nat) (T:Mem): ∀ (xs:List V),qF xs=true→qB (zd m) T xs=(xs,T)
 |[],_=>rfl
 |x::xs,h=>by
  simp only [qF,Bool.and_eq_true]at h
  have:zd m T x=(x,T):=by unfold zd;rw [if_pos h.1]
  simp only [qB,this,x9 m T xs h.2]
attribute [go_sem] qml
def qgW(n:Nat) (bx:List Key) (σ:Sl) (T:Mem):St:=⟨QQ (kT n (xK σ++xI T bx)) σ,jA (kT n (xK σ++xI T bx)) (y8 T (xK σ++xI T bx))⟩
@[go_sem] theorem qqg {n:Nat} {bx:List Key}:Yb n bx σ T=qgW n bx (ka σ) (kV σ++xn bx T):=(rfl)
def qkI(n:Nat) (kk:List Key) (σ:Sl) (T:Mem):St:=⟨QQ (kT n kk) σ,jA (kT n kk) (y8 T kk)⟩
@[go_sem] theorem qLm {n:Nat} {bx:List Key}:qgW n bx σ T=qkI n (xK σ++xI T bx) σ T:=(rfl)
@[go_sem] theorem qLn {n:Nat} {kk:List Key}:qkI n kk σ T=⟨QQ (kT n kk) σ,jA (kT n kk) (y8 T kk)⟩:=(rfl)
@[go_sem] theorem qI0:NB=200000:=(rfl)
@[go_sem] theorem qAN:CN=100000:=(rfl)
attribute [go_sem] ka kV xI kT Yg QQ zP zX
@[go_sem] theorem qLo {n:Nat} {σ:Sl}:Yb n [] σ []=qgW n [] (ka σ) (kV σ):=by rw [qqg];simp only [xn,List.append_nil]
section nm
variable {t i j d e n lo len:Nat} {k k':Key} {x:V} {xs:List V} {bx tb:List Key} {r:Sl} {M:Mem} {τ nm:Bool} {u:Int} {l:List UInt8} {fn:Fn} {ys:List V}
@[go_sem] theorem qLe:xh []=[]:=(rfl)
def xg(x:V) (r:List Key):List Key:=match x with| .p k _ _=>k::r|_=>r
@[go_sem] theorem qLd:xh ((t,x)::r)=xg x (xh r):=by cases x<;>rfl
@[go_sem] theorem qK8 {r:List Key}:xg (.p k i j) r=k::r:=(rfl)
@[go_sem] theorem qLa {r:List Key}:xg (.s k i j) r=r:=(rfl)
@[go_sem] theorem qKY {r:List Key}:xg (I u) r=r:=(rfl)
@[go_sem] theorem qKW {b:Bool} {r:List Key}:xg (B b) r=r:=(rfl)
@[go_sem] theorem qKZ {r:List Key}:xg (S l) r=r:=(rfl)
@[go_sem] theorem qK1 {r:List Key}:xg (U8 u) r=r:=(rfl)
@[go_sem] theorem qK0 {r:List Key}:xg (U32 u) r=r:=(rfl)
@[go_sem] theorem qK5 {r:List Key}:xg (.i τ xs) r=r:=(rfl)
@[go_sem] theorem qK9 {r:List Key}:xg (.q τ xs i j) r=r:=(rfl)
@[go_sem] theorem qK7 {r:List Key}:xg (.o e xs) r=r:=(rfl)
@[go_sem] theorem qK6 {r:List Key}:xg (.n e) r=r:=(rfl)
@[go_sem] theorem qK2 {r:List Key}:xg (.a xs) r=r:=(rfl)
@[go_sem] theorem qLb {r:List Key}:xg (.t xs) r=r:=(rfl)
@[go_sem] theorem qK4 {r:List Key}:xg (.f fn xs ys) r=r:=(rfl)
@[go_sem] theorem qK3 {r:List Key}:xg .d r=r:=(rfl)
@[go_sem] theorem qLc {r:List Key}:xg yB r=r:=(rfl)
@[go_sem] theorem qKX {g:Nat} {r:List Key}:xg (Fc g) r=r:=(rfl)
@[go_sem] theorem qNa:qg9 (some (e,[x]))=xj x:=(rfl)
@[go_sem] theorem qM9:qg9 none=[]:=(rfl)
@[go_sem] theorem qQ0:qP d i nm (I u)=I u:=(rfl)
@[go_sem] theorem qQY {b:Bool}:qP d i nm (B b)=B b:=(rfl)
@[go_sem] theorem qQ1:qP d i nm (S l)=S l:=(rfl)
@[go_sem] theorem qQ3:qP d i nm (U8 u)=U8 u:=(rfl)
@[go_sem] theorem qQ2:qP d i nm (U32 u)=U32 u:=(rfl)
@[go_sem] theorem qRg:qP d i nm yB=yB:=(rfl)
@[go_sem] theorem qQZ {g:Nat}:qP d i nm (Fc g)=Fc g:=(rfl)
@[go_sem] theorem qQ8:qP d i nm (.i τ xs)= .i τ xs:=(rfl)
@[go_sem] theorem qvN:qP d i nm (.q τ xs lo len)= .q τ xs lo len:=(rfl)
@[go_sem] theorem qRc:qP d i nm (.o e xs)= .o e xs:=(rfl)
@[go_sem] theorem qQ5:qP d i nm (.b x)= .b x:=(rfl)
@[go_sem] theorem qQ6:qP d i nm .d= .d:=(rfl)
@[go_sem] theorem qRa:qP d i true (.n e)= .s (d,i) 0 0:=(rfl)
@[go_sem] theorem qRb:qP d i false (.n e)= .n e:=(rfl)
@[go_sem] theorem qRd:qP d i nm (.p k lo len)=if NB≤k.1 then .d else .p k lo len:=(rfl)
@[go_sem] theorem qRe:qP d i nm (.s k lo len)=if NB≤k.1 then .d else .s k lo len:=(rfl)
@[go_sem] theorem qQ7:qP d i nm (.f fn xs ys)= .f fn (zP d i false xs) (zP d i false ys):=(rfl)
@[go_sem] theorem qQ4:qP d i nm (.a xs)= .a (zP d i nm xs):=(rfl)
@[go_sem] theorem qRf:qP d i nm (.t xs)= .t (zP d i false xs):=(rfl)
def kb(d i:Nat) (x:V):Mem:=match x with| .n e=>[((d,i),e,[])]|_=>[]
@[go_sem] theorem qQN:QK d i []=[]:=(rfl)
@[go_sem] theorem qQM:QK d i (x::xs)=kb d i x++QK d (i+1) xs:=by cases x<;>rfl
@[go_sem] theorem qRr:kb d i (.n e)=[((d,i),e,[])]:=(rfl)
@[go_sem] theorem qRj:kb d i (I u)=[]:=(rfl)
@[go_sem] theorem qRi {b:Bool}:kb d i (B b)=[]:=(rfl)
@[go_sem] theorem qRk:kb d i (S l)=[]:=(rfl)
@[go_sem] theorem qRm:kb d i (U8 u)=[]:=(rfl)
@[go_sem] theorem qRl:kb d i (U32 u)=[]:=(rfl)
@[go_sem] theorem qRq:kb d i (.i τ xs)=[]:=(rfl)
@[go_sem] theorem qRs:kb d i (.o e xs)=[]:=(rfl)
@[go_sem] theorem qRv:kb d i (.s k lo len)=[]:=(rfl)
@[go_sem] theorem qRt:kb d i (.p k lo len)=[]:=(rfl)
@[go_sem] theorem qRu:kb d i (.q τ xs lo len)=[]:=(rfl)
@[go_sem] theorem qRn:kb d i (.b x)=[]:=(rfl)
@[go_sem] theorem qRp:kb d i (.f fn xs ys)=[]:=(rfl)
@[go_sem] theorem qRo:kb d i .d=[]:=(rfl)
@[go_sem] theorem qRy:yx d i (I u)=[]:=(rfl)
@[go_sem] theorem qRw {b:Bool}:yx d i (B b)=[]:=(rfl)
@[go_sem] theorem qRz:yx d i (S l)=[]:=(rfl)
@[go_sem] theorem qRB:yx d i (U8 u)=[]:=(rfl)
@[go_sem] theorem qRA:yx d i (U32 u)=[]:=(rfl)
@[go_sem] theorem qRN:yx d i yB=[]:=(rfl)
@[go_sem] theorem qRx {g:Nat}:yx d i (Fc g)=[]:=(rfl)
@[go_sem] theorem qRG:yx d i (.i τ xs)=[]:=(rfl)
@[go_sem] theorem qRI:yx d i (.o e xs)=[]:=(rfl)
@[go_sem] theorem qRL:yx d i (.s k lo len)=[]:=(rfl)
@[go_sem] theorem qRJ:yx d i (.p k lo len)=[]:=(rfl)
@[go_sem] theorem qRK:yx d i (.q τ xs lo len)=[]:=(rfl)
@[go_sem] theorem qRD:yx d i (.b x)=[]:=(rfl)
@[go_sem] theorem qRF:yx d i (.f fn xs ys)=[]:=(rfl)
@[go_sem] theorem qRM:yx d i (.t xs)=[]:=(rfl)
@[go_sem] theorem qRE:yx d i .d=[]:=(rfl)
@[go_sem] theorem qRH:yx d i (.n e)=[((d,i),e,[])]:=(rfl)
@[go_sem] theorem qRC:yx d i (.a xs)=QK d i xs:=(rfl)
def qg5(xs:List V):List V:=zQ (qF xs) xs (zP 0 0 false xs)
@[go_sem] theorem qMD:qg5 xs=zQ (qF xs) xs (zP 0 0 false xs):=(rfl)
@[go_sem] theorem qQU:kU d i true [x]=[qP d i true x]:=(rfl)
@[go_sem] theorem qQV:kU d i false xs=qg5 xs:=by
 unfold kU qg5 zQ
 split
 ·simp only [Bool.false_eq_true,if_false,qF,Bool.and_true,zP]
 ·rfl
@[go_sem] theorem qQS:Xr d i true [x]=yx d i x:=(rfl)
@[go_sem] theorem qQT:Xr d i false xs=[]:=by unfold Xr;split<;>rfl
@[go_sem] theorem qQX:xn bx []=[]:=(rfl)
@[go_sem] theorem qQW {ob:Ob}:xn bx ((k,ob)::M)=if NB≤k.1 then xn bx M else Xr (2*NB+k.1) (10*k.2) (xL k bx) ob.2++(k,ob.1,kU (2*NB+k.1) (10*k.2) (xL k bx) ob.2)::xn bx M:=(rfl)
def qfi(o:Option Nat) (k:Key):Option Key:=match o with|some i=>some (CN,i)|none=>if k.1=CN then none else some k
@[go_sem] theorem qTH:xR tb k=qfi (Yg k 0 tb) k:=by unfold xR qfi;cases Yg k 0 tb<;>rfl
@[go_sem] theorem qTG:qfi (some i) k=some (CN,i):=(rfl)
@[go_sem] theorem qTF:qfi none k=if k.1=CN then none else some k:=(rfl)
def sOf(o:Option Key) (a b:Nat):V:=match o with|some k=> .s k a b|none=> .d
def pOf(o:Option Key) (a b:Nat):V:=match o with|some k=> .p k a b|none=> .d
@[go_sem] theorem qUW:sOf (some k) i j= .s k i j:=(rfl)
@[go_sem] theorem qTl:pOf (some k) i j= .p k i j:=(rfl)
@[go_sem] theorem qUV:sOf none i j= .d:=(rfl)
@[go_sem] theorem qTk:pOf none i j= .d:=(rfl)
@[go_sem] theorem qT1:qV tb (.s k i j)=sOf (xR tb k) i j:=by simp only [qV,sOf];cases xR tb k<;>rfl
@[go_sem] theorem qT0:qV tb (.p k i j)=pOf (xR tb k) i j:=by simp only [qV,pOf];cases xR tb k<;>rfl
@[go_sem] theorem qTO:qV tb (I u)=I u:=(rfl)
@[go_sem] theorem qTM {b:Bool}:qV tb (B b)=B b:=(rfl)
@[go_sem] theorem qTP:qV tb (S l)=S l:=(rfl)
@[go_sem] theorem qTR:qV tb (U8 u)=U8 u:=(rfl)
@[go_sem] theorem qTQ:qV tb (U32 u)=U32 u:=(rfl)
@[go_sem] theorem qT3:qV tb yB=yB:=(rfl)
@[go_sem] theorem qTN {g:Nat}:qV tb (Fc g)=Fc g:=(rfl)
@[go_sem] theorem qTW:qV tb (.i τ xs)= .i τ xs:=(rfl)
@[go_sem] theorem qyq:qV tb (.q τ xs i j)= .q τ xs i j:=(rfl)
@[go_sem] theorem qTZ:qV tb (.o e xs)= .o e xs:=(rfl)
@[go_sem] theorem qTT:qV tb (.b x)= .b x:=(rfl)
@[go_sem] theorem qTY:qV tb (.n e)= .n e:=(rfl)
@[go_sem] theorem qTU:qV tb .d= .d:=(rfl)
@[go_sem] theorem qTV:qV tb (.f fn xs ys)= .f fn (zX tb xs) (zX tb ys):=(rfl)
@[go_sem] theorem qTS:qV tb (.a xs)= .a (zX tb xs):=(rfl)
@[go_sem] theorem qT2:qV tb (.t xs)= .t (zX tb xs):=(rfl)
def qfj(o:Option Key) (e:Nat) (xs:List V) (r:Mem):Mem:=match o with|some k=>(k,e,xs)::r|none=>r
@[go_sem] theorem qTJ {r:Mem}:qfj (some k) e xs r=(k,e,xs)::r:=(rfl)
@[go_sem] theorem qTI {r:Mem}:qfj none e xs r=r:=(rfl)
@[go_sem] theorem qTL:jA tb []=[]:=(rfl)
@[go_sem] theorem qTK {ob:Ob}:jA tb ((k,ob)::M)=qfj (xR tb k) ob.1 (zQ (qF ob.2) ob.2 (zX tb ob.2)) (jA tb M):=by
 obtain ⟨e,xs⟩:=ob
 simp only [jA,qfj,zQ]
 cases xR tb k<;>rfl
end nm
attribute [go_sem] xj Ye xK xL qhY qoa List.reverse_cons List.reverse_nil
@[go_sem] theorem qNd {n:Int}:xj (I n)=[]:=(rfl)
@[go_sem] theorem qNb {b:Bool}:xj (B b)=[]:=(rfl)
@[go_sem] theorem qNe {l:List UInt8}:xj (S l)=[]:=(rfl)
@[go_sem] theorem qNg {n:Int}:xj (U8 n)=[]:=(rfl)
@[go_sem] theorem qNf {n:Int}:xj (U32 n)=[]:=(rfl)
@[go_sem] theorem qNc {g:Nat}:xj (Fc g)=[]:=(rfl)
@[go_sem] theorem qNh:xj yB=[]:=(rfl)
def qfm(T:Mem) (k:Key) (ob:Option Ob):Mem:=
 match ob with
 |none=>T
 |some ob=>zQ (qF ob.2) (kX k ob (qG T k)) T
@[go_sem] theorem qUP {k:Key}:qiq T k=qfm T k (qu T k):=by
 unfold qiq qfm zQ;cases qu T k<;>rfl
@[go_sem] theorem qUN {k:Key}:qfm T k none=T:=(rfl)
@[go_sem] theorem qUO {k:Key} {ob:Ob}:qfm T k (some ob)=zQ (qF ob.2) (kX k ob (qG T k)) T:=(rfl)
def qeW(d:Nat) (k:Key) (i:Nat) (σ:Sl) (T:Mem) (ob:Option Ob):St:=
 match ob with
 |some ob=>(match ob.2[i]? with
  |some x=>⟨σ,(qQ d 0 x).2.2++((k,ob.1,ob.2.set i (qQ d 0 x).1)::qG T k)⟩
  |none=>⟨σ,T⟩)
 |none=>⟨σ,T⟩
def qmW(d:Nat) (k:Key) (i:Nat) (σ:Sl) (T:Mem) (ob:Ob) (x:Option V):St:=
 match x with
 |some x=>⟨σ,(qQ d 0 x).2.2++((k,ob.1,ob.2.set i (qQ d 0 x).1)::qG T k)⟩
 |none=>⟨σ,T⟩
def qbL(d:Nat) (v:Option V):List (Nat × Key × Nat):=
 match v with
 |some (.p k idx _)=>[(d,k,idx)]
 |_=>[]
def Je(d:Nat) (v w:Option V):List (Nat × Key × Nat):=
 match v with
 |some (.p k idx _)=>[(d,k,idx)]
 |some (.s k lo _)=>match w with
  |some (.v (.int _ n))=>[(d,k,lo+n.toNat)]
  |_=>[]
 |_=>[]
@[congr] theorem qN1 {d:Nat} {v v':Option V} (h:v=v'):qbL d v=qbL d v':=by rw [h]
@[congr] theorem qNW {d:Nat} {v v' w w':Option V} (h:v=v') (h':w=w'):Je d v w=Je d v' w':=by rw [h,h']
@[go_sem] theorem qNZ {d r:Nat}:Zl σ d r none=qbL d (qI σ r):=by
 unfold Zl qbL
 cases qI σ r with
 |none=>rfl
 |some v=>cases v<;>rfl
@[go_sem] theorem qN0 {d r i:Nat}:Zl σ d r (some i)=Je d (qI σ r) (qI σ i):=by
 unfold Zl Je
 cases qI σ r with
 |none=>rfl
 |some v=>cases v<;>rfl
@[go_sem] theorem qN2 {d a b:Nat} {k:Key}:qbL d (some (.p k a b))=[(d,k,a)]:=(rfl)
@[go_sem] theorem qNX {d a b:Nat} {k:Key} {w:Option V}:Je d (some (.p k a b)) w=[(d,k,a)]:=(rfl)
@[go_sem] theorem qNY {d a b:Nat} {k:Key} {n:Int}:Je d (some (.s k a b)) (some (I n))=[(d,k,a+n.toNat)]:=(rfl)
@[go_sem] theorem qSs:Yp [] st=st:=(rfl)
@[go_sem] theorem qSr {d r:Nat} {i:Option Nat} {os:List (Nat × Nat × Option Nat)}:Yp ((d,r,i)::os) ⟨σ,T⟩=Yp os (QL (Zl σ d r i) ⟨σ,T⟩):=(rfl)
@[go_sem] theorem qS7:QL [] st=st:=(rfl)
@[go_sem] theorem qS6 {d i:Nat} {k:Key} {r:List (Nat × Key × Nat)}:QL ((d,k,i)::r) ⟨σ,T⟩=QL r (Js d k i ⟨xM d σ,wT d T⟩):=(rfl)
@[go_sem] theorem qTa {d i:Nat} {k:Key}:Js d k i ⟨σ,T⟩=qeW d k i σ T (qu T k):=by
 unfold Js qeW;simp only;cases qu T k<;>rfl
@[go_sem] theorem qS9 {d i:Nat} {k:Key} {ob:Ob}:qeW d k i σ T (some ob)=qmW d k i σ T ob ob.2[i]? :=(rfl)
@[go_sem] theorem qS8 {d i:Nat} {k:Key}:qeW d k i σ T none=⟨σ,T⟩:=(rfl)
@[go_sem] theorem qTb {d i:Nat} {k:Key} {ob:Ob} {x:V}:qmW d k i σ T ob (some x)=⟨σ,(qQ d 0 x).2.2++((k,ob.1,ob.2.set i (qQ d 0 x).1)::qG T k)⟩:=(rfl)
structure Lp where
 ls:List Nat
 ks:List Key
 body:AC
def lpC(l:Lp):AC:= .loop l.ls l.ks l.body
noncomputable def lw(prog:Nat→Option AE) (l:Lp) (s:St):Option (AX × St):=kP (xw prog l.body s) fun st'=>xw prog (lpC l) st'
@[go_sem] theorem qAz {l:Lp}:xw prog (lpC l) st=lw prog l (ki l.ls l.ks st):=by
 unfold lw lpC;exact qAy
theorem qr(l:Lp) (s:St):lw prog l s=kP (xw prog l.body s) fun st'=>lw prog l (ki l.ls l.ks st'):=by
 unfold lw
 congr 1
 funext st'
 rw [qAz];rfl
def qfk(T:Mem) (k:Key) (agg:Bool) (size:Nat) (ob:Option Ob):Option (V × Mem):=
 match ob with
 |some (_,[x])=>(qZ agg size x 0).bind fun y=>if x.cells.length=y.cells.length then some (y,qG T k)else none
 |_=>none
def qbC {α:Type} (r:Option (V × Mem)) (k:V→Mem→Option α):Option α:=
 match r with
 |some (x,T)=>k x T
 |none=>none
@[congr] theorem qKG {α:Type} {r r':Option (V × Mem)} {k:V→Mem→Option α} (h:r=r'):qbC r k=qbC r' k:=by rw [h]
@[go_sem] theorem qKH {α:Type} {z:V} {k:V→Mem→Option α}:qbC (some (z,T)) k=k z T:=(rfl)
@[go_sem] theorem qUL {t:Nat}:QR ⟨σ,T⟩ (.tmp t)=qt (qI σ t) fun x=>some (x,T):=by
 simp only [QR];cases qI σ t<;>rfl
def qh7(x:V) (k:Key→Option (V × Mem)):Option (V × Mem):=
 match x with
 | .p k' 0 0=>k k'
 |_=>none
@[go_sem] theorem qTE {k':Key} {k:Key→Option (V × Mem)}:qh7 (.p k' 0 0) k=k k':=(rfl)
@[go_sem] theorem qUK {t size:Nat} {agg:Bool}:QR ⟨σ,T⟩ (.cell t agg size)=qt (qI σ t) fun x=>qh7 x fun k=>qfk T k agg size (qu T k):=by
 simp only [QR]
 cases qI σ t with
 |none=>rfl
 |some x=>
  cases x<;>first|rfl|skip
  rename_i k idx off
  cases idx with
  |succ=>rfl
  |zero=>cases off with
   |succ=>rfl
   |zero=>
    simp only [qt,qh7,qfk]
    cases qu T k with
    |none=>rfl
    |some ob=>obtain ⟨e,xs⟩:=ob;rcases xs with _|⟨x,_|⟨y,r⟩⟩<;>rfl
@[go_sem] theorem qUH {k:Key} {agg:Bool} {e size:Nat} {z:V}:qfk T k agg size (some (e,[z]))=qt (qZ agg size z 0) fun y=>if z.cells.length=y.cells.length then some (y,qG T k)else none:=by
 simp only [qfk];cases qZ agg size z 0<;>rfl
@[go_sem] theorem qUJ:kY σ T []=some ([],T):=(rfl)
@[go_sem] theorem qUI {r:AR} {rs:List AR}:kY σ T (r::rs)=qbC (QR ⟨σ,T⟩ r) fun x T'=>Y9 (kY σ T' rs) fun xs T''=>some (x::xs,T''):=by
 simp only [kY]
 cases QR ⟨σ,T⟩ r with
 |none=>rfl
 |some xT=>obtain ⟨x,T'⟩:=xT;simp only [qbC];cases kY σ T' rs<;>rfl
@[go_sem] theorem qR8 {z:V}:jt [z]=z:=(rfl)
@[go_sem] theorem qR9 {z z':V} {zs:List V}:jt (z::z'::zs)= .t (z::z'::zs):=(rfl)
@[go_sem] theorem qR7:jt []= .t []:=(rfl)
attribute [go_sem] zn xC qqd Option.some_beq_none Option.some_beq_some Option.none_beq_some
attribute [go_sem] Bool.true_and Bool.and_true Bool.false_and Bool.and_false Bool.not_true Bool.not_false Bool.or_true Bool.true_or Bool.or_false Bool.false_or if_true if_false
 decide_true decide_false decide_eq_true_eq ne_eq not_true_eq_false not_false_eq_true and_self and_true true_and and_false false_and beq_self_eq_true Bool.not_eq_eq_eq_not Bool.false_eq_true decide_not ite_not Bool.not_not
 eq_self Prod.mk.injEq List.contains_nil List.contains_cons Option.isNone_none Option.isNone_some
end
end Go.Vm
namespace Go.Vm
section
variable {prog:Nat→Option AE} {st:St} {σ:Sl} {T:Mem} {call:qX} {d j e lo:Nat} {k:Key} {es:List (Int × Int)} {τ:Bool} {n u:Int} {o:Option Bool} {tb:List Key} {nm:Bool}
def ke {α:Type} (x:V) (g:Int→Option α):Option α:=
 match x with
 | .v (.int .i64 n)=>g n
 |_=>none
@[go_sem] theorem qR6 {α:Type} {g:Int→Option α}:ke (I n) g=g n:=(rfl)
def QC {α:Type} (r:Option (List (Int × Int))) (g:List (Int × Int)→Option α):Option α:=
 match r with
 |some es=>g es
 |none=>none
@[congr] theorem qKo {α:Type} {r r':Option (List (Int × Int))} {g:List (Int × Int)→Option α} (h:r=r'):QC r g=QC r' g:=by rw [h]
@[go_sem] theorem qKp {α:Type} {g:List (Int × Int)→Option α}:QC (some es) g=g es:=(rfl)
def qle(ob:Option Ob):Option (List (Int × Int)):=
 match ob with
 |some (_,[.w _ es])=>some es
 |_=>none
@[go_sem] theorem qOg:qle (some (e,[.w o es]))=some es:=(rfl)
@[go_sem] theorem qOe:xk T (.m k)=qle (qu T k):=(rfl)
@[go_sem] theorem qOf:xk T (.w (some τ) es)=some es:=(rfl)
def qou(T:Mem) (k:Key) (ob:Option Ob) (es:List (Int × Int)):Option Mem:=
 match ob with
 |some _=>some ((k,0,[.w (some true) es])::qG T k)
 |none=>none
@[go_sem] theorem qU0 {ob:Ob}:qou T k (some ob) es=some ((k,0,[.w (some true) es])::qG T k):=(rfl)
@[go_sem] theorem qUZ:jC T (.m k) es=qou T k (qu T k) es:=(rfl)
@[go_sem] theorem qOU:qm call ⟨σ,T⟩ (.mkm d)=some ⟨(d,.m (d,0))::xM d σ,((d,0),0,[.w (some true) []])::wT d T⟩:=(rfl)
@[go_sem] theorem qOW {m k v:AO}:qm call ⟨σ,T⟩ (.mset m k v)=qt (ev σ m) fun m=>qt (ev σ k) fun k=>qt (ev σ v) fun v=>ke k fun k=>ke v fun v=>QC (xk T m) fun es=>Zi (jC T m (yy k v es)) fun T'=>some ⟨σ,T'⟩:=by
 simp only [qm,qj]
 cases ev σ m with
 |none=>rfl
 |some m=>
 cases ev σ k with
 |none=>rfl
 |some k=>
 cases ev σ v with
 |none=>simp only [qt]
 |some v=>
 simp only [qt]
 split
 ·rename_i h1 h2 h3
  simp only [Option.some.injEq]at h1 h2 h3;subst h1;subst h2;subst h3
  simp only [ke]
  cases xk T m with
  |none=>rfl
  |some es=>simp only [QC];cases jC T m _<;>rfl
 ·rename_i h
  unfold ke
  split
  ·split
   ·exact absurd rfl (h _ _ _ rfl rfl)
   ·rfl
  ·rfl
@[go_sem] theorem qOS {m k:AO}:qm call ⟨σ,T⟩ (.mget d m k)=qt (ev σ m) fun m=>qt (ev σ k) fun k=>ke k fun k=>QC (xk T m) fun es=>some ⟨(d,I ((zA k es).getD 0))::σ,T⟩:=by
 simp only [qm,qj]
 cases ev σ m with
 |none=>rfl
 |some m=>
 cases ev σ k with
 |none=>rfl
 |some k=>
 simp only [qt]
 split
 ·rename_i h1 h2
  simp only [Option.some.injEq]at h1 h2;subst h1;subst h2
  simp only [ke]
  cases xk T m<;>rfl
 ·rename_i h
  unfold ke
  split
  ·exact absurd rfl (h _ _ rfl)
  ·rfl
@[go_sem] theorem qOQ {m k:AO}:qm call ⟨σ,T⟩ (.men d m k)=qt (ev σ m) fun m=>qt (ev σ k) fun k=>ke k fun k=>QC (xk T m) fun es=>Zi (jC T m (yy k ((zA k es).getD 0) es)) fun T'=>some ⟨(d,.t [I ((zA k es).getD 0),I (zu k es)])::σ,T'⟩:=by
 simp only [qm,qj]
 cases ev σ m with
 |none=>rfl
 |some m=>
 cases ev σ k with
 |none=>rfl
 |some k=>
 simp only [qt]
 split
 ·rename_i h1 h2
  simp only [Option.some.injEq]at h1 h2;subst h1;subst h2
  simp only [ke]
  cases xk T m with
  |none=>rfl
  |some es=>simp only [QC];cases jC T m _<;>rfl
 ·rename_i h
  unfold ke
  split
  ·exact absurd rfl (h _ _ rfl)
  ·rfl
def qbQ {α:Type} (i:Option Nat) (g:Nat→Option α):Option α:=
 match i with
 |some i=>g i
 |none=>none
@[congr] theorem qPf {α:Type} {i i':Option Nat} {g:Nat→Option α} (h:i=i'):qbQ i g=qbQ i' g:=by rw [h]
@[go_sem] theorem qPg {α:Type} {i:Nat} {g:Nat→Option α}:qbQ (some i) g=g i:=(rfl)
@[go_sem] theorem qOR {m k v:AO}:qm call ⟨σ,T⟩ (.mes m k v)=qt (ev σ m) fun m=>qt (ev σ k) fun k=>qt (ev σ v) fun v=>ke k fun s=>ke v fun v=>QC (xk T m) fun es=>qbQ (yf s es.length) fun i=>Zi (jC T m (es.modify i fun e=>(e.1,v))) fun T'=>some ⟨σ,T'⟩:=by
 simp only [qm,qj]
 cases ev σ m with
 |none=>rfl
 |some m=>
 cases ev σ k with
 |none=>rfl
 |some k=>
 cases ev σ v with
 |none=>simp only [qt]
 |some v=>
 simp only [qt]
 split
 ·rename_i h1 h2 h3
  simp only [Option.some.injEq]at h1 h2 h3;subst h1;subst h2;subst h3
  simp only [ke]
  cases xk T m with
  |none=>rfl
  |some es=>
   simp only [QC]
   cases yf _ es.length with
   |none=>rfl
   |some i=>simp only [qbQ];cases jC T m _<;>rfl
 ·rename_i h
  unfold ke
  split
  ·split
   ·exact absurd rfl (h _ _ _ rfl rfl)
   ·rfl
  ·rfl
theorem qms(k v w:Int): ∀ (es:List (Int × Int)),(yy k w es).modify (zu k es) (fun e=>(e.1,v))=yy k v es
 |[]=>rfl
 |(a,b)::r=>by
  simp only [yy,zu]
  split
  ·rfl
  ·simp only [List.modify_succ_cons,qms k v w r]
theorem qnh(k w:Int): ∀ (es:List (Int × Int)),zu k es < (yy k w es).length
 |[]=>by simp [yy,zu]
 |(a,b)::r=>by
  simp only [yy,zu]
  split
  ·simp
  ·have:=qnh k w r;simp only [List.length_cons];omega
theorem qq5(k w:Int) (es:List (Int × Int)):yf (zu k es:Int) (yy k w es).length=some (zu k es):=by
 have:=qnh k w es
 unfold yf
 rw [if_pos ⟨by omega,by omega⟩];simp
attribute [go_sem] qms qq5
@[go_sem] theorem qJl:qj call ⟨σ,T⟩ (.mkm d)=qm call ⟨σ,T⟩ (.mkm d):=(rfl)
@[go_sem] theorem qJn {m k v:AO}:qj call ⟨σ,T⟩ (.mset m k v)=qm call ⟨σ,T⟩ (.mset m k v):=(rfl)
@[go_sem] theorem qJj {m k:AO}:qj call ⟨σ,T⟩ (.mget d m k)=qm call ⟨σ,T⟩ (.mget d m k):=(rfl)
@[go_sem] theorem qJh {m k:AO}:qj call ⟨σ,T⟩ (.men d m k)=qm call ⟨σ,T⟩ (.men d m k):=(rfl)
@[go_sem] theorem qJi {m k v:AO}:qj call ⟨σ,T⟩ (.mes m k v)=qm call ⟨σ,T⟩ (.mes m k v):=(rfl)
@[go_sem] theorem qLE:(V.m k).cells=[V.m k]:=(rfl)
@[go_sem] theorem qLM:(V.w o es).cells=[V.w o es]:=(rfl)
@[go_sem] theorem qSk:(V.m k).one=true:=(rfl)
@[go_sem] theorem qSq:(V.w o es).one=true:=(rfl)
@[go_sem] theorem qPw:(V.m k).isA=false:=(rfl)
@[go_sem] theorem qPA:(V.w o es).isA=false:=(rfl)
@[go_sem] theorem qS1:zw d j (.m k)=(.m k,j,[]):=(rfl)
@[go_sem] theorem qS4:zw d j (.w none es)=(.m (d,j),j+1,[((d,j),0,[.w (some true) es])]):=(rfl)
@[go_sem] theorem qS5:zw d j (.w (some τ) es)=(.w (some τ) es,j,[]):=(rfl)
def mK(T':Mem) (ob:Option Ob) (T:Mem):V × Mem:=
 match ob with
 |some (_,[.w _ es])=>(.w none es,T')
 |_=>(.d,T)
@[go_sem] theorem qQt {T':Mem}:mK T' (some (e,[.w o es])) T=(.w none es,T'):=(rfl)
@[go_sem] theorem qMp {m:Nat}:qA (m+1) T (.m k)=mK (qG T k) (qu T k) T:=(rfl)
@[go_sem] theorem qMv {m:Nat}:qA (m+1) T (.w o es)=(.w o es,T):=(rfl)
@[go_sem] theorem qQ9 {i:Nat}:qP d i nm (.m k)=if NB≤k.1 then .d else .m k:=(rfl)
@[go_sem] theorem qRh {i:Nat}:qP d i nm (.w o es)= .w o es:=(rfl)
def mOf(o:Option Key):V:=match o with|some k=> .m k|none=> .d
@[congr] theorem qQu {o o':Option Key} (h:o=o'):mOf o=mOf o':=by rw [h]
@[go_sem] theorem qQv:mOf (some k)= .m k:=(rfl)
@[go_sem] theorem qTX:qV tb (.m k)=mOf (xR tb k):=by simp only [qV,mOf];cases xR tb k<;>rfl
@[go_sem] theorem qT4:qV tb (.w o es)= .w o es:=(rfl)
@[go_sem] theorem qQh {n:Nat}:qZ false n (.m k) 0=some (.m k):=(rfl)
@[go_sem] theorem qQl {n:Nat}:qZ false n (.w o es) 0=some (.w o es):=(rfl)
end
end Go.Vm
namespace Go.Vm
abbrev Str:=List UInt8
theorem y1 {α:Type} {l:List α} {i:Nat} {x:α} (h:l[i]? =some x):l.drop i=x::l.drop (i+1):=by
 obtain ⟨hl,rfl⟩:=List.getElem?_eq_some_iff.1 h
 exact List.drop_eq_getElem_cons hl
theorem zm {α:Type} {l:List α} {i:Nat} (h:i < l.length): ∃ x,l[i]? =some x:=⟨_,List.getElem?_eq_getElem h⟩
def RL {α:Type} (R:α→V→Prop):List α→List V→Prop
 |[],vs=>vs=[]
 |t::ts,vs=> ∃ v vs',vs=v::vs'∧R t v∧RL R ts vs'
section
variable {α:Type} {R R':α→V→Prop}
theorem zk: ∀ {ts:List α} {vs:List V},RL R ts vs→vs.length=ts.length
 |[],vs,h=>by simp only [RL]at h;simp [h]
 |t::ts,vs,h=>by
  simp only [RL]at h
  obtain ⟨v,vs',rfl,-,h⟩:=h
  simp [zk h]
theorem xZ: ∀ {ts:List α} {vs:List V} {i:Nat} {t:α},RL R ts vs→ts[i]? =some t→ ∃ v,vs[i]? =some v∧R t v
 |[],vs,i,t,h,ht=>by simp at ht
 |t'::ts,vs,i,t,h,ht=>by
  simp only [RL]at h
  obtain ⟨v,vs',rfl,h1,h2⟩:=h
  cases i with
  |zero=>simp at ht;subst ht;exact ⟨v,rfl,h1⟩
  |succ i=>simpa using xZ h2 (by simpa using ht)
theorem K2 {f:α→V} (h: ∀ t,R t (f t)): ∀ (ts:List α),RL R ts (ts.map f)
 |[]=>rfl
 |t::ts=>by simp only [RL,List.map_cons];exact ⟨_,_,rfl,h t,K2 h ts⟩
theorem qgJ: ∀ {ts us:List α} {vs ws:List V},RL R ts vs→RL R us ws→RL R (ts++us) (vs++ws)
 |[],us,vs,ws,h,h'=>by simp only [RL]at h;subst h;exact h'
 |t::ts,us,vs,ws,h,h'=>by
  simp only [RL]at h
  obtain ⟨v,vs',rfl,h1,h2⟩:=h
  simp only [List.cons_append,RL]
  exact ⟨v,vs'++ws,rfl,h1,qgJ h2 h'⟩
theorem qjW {f:α→V} (h: ∀ t v,R t v→v=f t): ∀ {ts:List α} {vs:List V},RL R ts vs→vs=ts.map f
 |[],vs,hv=>hv
 |t::ts,vs,hv=>by
  simp only [RL]at hv
  obtain ⟨v,vs',rfl,h1,h2⟩:=hv
  rw [h t v h1,qjW h h2,List.map_cons]
end
def RI(n:Int) (v:V):Prop:=v=I n
def RS(s:Str) (v:V):Prop:=v=S s
mutual
theorem ql3(d:Nat): ∀ (x:V),clB x=true→qO d x=x
 | .v _,_| .q ..,_| .i ..,_| .o ..,_| .b _,_| .n _,_| .w ..,_=>rfl
 | .f fn first caps,h=>by
   simp only [clB,Bool.and_eq_true]at h
   simp only [qO,qeL d first h.1,qeL d caps h.2]
 | .p ..,h| .s ..,h| .a _,h| .t _,h| .m _,h| .d,h=>by simp [clB]at h
theorem qeL(d:Nat): ∀ (xs:List V),xJ xs=true→qE d xs=xs
 |[],_=>rfl
 |x::xs,h=>by
  simp only [xJ,Bool.and_eq_true]at h
  simp only [qE,ql3 d x h.1,qeL d xs h.2]
end
theorem qhz(d:Nat) (x:V) (h:clE x=true):qO d x=x:=by
 cases x
 case a cs=>simp only [clE]at h;simp only [qO,qeL d cs h]
 all_goals exact ql3 d _ h
theorem Zp(d:Nat): ∀ (xs:List V),qF xs=true→qE d xs=xs
 |[],_=>rfl
 |x::xs,h=>by
  simp only [qF,Bool.and_eq_true]at h
  simp only [qE,qhz d x h.1,Zp d xs h.2]
theorem qkR: ∀ (xs ys:List V),qF (xs++ys)=(qF xs&&qF ys)
 |[],ys=>by simp [qF]
 |x::xs,ys=>by simp only [List.cons_append,qF,qkR xs ys,Bool.and_assoc]
theorem qlW(d:Nat): ∀ (xs ys:List V),qE d (xs++ys)=qE d xs++qE d ys
 |[],ys=>rfl
 |x::xs,ys=>by simp only [List.cons_append,qE,qlW d xs ys]
theorem qk0(τ:Bool): ∀ (xs ys:List V),qU τ (xs++ys)=qU τ xs++qU τ ys
 |[],ys=>rfl
 |x::xs,ys=>by simp only [List.cons_append,qU,qk0 τ xs ys]
theorem qbG(n:Nat) (z:V) (h:clE z=true):qF (List.replicate n z)=true:=by
 induction n with
 |zero=>rfl
 |succ n ih=>simp only [List.replicate_succ,qF,h,ih,Bool.and_self]
theorem qhy(d n:Nat) (z:V) (h:clE z=true):qE d (List.replicate n z)=List.replicate n z:=Zp d _ (qbG n z h)
section
variable {α:Type} {f:α→V}
theorem jl(h: ∀ x,clE (f x)=true): ∀ (l:List α),qF (l.map f)=true
 |[]=>rfl
 |x::l=>by simp only [List.map_cons,qF,h x,jl h l,Bool.and_self]
theorem Zo(h: ∀ x,clE (f x)=true) (d:Nat) (l:List α):qE d (l.map f)=l.map f:=Zp d _ (jl h l)
theorem jS {g:α→V} {τ:Bool} (h: ∀ x,zg τ (f x)=g x): ∀ (l:List α),qU τ (l.map f)=l.map g
 |[]=>rfl
 |x::l=>by simp only [List.map_cons,qU,h x,jS h l]
theorem kd(h: ∀ x,qW (f x)=true): ∀ (l:List α),qJ (l.map f)=true
 |[]=>rfl
 |x::l=>by simp only [List.map_cons,qJ,h x,kd h l,Bool.and_self]
theorem qex {e:Nat} (h: ∀ x,yV (f x).cells=true∧(f x).cells.length=e): ∀ (l:List α),kO e (l.map f)=true
 |[]=>rfl
 |x::l=>by simp only [List.map_cons,kO,(h x).1,(h x).2,qex h l,beq_self_eq_true,Bool.and_self]
theorem qfM(h: ∀ x,zf (f x)=true): ∀ (l:List α),yk (l.map f)=true
 |[]=>rfl
 |x::l=>by simp only [List.map_cons,yk,h x,qfM h l,Bool.and_self]
theorem j0(k:Key) (ob:Ob): ∀ (xs ys:List V),qF xs=true→zB k ob (xs++ys)=(zB k ob ys).map (xs++ ·)
 |[],ys,_=>by simp
 |x::xs,ys,h=>by
  simp only [qF,Bool.and_eq_true]at h
  have hC: ∀ (c:V),clB c=true→yR k ob c=none:=by intro c hc;cases c<;>first|rfl|(simp [clB]at hc)
  have hCs: ∀ (cs:List V),xJ cs=true→kj k ob cs=none:=by
   intro cs
   induction cs with
   |nil=>intro _;rfl
   |cons c cs ih=>
    intro h
    simp only [xJ,Bool.and_eq_true]at h
    simp only [kj,hC c h.1,ih h.2,Option.map_none]
  have hE:km k ob x=none:=by
   cases x
   case a cs=>simp only [clE]at h;simp only [km,hCs cs h.1,Option.map_none]
   all_goals exact hC _ h.1
  simp only [List.cons_append,zB,hE,j0 k ob xs ys h.2]
  cases zB k ob ys<;>rfl
end
@[go_sem] theorem qkO(l:List Int):qF (l.map I)=true:=jl (fun _=>rfl) l
@[go_sem] theorem qkP(l:List Str):qF (l.map S)=true:=jl (fun _=>rfl) l
@[go_sem] theorem qPD(d:Nat) (l:List Int):qE d (l.map I)=l.map I:=Zo (fun _=>rfl) d l
@[go_sem] theorem qPE(d:Nat) (l:List Str):qE d (l.map S)=l.map S:=Zo (fun _=>rfl) d l
@[go_sem] theorem qME(τ:Bool) (l:List Int):qU τ (l.map I)=l.map I:=jS (fun _=>rfl) l
@[go_sem] theorem qMF(τ:Bool) (l:List Str):qU τ (l.map S)=l.map S:=jS (fun _=>rfl) l
@[go_sem] theorem qRP(l:List Int):qJ (l.map I)=true:=kd (fun _=>rfl) l
@[go_sem] theorem qRQ(l:List Str):qJ (l.map S)=true:=kd (fun _=>rfl) l
attribute [go_sem] qkR qlW qk0 qbG qhy
@[go_sem] theorem qqo(n:Nat) (l:Str):qF (List.replicate n (S l))=true:=qbG n _ rfl
@[go_sem] theorem qLR(n:Nat) (i:Int):qF (List.replicate n (I i))=true:=qbG n _ rfl
@[go_sem] theorem qPN(d n:Nat) (l:Str):qE d (List.replicate n (S l))=List.replicate n (S l):=qhy d n _ rfl
@[go_sem] theorem qPM(d n:Nat) (i:Int):qE d (List.replicate n (I i))=List.replicate n (I i):=qhy d n _ rfl
attribute [go_sem] List.length_map List.length_replicate Nat.zero_add Nat.add_zero Nat.le_refl List.take_length
@[go_sem] theorem qQG {α:Type} {f:α→V} {l:List α} {x:α}:l.map f++[f x]=(l++[x]).map f:=by simp
@[go_sem] theorem qVc {α:Type} {f:α→V} {l:List α} {x:α}:((l++[x]).map f).take (l.length+1)=(l++[x]).map f:=by
 apply List.take_of_length_le;simp
@[go_sem] theorem qVb {α:Type} {f:α→V} {l:List α}:(l.map f).take l.length=l.map f:=by
 rw [← List.length_map (f:=f),List.take_length]
theorem jB(k:Key) (ob:Ob) (xs:List V) (h:qF xs=true):zB k ob xs=none:=by
 have:=j0 k ob xs [] h
 rw [List.append_nil]at this
 rw [this];rfl
@[go_sem] theorem qQw(m:Nat) (T:Mem) (l:List Int):qB (zd m) T (l.map I)=(l.map I,T):=x9 m T _ (qkO l)
@[go_sem] theorem qQx(m:Nat) (T:Mem) (l:List Str):qB (zd m) T (l.map S)=(l.map S,T):=x9 m T _ (qkP l)
@[go_sem] theorem qQE(m n:Nat) (T:Mem) (z:V) (h:clE z=true):qB (zd m) T (List.replicate n z)=(List.replicate n z,T):=x9 m T _ (qbG n z h)
@[go_sem] theorem qQF(m n:Nat) (T:Mem) (l:Str):qB (zd m) T (List.replicate n (S l))=(List.replicate n (S l),T):=x9 m T _ (qqo n l)
@[go_sem] theorem qUm(k:Key) (ob:Ob) (l:List Int):zB k ob (l.map I)=none:=jB k ob _ (qkO l)
@[go_sem] theorem qUn(k:Key) (ob:Ob) (l:List Str):zB k ob (l.map S)=none:=jB k ob _ (qkP l)
section lit
variable {k:Key} {lo len e:Nat} {xs:List V}
theorem qlS {i:Nat} (h:i < len) (hl:lo+len≤xs.length):ixO k lo len e (i:Int) (some (e,xs))=some (.p k (lo+i) 0):=by
 simp only [ixO,yf]
 rw [if_pos ⟨trivial,hl⟩,if_pos ⟨by omega,by omega⟩]
 simp
@[go_sem] theorem qPB:ixO k lo len e 0 (some (e,xs))=if 1≤len∧lo+len≤xs.length then some (.p k (lo+0) 0)else none:=by
 split
 ·rename_i h;exact qlS (i:=0) h.1 h.2
 ·rename_i h
  simp only [ixO,yf]
  split
  ·rename_i h2;rw [if_neg (by omega)];rfl
  ·rfl
@[go_sem] theorem qPC:ixO k lo len e 1 (some (e,xs))=if 2≤len∧lo+len≤xs.length then some (.p k (lo+1) 0)else none:=by
 split
 ·rename_i h;exact qlS (i:=1) h.1 h.2
 ·rename_i h
  simp only [ixO,yf]
  split
  ·rename_i h2;rw [if_neg (by omega)];rfl
  ·rfl
@[go_sem] theorem qJz {T:Mem} {τ:Bool} {x:V}:ji T e (.i τ (x::xs)) 0=if x.cells.length=e then some (.q τ (x::xs) 0 0)else none:=by
 have h0:yf 0 (x::xs).length=some 0:=by
  unfold yf;rw [if_pos ⟨by omega,by simp only [List.length_cons];omega⟩];rfl
 simp only [ji,h0];rfl
@[go_sem] theorem qJA {T:Mem} {τ:Bool} {x y:V}:ji T e (.i τ (x::y::xs)) 1=if y.cells.length=e then some (.q τ (x::y::xs) 1 0)else none:=by
 have h0:yf 1 (x::y::xs).length=some 1:=by
  unfold yf;rw [if_pos ⟨by omega,by simp only [List.length_cons];omega⟩];rfl
 simp only [ji,h0];rfl
end lit
section rep
variable {k:Key} {ob:Ob} {k':Key} {e:Nat} {xs:List V} {T:Mem}
def JD(k:Key) (ob:Ob) (r:Option (List V)) (k':Key) (e:Nat) (xs:List V) (T:Mem):Mem:=
 match r with
 |some xs'=>(k',e,xs')::T
 |none=>(k',e,xs)::kX k ob T
@[congr] theorem qUw {r r':Option (List V)} (h:r=r'):JD k ob r k' e xs T=JD k ob r' k' e xs T:=by rw [h]
@[go_sem] theorem qUG:kX k ob []=[]:=(rfl)
@[go_sem] theorem qUF:kX k ob ((k',e,xs)::T)=JD k ob (zB k ob xs) k' e xs T:=by
 simp only [kX,JD];cases zB k ob xs<;>rfl
@[go_sem] theorem qUy {xs':List V}:JD k ob (some xs') k' e xs T=(k',e,xs')::T:=(rfl)
@[go_sem] theorem qUx:JD k ob none k' e xs T=(k',e,xs)::kX k ob T:=(rfl)
def JF(k:Key) (ob:Ob) (r:Option V) (x:V) (xs:List V):Option (List V):=
 match r with
 |some x'=>some (x'::xs)
 |none=>yt (zB k ob xs) fun ys=>some (x::ys)
def JE(k:Key) (ob:Ob) (r:Option V) (x:V) (xs:List V):Option (List V):=
 match r with
 |some x'=>some (x'::xs)
 |none=>yt (kj k ob xs) fun ys=>some (x::ys)
@[congr] theorem qUC {r r':Option V} {x:V} (h:r=r'):JF k ob r x xs=JF k ob r' x xs:=by rw [h]
@[congr] theorem qUz {r r':Option V} {x:V} (h:r=r'):JE k ob r x xs=JE k ob r' x xs:=by rw [h]
@[go_sem] theorem qUE {x x':V}:JF k ob (some x') x xs=some (x'::xs):=(rfl)
@[go_sem] theorem qUD {x:V}:JF k ob none x xs=yt (zB k ob xs) fun ys=>some (x::ys):=(rfl)
@[go_sem] theorem qUB {x x':V}:JE k ob (some x') x xs=some (x'::xs):=(rfl)
@[go_sem] theorem qUA {x:V}:JE k ob none x xs=yt (kj k ob xs) fun ys=>some (x::ys):=(rfl)
@[go_sem] theorem qUv:zB k ob []=none:=(rfl)
@[go_sem] theorem qUp {x:V}:zB k ob (x::xs)=JF k ob (km k ob x) x xs:=by
 simp only [zB,JF]
 cases km k ob x with
 |some y=>rfl
 |none=>simp only;cases zB k ob xs<;>rfl
@[go_sem] theorem qUf:kj k ob []=none:=(rfl)
@[go_sem] theorem qUe {x:V}:kj k ob (x::xs)=JE k ob (yR k ob x) x xs:=by
 simp only [kj,JE]
 cases yR k ob x with
 |some y=>rfl
 |none=>simp only;cases kj k ob xs<;>rfl
@[go_sem] theorem qUj:km k ob (.a xs)=yt (kj k ob xs) fun ys=>some (.a ys):=by
 simp only [km];cases kj k ob xs<;>rfl
@[go_sem] theorem qUl {lo len:Nat}:km k ob (.s k' lo len)=yR k ob (.s k' lo len):=(rfl)
@[go_sem] theorem qUk {lo len:Nat}:km k ob (.p k' lo len)=yR k ob (.p k' lo len):=(rfl)
@[go_sem] theorem qUd {lo len:Nat} {zs:List V}:yR k (e,zs) (.s k' lo len)=if k'=k∧lo=0∧len=zs.length then some (.o e zs)else none:=(rfl)
@[go_sem] theorem qUc {i o:Nat} {z:V}:yR k (e,[z]) (.p k' i o)=if k'=k∧i=0∧o=0 then some (.b z)else none:=(rfl)
@[go_sem] theorem qT6 {n:Int}:yR k ob (I n)=none:=(rfl)
@[go_sem] theorem qT7 {l:Str}:yR k ob (S l)=none:=(rfl)
@[go_sem] theorem qT5 {b:Bool}:yR k ob (B b)=none:=(rfl)
@[go_sem] theorem qT8 {n:Int}:yR k ob (U8 n)=none:=(rfl)
@[go_sem] theorem qT9 {τ:Bool}:yR k ob (.i τ xs)=none:=(rfl)
@[go_sem] theorem qUb:yR k ob (.o e xs)=none:=(rfl)
@[go_sem] theorem qUa:yR k ob (.n e)=none:=(rfl)
@[go_sem] theorem qUh {n:Int}:km k ob (I n)=none:=(rfl)
@[go_sem] theorem qUi {l:Str}:km k ob (S l)=none:=(rfl)
@[go_sem] theorem qUg {b:Bool}:km k ob (B b)=none:=(rfl)
end rep
inductive Tm where
 |mk (kind:Int) (name:Str) (num:Int) (kids:List Tm)
def Tm.kind:Tm→Int| .mk k _ _ _=>k
def Tm.name:Tm→Str| .mk _ s _ _=>s
def Tm.num:Tm→Int| .mk _ _ n _=>n
def Tm.kids:Tm→List Tm| .mk _ _ _ ks=>ks
noncomputable instance:DecidableEq Tm:=fun a b=>Classical.propDecidable (a=b)
section
variable {k n:Int} {s:Str} {ks:List Tm}
@[go_sem] theorem yq:(Tm.mk k s n ks).kind=k:=(rfl)
@[go_sem] theorem yr:(Tm.mk k s n ks).name=s:=(rfl)
@[go_sem] theorem yC:(Tm.mk k s n ks).num=n:=(rfl)
@[go_sem] theorem z8:(Tm.mk k s n ks).kids=ks:=(rfl)
end
theorem Z4 {P:Tm→Prop} (h: ∀ k s n ks,(∀ t ∈ ks,P t)→P (.mk k s n ks)) (t:Tm):P t:=
 Tm.rec (motive_1:=P) (motive_2:=fun ks=> ∀ t ∈ ks,P t) (fun k s n ks ih=>h k s n ks ih) (fun t ht=>by cases ht)
  (fun x xs hx hxs t ht=>by
   rcases List.mem_cons.1 ht with rfl|ht
   ·exact hx
   ·exact hxs t ht) t
mutual
def BT:Tm→V→Prop
 | .mk k s n ks,v=> ∃ τ vs,v= .a [I k,S s,I n,.i τ vs]∧BTs ks vs
def BTs:List Tm→List V→Prop
 |[],vs=>vs=[]
 |t::ts,vs=> ∃ v vs',vs=v::vs'∧BT t v∧BTs ts vs'
end
theorem qjd: ∀ (ts:List Tm) (vs:List V),BTs ts vs↔RL BT ts vs
 |[],vs=>by simp only [BTs,RL]
 |t::ts,vs=>by simp only [BTs,RL,qjd ts]
theorem KE {k n:Int} {s:Str} {ks:List Tm} {v:V}:BT (.mk k s n ks) v↔ ∃ τ vs,v= .a [I k,S s,I n,.i τ vs]∧RL BT ks vs:=by
 simp only [BT,qjd]
theorem qy {t:Tm} {v:V} (h:BT t v): ∃ τ vs,v= .a [I t.kind,S t.name,I t.num,.i τ vs]∧RL BT t.kids vs:=by
 cases t;exact KE.1 h
theorem kw {t:Tm} {v:V} (h:BT t v):v.cells.length=4:=by
 obtain ⟨τ,vs,rfl,-⟩:=qy h;rfl
theorem yH {t:Tm} {τ:Bool} {vs:List V} (h:RL BT t.kids vs):BT t (.a [I t.kind,S t.name,I t.num,.i τ vs]):=by
 cases t;exact KE.2 ⟨τ,vs,rfl,h⟩
mutual
def oT:Tm→V
 | .mk k s n ks=> .a [I k,S s,I n,.o 4 (oTs ks)]
def oTs:List Tm→List V
 |[]=>[]
 |t::ts=>oT t::oTs ts
end
mutual
def iT(τ:Bool):Tm→V
 | .mk k s n ks=> .a [I k,S s,I n,.i τ (iTs τ ks)]
def iTs(τ:Bool):List Tm→List V
 |[]=>[]
 |t::ts=>iT τ t::iTs τ ts
end
theorem qmQ: ∀ (ts:List Tm),oTs ts=ts.map oT
 |[]=>rfl
 |t::ts=>by simp only [oTs,List.map_cons,qmQ ts]
theorem qlC(τ:Bool): ∀ (ts:List Tm),iTs τ ts=ts.map (iT τ)
 |[]=>rfl
 |t::ts=>by simp only [iTs,List.map_cons,qlC τ ts]
theorem qv(t:Tm):oT t= .a [I t.kind,S t.name,I t.num,.o 4 (t.kids.map oT)]:=by cases t;simp only [oT,qmQ];rfl
theorem ym(τ:Bool) (t:Tm):iT τ t= .a [I t.kind,S t.name,I t.num,.i τ (t.kids.map (iT τ))]:=by cases t;simp only [iT,qlC];rfl
theorem yY(τ:Bool): ∀ (t:Tm),BT t (iT τ t):=by
 refine Z4 ?_
 intro k s n ks ih
 rw [ym]
 refine KE.2 ⟨τ,_,rfl, ?_⟩
 simp only [z8]
 induction ks with
 |nil=>rfl
 |cons t ts ih'=>exact ⟨_,_,rfl,ih t (by simp),ih' fun u hu=>ih u (by simp [hu])⟩
theorem Qu(τ:Bool) (ts:List Tm):RL BT ts (ts.map (iT τ)):=K2 (yY τ) ts
mutual
theorem qg7(τ:Bool): ∀ (t:Tm),zg τ (oT t)=iT τ t
 | .mk k s n ks=>by simp only [oT,iT,zg,qU,qqx,qqy,qk1 τ ks]
theorem qk1(τ:Bool): ∀ (ts:List Tm),qU τ (oTs ts)=iTs τ ts
 |[]=>rfl
 |t::ts=>by simp only [oTs,iTs,qU,qg7 τ t,qk1 τ ts]
end
mutual
theorem qhS: ∀ (t:Tm),qW (oT t)=true
 | .mk k s n ks=>by simp only [oT,qW,qJ,qhN,qhO,qmH ks,Bool.and_self]
theorem qmH: ∀ (ts:List Tm),qJ (oTs ts)=true
 |[]=>rfl
 |t::ts=>by simp only [oTs,qJ,qhS t,qmH ts,Bool.and_self]
end
mutual
theorem qhR: ∀ (t:Tm),qW (iT false t)=true
 | .mk k s n ks=>by simp only [iT,qW,qJ,qhN,qhO,qmG ks,Bool.and_self,Bool.not_false]
theorem qmG: ∀ (ts:List Tm),qJ (iTs false ts)=true
 |[]=>rfl
 |t::ts=>by simp only [iTs,qJ,qhR t,qmG ts,Bool.and_self]
end
theorem Ja(t:Tm):clE (oT t)=true:=by rw [qv];rfl
theorem qqn(τ:Bool) (t:Tm):clE (iT τ t)=true:=by rw [ym];rfl
@[go_sem] theorem qWb(τ:Bool) (t:Tm):zf (iT τ t)=true:=by rw [ym];rfl
@[go_sem] theorem qMA(m:Nat) (T:Mem) (τ:Bool) (t:Tm):qA (m+2) T (iT τ t)=(iT τ t,T):=by rw [ym];rfl
@[go_sem] theorem qMV(τ τ':Bool) (t:Tm):zg τ (iT τ' t)=iT τ' t:=by rw [ym];rfl
@[go_sem] theorem qP0(d:Nat) (τ:Bool) (t:Tm):qO d (iT τ t)=iT τ t:=qhz d _ (by rw [ym];rfl)
@[go_sem] theorem qNm(τ:Bool) (t:Tm):xj (iT τ t)=[]:=by rw [ym];rfl
@[go_sem] theorem qPv(τ:Bool) (t:Tm):(iT τ t).isA=true:=by rw [ym];rfl
@[go_sem] theorem qLD(τ:Bool) (t:Tm):(iT τ t).cells=[I t.kind,S t.name,I t.num,.i τ (t.kids.map (iT τ))]:=by rw [ym];rfl
@[go_sem] theorem qQq(τ:Bool) (t:Tm):qZ true 4 (iT τ t) 0=some (iT τ t):=by rw [ym];rfl
attribute [go_sem] qg7 qhS qhR Ja qqn
@[go_sem] theorem qMM(τ:Bool) (ts:List Tm):qU τ (ts.map oT)=ts.map (iT τ):=jS (qg7 τ) ts
@[go_sem] theorem qRX(ts:List Tm):qJ (ts.map oT)=true:=kd qhS ts
@[go_sem] theorem qeO(ts:List Tm):qJ (ts.map (iT false))=true:=kd qhR ts
@[go_sem] theorem QE(ts:List Tm):qF (ts.map oT)=true:=jl Ja ts
@[go_sem] theorem qPL(d:Nat) (ts:List Tm):qE d (ts.map oT)=ts.map oT:=Zo Ja d ts
@[go_sem] theorem qQD(m:Nat) (T:Mem) (l:List Tm):qB (zd m) T (l.map oT)=(l.map oT,T):=x9 m T _ (QE l)
@[go_sem] theorem qUu(k:Key) (ob:Ob) (l:List Tm):zB k ob (l.map oT)=none:=jB k ob _ (QE l)
@[go_sem] theorem qPU(d:Nat) (t:Tm):qO d (oT t)=oT t:=qhz d _ (Ja t)
@[go_sem] theorem qSa(t:Tm):yV (oT t).cells=true:=by rw [qv];rfl
@[go_sem] theorem qLH(t:Tm):(oT t).cells.length=4:=by rw [qv];rfl
def Lm:Nat:=16777216
def inI(n:Int):Prop:= -9223372036854775808≤n∧n < 9223372036854775808
mutual
def WT:Tm→Prop
 | .mk k s n ks=>inI k∧s.length≤Lm∧inI n∧ks.length≤Lm∧WTs ks
def WTs:List Tm→Prop
 |[]=>True
 |t::ts=>WT t∧WTs ts
end
theorem qj7: ∀ {ts:List Tm} {t:Tm},WTs ts→t ∈ ts→WT t
 |x::xs,t,h,ht=>by
  simp only [WTs]at h
  rcases List.mem_cons.1 ht with rfl|ht
  ·exact h.1
  ·exact qj7 h.2 ht
theorem qj8: ∀ {ts:List Tm},(∀ t ∈ ts,WT t)→WTs ts
 |[],_=>trivial
 |t::ts,h=>⟨h t (by simp),qj8 fun u hu=>h u (by simp [hu])⟩
theorem qj4 {t:Tm} (h:WT t):inI t.kind:=by cases t;exact h.1
theorem qbv {t:Tm} (h:WT t):t.name.length≤Lm:=by cases t;exact h.2.1
theorem qj5 {t:Tm} (h:WT t):inI t.num:=by cases t;exact h.2.2.1
theorem Qw {t:Tm} (h:WT t):t.kids.length≤Lm:=by cases t;exact h.2.2.2.1
theorem zp {t:Tm} (h:WT t): ∀ u ∈ t.kids,WT u:=by cases t;exact fun u hu=>qj7 h.2.2.2.2 hu
theorem xH {k n:Int} {s:Str} {ks:List Tm} (h1:inI k) (h2:s.length≤Lm) (h3:inI n) (h4:ks.length≤Lm) (h5: ∀ u ∈ ks,WT u):WT (.mk k s n ks):=⟨h1,h2,h3,h4,qj8 h5⟩
mutual
def nT:Tm→Nat
 | .mk _ _ _ ks=>nTs ks+1
def nTs:List Tm→Nat
 |[]=>0
 |t::ts=>nT t+nTs ts
end
theorem ye(t:Tm):1≤nT t:=by cases t;simp only [nT];omega
theorem Xq: ∀ {ts:List Tm} {t:Tm},t ∈ ts→nT t≤nTs ts
 |x::xs,t,h=>by
  simp only [nTs]
  rcases List.mem_cons.1 h with rfl|h
  ·omega
  ·have:=Xq h;omega
theorem Jp(t:Tm):nTs t.kids+1=nT t:=by cases t;rfl
def wTm(t:Tm):Prop:=WT t∧nT t≤Lm
end Go.Vm
namespace Go.Vm
section
variable {α:Type} {f:α→V} {z x:V}
theorem qyB {ts:List α} {i:Nat} {t:α} (h:ts[i]? =some t) (zs:List V):(ts.take i).map f++f t::zs=(ts.take (i+1)).map f++zs:=by
 rw [List.take_succ_eq_append_getElem (List.getElem?_eq_some_iff.1 h).1]
 simp [(List.getElem?_eq_some_iff.1 h).2]
theorem qqi(xs:List V) (y:V) (zs:List V) (i:Nat) (h:xs.length=i):(xs++y::zs)[i]? =some y:=by
 subst h;simp
theorem qqk(xs:List V) (y y':V) (zs:List V) (i:Nat) (h:xs.length=i):(xs++y::zs).set i y'=xs++y'::zs:=by
 subst h;simp
end
end Go.Vm
namespace Go.Vm
theorem Xg {β:Type} (ts:List β) (P:Nat→List β→Prop) (hlim:ts.length < 2^62) (h0:P ts.length [])
 (hs: ∀ i t r,ts[i]? =some t→i < ts.length→(i:Int) < ts.length→w64 ((i:Int)+1)=((i+1:Nat):Int)→i+(r.length+1)=ts.length→t ∈ ts→(∀ u ∈ r,u ∈ ts)→P (i+1) r→P i (t::r)):P 0 ts:=by
 have key: ∀ m i,i+m=ts.length→P i (ts.drop i):=by
  intro m
  induction m with
  |zero=>
   intro i hi
   obtain rfl:i=ts.length:=by omega
   rw [List.drop_length];exact h0
  |succ m ih=>
   intro i hi
   obtain ⟨t,ht⟩:=zm (l:=ts) (i:=i) (by omega)
   rw [y1 ht]
   refine hs i t _ ht (by omega) (by omega) (by rw [qp]<;>omega) (by rw [List.length_drop];omega) (List.mem_of_getElem? ht) (fun u hu=>List.mem_of_mem_drop hu) (ih (i+1) (by omega))
 have:=key ts.length 0 (by omega)
 simpa using this
theorem qzx(l:List Tm) (t:Tm):l.map oT++[.a [I t.kind,S t.name,I t.num,.o 4 (t.kids.map oT)]]=(l++[t]).map oT:=by
 rw [List.map_append,List.map_cons,List.map_nil,qv]
theorem qvA(a:Int):(a < a)=False:=eq_false (Int.lt_irrefl a)
attribute [go_sem] qzx qvA Int.natCast_zero
end Go.Vm
set_option maxRecDepth 100000
namespace Go.Vm
def qjx(f e:Nat):AC:=
 (.seq
  (.seq
   (.reg [.mv 11 (.t 5),
    .mv 12 (.t 0),
    .len 13 (.t 12),
    .bin 14 .lss (.t 11) (.t 13)])
  (.keep [0,1,5,14]
   (.cond (.t 14)
    .skip
    (.keep []
     (.exit 0)))))
 (.keep [0,1,5]
  (.seq
   (.block 1
    (.seq
     (.dreg [⟨0,[]⟩,⟨0,[]⟩,⟨0,[(0,0),(0,1),(0,2),(0,3),(100000,0),(100000,1),(100000,2),(100000,3),(100000,4),(100000,5)]⟩,⟨0,[(0,0),(0,1),(0,2),(0,3),(100000,0),(100000,1),(100000,2),(100000,3),(100000,4),(100000,5)]⟩,⟨0,[]⟩,⟨0,[]⟩,⟨0,[(1,0),(1,1),(1,2),(1,3),(100000,0),(100000,1),(100000,2),(100000,3),(100000,4),(100000,5)]⟩,⟨0,[(1,0),(1,1),(1,2),(1,3),(100000,0),(100000,1),(100000,2),(100000,3),(100000,4),(100000,5)]⟩,⟨2,[(0,0),(0,1),(0,2),(0,3),(1,0),(1,1),(1,2),(1,3),(20,0),(24,0),(100000,0),(100000,1),(100000,2),(100000,3),(100000,4),(100000,5)]⟩,⟨0,[]⟩]
      [.mv 17 (.t 0),
       .mv 18 (.t 5),
       .ia 19 e (.t 17) (.t 18),
       .ldq 20 true e (.t 19),
       .mv 21 (.t 1),
       .mv 22 (.t 5),
       .ia 23 e (.t 21) (.t 22),
       .ldq 24 true e (.t 23),
       .call (some 25) (.c (Fc f)) [(.t 20),(.t 24)] (.ro true),
       .un 26 .not (.t 25)])
    (.keep [0,1,5,26]
     (.cond (.t 26)
      (.seq
       (.reg [.mv 4 (.c (B false))])
      (.keep [4]
       .ret))
      .skip))))
  (.keep [0,1,5]
   (.reg [.mv 15 (.t 5),
    .bin 16 .add (.t 15) (.c (I 1)),
    .mv 5 (.t 16)])))))
def qdQ(f e:Nat):Lp:=⟨[0,1,5],[(2,0)],qjx f e⟩
@[go_sem] theorem qFK {f e:Nat}:(qdQ f e).ls=[0,1,5]:=rfl
@[go_sem] theorem qFJ {f e:Nat}:(qdQ f e).ks=[(2,0)]:=rfl
@[go_sem] theorem qFI {f e:Nat}:(qdQ f e).body=qjx f e:=rfl
def qFF(f e:Nat):AF where
 nargs:=2
 ntmps:=27
 res:=[.tmp 4]
 body:=
  (.seq
   (.reg [.mv 4 (.c (B false))])
  (.seq
   (.seq
    (.reg [.mv 6 (.t 0),
     .len 7 (.t 6),
     .mv 8 (.t 1),
     .len 9 (.t 8),
     .bin 10 .neq (.t 7) (.t 9)])
   (.keep [0,1,10]
    (.cond (.t 10)
     (.seq
      (.reg [.mv 4 (.c (B false))])
     (.keep [4]
      .ret))
     .skip)))
  (.keep [0,1]
   (.seq
    (.seq
     (.reg [.mv 5 (.c (I 0))])
    (.block 0
     (lpC (qdQ f e))))
   (.keep []
    (.seq
     (.reg [.mv 4 (.c (B true))])
    (.keep [4]
     .ret)))))))
def qjy(f e:Nat):AC:=
        (.seq
         (.seq
          (.reg [.mv 12 (.t 5),
           .mv 13 (.t 0),
           .len 14 (.t 13),
           .bin 15 .lss (.t 12) (.t 14)])
         (.keep [0,1,5,15]
          (.cond (.t 15)
           .skip
           (.keep [1]
            (.exit 0)))))
        (.keep [0,1,5]
         (.seq
          (.block 1
           (.seq
            (.reg [.mv 18 (.t 0),
             .mv 19 (.t 5),
             .ia 20 e (.t 18) (.t 19),
             .ld 21 true e (.t 20),
             .mv 22 (.t 1),
             .call (some 23) (.c (Fc f)) [(.t 21),(.t 22)] (.ro false),
             .mv 1 (.t 23)])
           (.keep [0,1,5]
            (.seq
             (.reg [.mv 24 (.t 1),
              .bin 25 .lss (.t 24) (.c (I 0))])
            (.cond (.t 25)
             (.seq
              (.reg [.mv 4 (.c (I (-1)))])
             (.keep [4]
              .ret))
             .skip)))))
         (.keep [0,1,5]
          (.reg [.mv 16 (.t 5),
           .bin 17 .add (.t 16) (.c (I 1)),
           .mv 5 (.t 17)])))))
def qdR(f e:Nat):Lp:=⟨[0,1,5],[(2,0)],qjy f e⟩
@[go_sem] theorem qFN {f e:Nat}:(qdR f e).ls=[0,1,5]:=rfl
@[go_sem] theorem qFM {f e:Nat}:(qdR f e).ks=[(2,0)]:=rfl
@[go_sem] theorem qFL {f e:Nat}:(qdR f e).body=qjy f e:=rfl
def qFG(f e:Nat):AF where
 nargs:=2
 ntmps:=27
 res:=[.tmp 4]
 body:=
  (.seq
   (.reg [.mv 4 (.c (I 0))])
  (.seq
   (.reg [.mv 6 (.t 1),
    .mv 7 (.t 0),
    .len 8 (.t 7),
    .bin 9 .sub (.t 6) (.t 8),
    .mv 1 (.t 9)])
  (.keep [0,1]
   (.seq
    (.seq
     (.reg [.mv 10 (.t 1),
      .bin 11 .lss (.t 10) (.c (I 0))])
    (.cond (.t 11)
     (.seq
      (.reg [.mv 4 (.c (I (-1)))])
     (.keep [4]
      .ret))
     .skip))
   (.keep [0,1]
    (.seq
     (.seq
      (.reg [.mv 5 (.c (I 0))])
     (.block 0
      (lpC (qdR f e))))
    (.keep [1]
     (.seq
      (.reg [.mv 26 (.t 1),
       .mv 4 (.t 26)])
     (.keep [4]
      .ret)))))))))
def qjz(f e b:Nat) (z:V):AC:=
 (.seq
  (.seq
   (.reg [.mv 8 (.t 4),
    .mv 9 (.t 0),
    .len 10 (.t 9),
    .bin 11 .lss (.t 8) (.t 10)])
  (.keep [0,3,4,11]
   (.cond (.t 11)
    .skip
    (.keep [3]
     (.exit 0)))))
 (.keep [0,3,4]
  (.seq
   (.block 1
    (.reg [.mv 14 (.t 3),
     .mv 15 (.t 4),
     .mv 16 (.t 0),
     .mv 17 (.t 4),
     .ia 18 e (.t 16) (.t 17),
     .ld 19 true e (.t 18),
     .call (some 20) (.c (Fc f)) [(.t 19)] (.ro false),
     .ia 21 e (.t 14) (.t 15),
     .st e (.t 21) (.t 20)]))
  (.keep [0,3,4]
   (.reg [.mv 12 (.t 4),
    .bin 13 .add (.t 12) (.c (I 1)),
    .mv 4 (.t 13)])))))
def qdS(f e b:Nat) (z:V):Lp:=⟨[0,3,4],[(1,0)],qjz f e b z⟩
@[go_sem] theorem qFQ {f e b:Nat} {z:V}:(qdS f e b z).ls=[0,3,4]:=rfl
@[go_sem] theorem qFP {f e b:Nat} {z:V}:(qdS f e b z).ks=[(1,0)]:=rfl
@[go_sem] theorem qFO {f e b:Nat} {z:V}:(qdS f e b z).body=qjz f e b z:=rfl
def qFH(f e b:Nat) (z:V):AF where
 nargs:=1
 ntmps:=23
 res:=[.tmp 2]
 body:=
  (.seq
   (.reg [.mv 2 (.c (.n e))])
  (.seq
   (.reg [.mv 5 (.t 0),
    .len 6 (.t 5),
    .mk 7 e z b (.t 6) (.t 6),
    .mv 3 (.t 7)])
  (.keep [0,3]
   (.seq
    (.seq
     (.reg [.mv 4 (.c (I 0))])
    (.block 0
     (lpC (qdS f e b z))))
   (.keep [3]
    (.seq
     (.reg [.mv 22 (.t 3),
      .mv 2 (.t 22)])
    (.keep [2]
     .ret)))))))
end Go.Vm
namespace Go.Vm
def qqW:V→Bool
 | .v _=>true
 | .i _ _=>true
 |_=>false
def qlo:List V→Bool
 |[]=>true
 |c::cs=>qqW c&&qlo cs
def qjw(e:Nat) (v:V):Prop:= ∃ cs,v= .a cs∧cs.length=e∧qlo cs=true
theorem qjw.cells {e:Nat} {v:V} (h:qjw e v):v.cells.length=e:=by obtain ⟨cs,rfl,h,-⟩:=h;exact h
section
variable {prog:Nat→Option AE} {α:Type} {R:α→V→Prop}
noncomputable local instance:DecidableEq α:=fun a b=>Classical.propDecidable (a=b)
end
end Go.Vm
namespace Go.Vm
def wS(s:Str):Prop:=s.length≤Lm
structure Cl where
 head:Tm
 body:Tm
 file:Str
noncomputable instance:DecidableEq Cl:=fun a b=>Classical.propDecidable (a=b)
def bCl(x:Cl) (v:V):Prop:= ∃ τ0 vs0 τ1 vs1,v= .a [I x.head.kind,S x.head.name,I x.head.num,.i τ0 vs0,I x.body.kind,S x.body.name,I x.body.num,.i τ1 vs1,S x.file]∧RL BT x.head.kids vs0∧RL BT x.body.kids vs1
def oCl(x:Cl):V:= .a [I x.head.kind,S x.head.name,I x.head.num,.o 4 (x.head.kids.map oT),I x.body.kind,S x.body.name,I x.body.num,.o 4 (x.body.kids.map oT),S x.file]
def iCl(τ:Bool) (x:Cl):V:= .a [I x.head.kind,S x.head.name,I x.head.num,.i τ (x.head.kids.map (iT τ)),I x.body.kind,S x.body.name,I x.body.num,.i τ (x.body.kids.map (iT τ)),S x.file]
def wCl(x:Cl):Prop:=wTm x.head∧wTm x.body∧wS x.file
theorem K6(τ:Bool) (x:Cl):bCl x (iCl τ x):=⟨τ,_,τ,_,rfl,Qu τ _,Qu τ _⟩
theorem qk3(τ:Bool) (x:Cl):zg τ (oCl x)=iCl τ x:=by simp only [oCl,iCl,go_sem]
theorem qmK(x:Cl):qW (oCl x)=true:=by simp only [oCl,go_sem]
theorem qhP(x:Cl):qW (iCl false x)=true:=by simp only [iCl,go_sem]
@[go_sem] theorem qV7(τ:Bool) (x:Cl):zf (iCl τ x)=true:=rfl
@[go_sem] theorem qMw(m:Nat) (T:Mem) (τ:Bool) (x:Cl):qA (m+2) T (iCl τ x)=(iCl τ x,T):=rfl
@[go_sem] theorem qqz(τ τ':Bool) (x:Cl):zg τ (iCl τ' x)=iCl τ' x:=rfl
@[go_sem] theorem qPW(d:Nat) (τ:Bool) (x:Cl):qO d (iCl τ x)=iCl τ x:=rfl
@[go_sem] theorem qNi(τ:Bool) (x:Cl):xj (iCl τ x)=[]:=rfl
@[go_sem] theorem qPr(τ:Bool) (x:Cl):(iCl τ x).isA=true:=rfl
@[go_sem] theorem qQm(τ:Bool) (x:Cl):qZ true 9 (iCl τ x) 0=some (iCl τ x):=rfl
@[go_sem] theorem qLz(τ:Bool) (x:Cl):(iCl τ x).cells=[I x.head.kind,S x.head.name,I x.head.num,.i τ (x.head.kids.map (iT τ)),I x.body.kind,S x.body.name,I x.body.num,.i τ (x.body.kids.map (iT τ)),S x.file]:=rfl
@[go_sem] theorem qkK(x:Cl):clE (oCl x)=true:=rfl
@[go_sem] theorem qqm(τ:Bool) (x:Cl):clE (iCl τ x)=true:=rfl
attribute [go_sem] qk3 qmK qhP
@[go_sem] theorem qMI(τ:Bool) (l:List Cl):qU τ (l.map oCl)=l.map (iCl τ):=jS (qk3 τ) l
@[go_sem] theorem qRT(l:List Cl):qJ (l.map oCl)=true:=kd qmK l
@[go_sem] theorem Zs(l:List Cl):qJ (l.map (iCl false))=true:=kd qhP l
@[go_sem] theorem qgZ(l:List Cl):qF (l.map oCl)=true:=jl qkK l
@[go_sem] theorem qQz(m:Nat) (T:Mem) (l:List Cl):qB (zd m) T (l.map oCl)=(l.map oCl,T):=x9 m T _ (qgZ l)
@[go_sem] theorem qUq(k:Key) (ob:Ob) (l:List Cl):zB k ob (l.map oCl)=none:=jB k ob _ (qgZ l)
@[go_sem] theorem qPH(d:Nat) (l:List Cl):qE d (l.map oCl)=l.map oCl:=Zo qkK d l
structure Db where
 clauses:List Cl
 opn:List Str
noncomputable instance:DecidableEq Db:=fun a b=>Classical.propDecidable (a=b)
def bDb(x:Db) (v:V):Prop:= ∃ τ0 vs0 τ1,v= .a [.i τ0 vs0,.i τ1 (x.opn.map S)]∧RL bCl x.clauses vs0
def oDb(x:Db):V:= .a [.o 9 (x.clauses.map oCl),.o 1 (x.opn.map S)]
def iDb(τ:Bool) (x:Db):V:= .a [.i τ (x.clauses.map (iCl τ)),.i τ (x.opn.map S)]
def wDb(x:Db):Prop:=(x.clauses.length≤Lm∧ ∀ y ∈ x.clauses,wCl y)∧(x.opn.length≤Lm∧ ∀ y ∈ x.opn,wS y)
theorem qko(τ:Bool) (x:Db):bDb x (iDb τ x):=⟨τ,_,τ,rfl,K2 (K6 τ) _⟩
theorem qk4(τ:Bool) (x:Db):zg τ (oDb x)=iDb τ x:=by simp only [oDb,iDb,go_sem]
theorem qmL(x:Db):qW (oDb x)=true:=by simp only [oDb,go_sem]
theorem qhQ(x:Db):qW (iDb false x)=true:=by simp only [iDb,go_sem]
@[go_sem] theorem qV8(τ:Bool) (x:Db):zf (iDb τ x)=true:=rfl
@[go_sem] theorem qMx(m:Nat) (T:Mem) (τ:Bool) (x:Db):qA (m+2) T (iDb τ x)=(iDb τ x,T):=rfl
@[go_sem] theorem qMS(τ τ':Bool) (x:Db):zg τ (iDb τ' x)=iDb τ' x:=rfl
@[go_sem] theorem qPX(d:Nat) (τ:Bool) (x:Db):qO d (iDb τ x)=iDb τ x:=rfl
@[go_sem] theorem qNj(τ:Bool) (x:Db):xj (iDb τ x)=[]:=rfl
@[go_sem] theorem qPs(τ:Bool) (x:Db):(iDb τ x).isA=true:=rfl
@[go_sem] theorem qQn(τ:Bool) (x:Db):qZ true 2 (iDb τ x) 0=some (iDb τ x):=rfl
@[go_sem] theorem qLA(τ:Bool) (x:Db):(iDb τ x).cells=[.i τ (x.clauses.map (iCl τ)),.i τ (x.opn.map S)]:=rfl
@[go_sem] theorem qkL(x:Db):clE (oDb x)=true:=rfl
@[go_sem] theorem qLN(τ:Bool) (x:Db):clE (iDb τ x)=true:=rfl
attribute [go_sem] qk4 qmL qhQ
@[go_sem] theorem qMJ(τ:Bool) (l:List Db):qU τ (l.map oDb)=l.map (iDb τ):=jS (qk4 τ) l
@[go_sem] theorem qRU(l:List Db):qJ (l.map oDb)=true:=kd qmL l
@[go_sem] theorem qRY(l:List Db):qJ (l.map (iDb false))=true:=kd qhQ l
@[go_sem] theorem qkS(l:List Db):qF (l.map oDb)=true:=jl qkL l
@[go_sem] theorem qQA(m:Nat) (T:Mem) (l:List Db):qB (zd m) T (l.map oDb)=(l.map oDb,T):=x9 m T _ (qkS l)
@[go_sem] theorem qUr(k:Key) (ob:Ob) (l:List Db):zB k ob (l.map oDb)=none:=jB k ob _ (qkS l)
@[go_sem] theorem qPI(d:Nat) (l:List Db):qE d (l.map oDb)=l.map oDb:=Zo qkL d l
structure Fl where
 name:Str
 text:Str
noncomputable instance:DecidableEq Fl:=fun a b=>Classical.propDecidable (a=b)
def bFl(x:Fl) (v:V):Prop:=v= .a [S x.name,S x.text]
def oFl(x:Fl):V:= .a [S x.name,S x.text]
def iFl(τ:Bool) (x:Fl):V:= .a [S x.name,S x.text]
def wFl(x:Fl):Prop:=wS x.name∧wS x.text
theorem qk5(τ:Bool) (x:Fl):zg τ (oFl x)=iFl τ x:=by simp only [oFl,iFl,go_sem]
theorem qmM(x:Fl):qW (oFl x)=true:=by simp only [oFl,go_sem]
theorem qmI(x:Fl):qW (iFl false x)=true:=by simp only [iFl,go_sem]
@[go_sem] theorem qV9(τ:Bool) (x:Fl):zf (iFl τ x)=true:=rfl
@[go_sem] theorem qMy(m:Nat) (T:Mem) (τ:Bool) (x:Fl):qA (m+2) T (iFl τ x)=(iFl τ x,T):=rfl
@[go_sem] theorem qMT(τ τ':Bool) (x:Fl):zg τ (iFl τ' x)=iFl τ' x:=rfl
@[go_sem] theorem qPY(d:Nat) (τ:Bool) (x:Fl):qO d (iFl τ x)=iFl τ x:=rfl
@[go_sem] theorem qNk(τ:Bool) (x:Fl):xj (iFl τ x)=[]:=rfl
@[go_sem] theorem qPt(τ:Bool) (x:Fl):(iFl τ x).isA=true:=rfl
@[go_sem] theorem qQo(τ:Bool) (x:Fl):qZ true 2 (iFl τ x) 0=some (iFl τ x):=rfl
@[go_sem] theorem qLB(τ:Bool) (x:Fl):(iFl τ x).cells=[S x.name,S x.text]:=rfl
@[go_sem] theorem qkM(x:Fl):clE (oFl x)=true:=rfl
@[go_sem] theorem qLO(τ:Bool) (x:Fl):clE (iFl τ x)=true:=rfl
attribute [go_sem] qk5 qmM qmI
@[go_sem] theorem qMK(τ:Bool) (l:List Fl):qU τ (l.map oFl)=l.map (iFl τ):=jS (qk5 τ) l
@[go_sem] theorem qRV(l:List Fl):qJ (l.map oFl)=true:=kd qmM l
@[go_sem] theorem qRZ(l:List Fl):qJ (l.map (iFl false))=true:=kd qmI l
@[go_sem] theorem qkT(l:List Fl):qF (l.map oFl)=true:=jl qkM l
@[go_sem] theorem qQB(m:Nat) (T:Mem) (l:List Fl):qB (zd m) T (l.map oFl)=(l.map oFl,T):=x9 m T _ (qkT l)
@[go_sem] theorem qUs(k:Key) (ob:Ob) (l:List Fl):zB k ob (l.map oFl)=none:=jB k ob _ (qkT l)
@[go_sem] theorem qPJ(d:Nat) (l:List Fl):qE d (l.map oFl)=l.map oFl:=Zo qkM d l
structure Se where
 files:List Fl
 db:Db
 lines:List Str
 out:Str
noncomputable instance:DecidableEq Se:=fun a b=>Classical.propDecidable (a=b)
def bSe(x:Se) (v:V):Prop:= ∃ τ0 vs0 τ1 vs1 τ2 τ3,v= .a [.i τ0 vs0,.i τ1 vs1,.i τ2 (x.db.opn.map S),.i τ3 (x.lines.map S),S x.out]∧RL bFl x.files vs0∧RL bCl x.db.clauses vs1
def oSe(x:Se):V:= .a [.o 2 (x.files.map oFl),.o 9 (x.db.clauses.map oCl),.o 1 (x.db.opn.map S),.o 1 (x.lines.map S),S x.out]
def iSe(τ:Bool) (x:Se):V:= .a [.i τ (x.files.map (iFl τ)),.i τ (x.db.clauses.map (iCl τ)),.i τ (x.db.opn.map S),.i τ (x.lines.map S),S x.out]
def wSe(x:Se):Prop:=(x.files.length≤Lm∧ ∀ y ∈ x.files,wFl y)∧wDb x.db∧(x.lines.length≤Lm∧ ∀ y ∈ x.lines,wS y)∧wS x.out
theorem qk6(τ:Bool) (x:Se):zg τ (oSe x)=iSe τ x:=by simp only [oSe,iSe,go_sem]
theorem qmN(x:Se):qW (oSe x)=true:=by simp only [oSe,go_sem]
theorem qmJ(x:Se):qW (iSe false x)=true:=by simp only [iSe,go_sem]
@[go_sem] theorem qWa(τ:Bool) (x:Se):zf (iSe τ x)=true:=rfl
@[go_sem] theorem qMz(m:Nat) (T:Mem) (τ:Bool) (x:Se):qA (m+2) T (iSe τ x)=(iSe τ x,T):=rfl
@[go_sem] theorem qMU(τ τ':Bool) (x:Se):zg τ (iSe τ' x)=iSe τ' x:=rfl
@[go_sem] theorem qPZ(d:Nat) (τ:Bool) (x:Se):qO d (iSe τ x)=iSe τ x:=rfl
@[go_sem] theorem qNl(τ:Bool) (x:Se):xj (iSe τ x)=[]:=rfl
@[go_sem] theorem qPu(τ:Bool) (x:Se):(iSe τ x).isA=true:=rfl
@[go_sem] theorem qQp(τ:Bool) (x:Se):qZ true 5 (iSe τ x) 0=some (iSe τ x):=rfl
@[go_sem] theorem qLC(τ:Bool) (x:Se):(iSe τ x).cells=[.i τ (x.files.map (iFl τ)),.i τ (x.db.clauses.map (iCl τ)),.i τ (x.db.opn.map S),.i τ (x.lines.map S),S x.out]:=rfl
@[go_sem] theorem qkN(x:Se):clE (oSe x)=true:=rfl
@[go_sem] theorem qLP(τ:Bool) (x:Se):clE (iSe τ x)=true:=rfl
attribute [go_sem] qk6 qmN qmJ
@[go_sem] theorem qML(τ:Bool) (l:List Se):qU τ (l.map oSe)=l.map (iSe τ):=jS (qk6 τ) l
@[go_sem] theorem qRW(l:List Se):qJ (l.map oSe)=true:=kd qmN l
@[go_sem] theorem qR0(l:List Se):qJ (l.map (iSe false))=true:=kd qmJ l
@[go_sem] theorem qkU(l:List Se):qF (l.map oSe)=true:=jl qkN l
@[go_sem] theorem qQC(m:Nat) (T:Mem) (l:List Se):qB (zd m) T (l.map oSe)=(l.map oSe,T):=x9 m T _ (qkU l)
@[go_sem] theorem qUt(k:Key) (ob:Ob) (l:List Se):zB k ob (l.map oSe)=none:=jB k ob _ (qkU l)
@[go_sem] theorem qPK(d:Nat) (l:List Se):qE d (l.map oSe)=l.map oSe:=Zo qkN d l
end Go.Vm
set_option linter.unusedSectionVars false
namespace Go.Vm
open Go.RowKit (Below)
def xq(P:Program) (e:TypeId) (zs:List V):V:=
 match P.underlying e with
 |some (.struct _)=> .a zs
 |_=>zs.headD .d
mutual
def Shp(P:Program):Nat→TypeId→List V→Prop
 |0,_,_=>False
 |n+1,t,xs=>match P.underlying t with
  |some .bool=> ∃ b,xs=[B b]
  |some (.int k)=> ∃ m,xs=[.v (.int k m)]∧(Lit.int k m).wf=true
  |some .string=> ∃ l,xs=[S l]
  |some (.slice e)=> ∃ ys:List V,xs=[.i false ys]∧ ∀ y ∈ ys,∃ zs,Shp P n e zs∧y=xq P e zs
  |some (.struct fs)=> ∃ parts:List (List V),xs=parts.flatten∧qbu P n (fs.toList.map (·.type)) parts
  |_=>False
def qbu(P:Program):Nat→List TypeId→List (List V)→Prop
 |_,[],[]=>True
 |n,t::ts,p::ps=>Shp P n t p∧qbu P n ts ps
 |_,_,_=>False
end
mutual
def x6:V→Nat
 | .v (.string s)=>s.size+1
 | .i _ xs=>zl xs+1
 | .o _ xs=>zl xs+1
 | .a xs=>zl xs
 |_=>1
def zl:List V→Nat
 |[]=>0
 |x::xs=>x6 x+zl xs
end
theorem qkD: ∀ (xs ys:List V),zl (xs++ys)=zl xs+zl ys
 |[],ys=>by simp [zl]
 |x::xs,ys=>by simp [zl,qkD xs ys,Nat.add_assoc]
mutual
def yu {H:Type}:DataW H→Nat
 | .lit (.string bytes)=>bytes.length+1
 | .lit _=>1
 | .nil=>1
 | .ptr d=>yu d+1
 | .slice elems spare=>kS elems+kS spare+1
 | .agg parts=>kS parts+1
 |_=>1
def kS {H:Type}:List (DataW H)→Nat
 |[]=>0
 |d::r=>yu d+kS r
end
def qeR(P:Program):Nat→List Field→Bool
 |_,[]=>true
 |n,f::fs=>decide (f.offset=n)&&qeR P (n+P.cellsOf f.type) fs
def qbO(P:Program):List Field→Nat
 |[]=>0
 |f::fs=>P.cellsOf f.type+qbO P fs
def Xs(P:Program) (S:List TypeId) (t:TypeId):Bool:=
 match P.underlying t with
 |some .bool|some (.int _)|some .string=>decide (P.cellsOf t=1)
 |some (.slice e)=>decide (P.cellsOf t=1)&&S.contains e&&decide (0 < P.cellsOf e)
 |some (.struct fs)=>qeR P 0 fs.toList&&decide (qbO P fs.toList=P.cellsOf t)&&fs.toList.all fun f=>S.contains f.type
 |_=>false
def kC(w:World):Env:={w,I:=fun _ b=>b < w.heap.size,μ:=fun _=>none}
def yN(P:Program) (t:TypeId):Bool:=match P.underlying t with|some (.struct _)=>true|_=>false
def Yv(P:Program) (t:TypeId) (cs:List Value):Value:=
 match P.underlying t with
 |some (.struct _)=> .agg cs.toArray
 |_=>cs.headD undef
section
variable {H:Type} {enc:TypeId × Value→H} {P:Program} {w:World} {St:List TypeId}
theorem qkJ {a:Addr} {n:Nat} {cs:List Value} (h:w.cells? 0 a n=some cs) (hn:0 < n):
 a.spot=none∧ ∃ cells T fz,w.heap[a.block]? =some (.cells cells T fz)∧cs=seg cells a.off n∧a.off+n≤cells.size∧a.block < w.heap.size:=by
 unfold World.cells? at h
 rw [if_pos (Nat.zero_le _)]at h
 have hl:cs.length=n:=by simpa using mapM_some_length h
 have hg: ∀ i,i < n→w.cell? (a.add i)=cs[i]? :=fun i hi=>mapM_some_get h i i (by simp [hi])
 have h0:=hg 0 hn
 have hc0:cs[0]? =some cs[0]:=List.getElem?_eq_getElem (by omega)
 rw [hc0]at h0
 simp only [Addr.add,if_true,World.cell?]at h0
 split at h0
 case h_2=>cases h0
 rename_i cells T fz hw
 split at h0
 ·cases h0
 rename_i hsp
 have hsp':a.spot=none:=by simpa using hsp
 refine ⟨hsp',cells,T,fz,hw, ?_, ?_,(Array.getElem?_eq_some_iff.1 hw).1⟩
 ·apply List.ext_getElem?
  intro i
  by_cases hi:i < n
  ·have:=hg i hi
   rw [← this]
   have e1:(a.add i).block=a.block∧(a.add i).off=a.off+i∧(a.add i).spot=none:=by
    unfold Addr.add
    split
    ·subst i;exact ⟨rfl,rfl,hsp'⟩
    ·exact ⟨rfl,rfl,rfl⟩
   simp only [World.cell?,e1.1,hw,e1.2.1,e1.2.2]
   simp only [seg,List.getElem?_take,hi,if_true,List.getElem?_drop,Array.getElem?_toList]
   simp
  ·rw [List.getElem?_eq_none (by omega)]
   simp [seg,List.getElem?_take,hi]
 ·have h1:=hg (n - 1) (by omega)
  have e1:(a.add (n - 1)).block=a.block∧(a.add (n - 1)).off=a.off+(n - 1)∧(a.add (n - 1)).spot=none:=by
   unfold Addr.add
   split
   ·rename_i h;rw [h];exact ⟨rfl,rfl,hsp'⟩
   ·exact ⟨rfl,rfl,rfl⟩
  simp only [World.cell?,e1.1,hw,e1.2.1,e1.2.2]at h1
  have hcn:cs[n - 1]? =some cs[n - 1]:=List.getElem?_eq_getElem (by omega)
  rw [hcn]at h1
  have:a.off+(n - 1) < cells.size:=by
   simp only [Option.isSome_none,Bool.false_eq_true,if_false]at h1
   exact (Array.getElem?_eq_some_iff.1 h1).1
  omega
theorem qqS:(kC w).cl=kC w:=rfl
theorem qn2 {t:TypeId} {xs:List V} {cs:List Value} (h:qk (kC w) xs cs c0) (hst:yN P t=true∨(xs.length=1∧yo cs)):
 Rel (kC w) (xq P t xs) (Yv P t cs) c0∧(yo cs→(xq P t xs).cells.length=xs.length∨(xq P t xs).isA=true):=by
 unfold xq Yv
 unfold yN at hst
 split at hst
 ·rename_i fs hu
  refine ⟨?_,fun _=> .inr ?_⟩
  ·simp only [Rel];exact ⟨cs.toArray,rfl,by simpa using h⟩
  ·rfl
 ·rename_i hns
  rcases hst with hst|⟨hst,hon⟩
  ·cases hst
  match xs,hst with
  |[x],_=>
   obtain ⟨y,rfl,hr⟩:=qca h
   refine ⟨by simpa using hr,fun _=> ?_⟩
   by_cases hx:(V.isA x)=true
   ·exact .inr (by simpa using hx)
   ·left
    cases x<;>first|rfl|exact absurd rfl hx
def Rd(P:Program) (w:World) (H:Type) (enc:TypeId × Value→H) (n:Nat) (t:TypeId) (cs:List Value) (d:DataW H):Prop:=
 ∃ xs,qk (kC w) xs cs c0∧Shp P n t xs∧zl xs≤yu d∧cs.length=P.cellsOf t∧yo cs∧(yN P t=false→ ∃ x,xs=[x]∧x.isA=false)
theorem qvS(s:ByteArray):yo [Value.string s]:=by intro z hz;simp at hz;subst hz;rfl
theorem qpR(s:ByteArray):V.v (.string s)=S s.data.toList:=by simp [S]
theorem qlf {n:Nat} (IH: ∀ t cs d ps,t ∈ St→DataW.trod enc P w 0 (fun _=>true) true n t cs=some (d,ps)→Rd P w H enc n t cs d) (cs:List Value):
 ∀ (fs:List Field) (off:Nat) (xs:List (DataW H × List MemPlace)),qeR P off fs=true→off+qbO P fs=cs.length→(fs.all fun f=>St.contains f.type)=true→
  xs.length=fs.length→(∀ (i:Nat) (f:Field),fs[i]? =some f→DataW.trod enc P w 0 (fun _=>true) true n f.type ((cs.drop f.offset).take (P.cellsOf f.type))=xs[i]?)→
  ∃ parts,qk (kC w) parts.flatten (cs.drop off) c0∧qbu P n (fs.map (·.type)) parts∧zl parts.flatten≤kS (xs.map (·.1))∧yo (cs.drop off)
 |[],off,xs,_,hs,_,hl,_=>by
  have:xs=[]:=by simpa using hl
  subst this
  have hd:cs.drop off=[]:=List.drop_eq_nil_of_le (by simp only [qbO]at hs;omega)
  rw [hd]
  exact ⟨[],by simp [qk],by simp [qbu],by simp [zl],by intro z hz;cases hz⟩
 |f::fs,off,[],_,_,_,hl,_=>by simp at hl
 |f::fs,off,x::xs,ho,hs,ha,hl,hg=>by
  simp only [qeR,Bool.and_eq_true,decide_eq_true_eq]at ho
  simp only [List.all_cons,Bool.and_eq_true]at ha
  simp only [qbO]at hs
  have h0:=hg 0 f rfl
  rw [ho.1]at h0
  simp only [List.getElem?_cons_zero]at h0
  obtain ⟨ys,hr,hsh,hb,hlen,hon,-⟩:=IH f.type _ x.1 x.2 (by simpa using ha.1) h0
  obtain ⟨parts,hr',hsh',hb',hon'⟩:=qlf IH cs fs (off+P.cellsOf f.type) xs ho.2 (by omega) ha.2 (by simpa using hl) (fun i f' hf'=>by simpa using hg (i+1) f' (by simpa using hf'))
  have hsplit:cs.drop off=(cs.drop off).take (P.cellsOf f.type)++cs.drop (off+P.cellsOf f.type):=by
   rw [← List.drop_drop,List.take_append_drop]
  refine ⟨ys::parts, ?_, ?_, ?_, ?_⟩
  ·rw [hsplit,List.flatten_cons]
   have:=jw hr hr'
   rwa [K9]at this
  ·simp only [List.map_cons,qbu];exact ⟨hsh,hsh'⟩
  ·simp only [List.flatten_cons,qkD,List.map_cons,kS];omega
  ·rw [hsplit]
   intro z hz
   rcases List.mem_append.1 hz with h|h
   ·exact hon z h
   ·exact hon' z h
theorem qlb {n e:Nat} (he:e ∈ St) (hpos:0 < P.cellsOf e) (IH: ∀ t cs d ps,t ∈ St→DataW.trod enc P w 0 (fun _=>true) true n t cs=some (d,ps)→Rd P w H enc n t cs d)
 (a:Addr) (cells:Array Value):
 ∀ (elems:List (DataW H × List MemPlace)) (off:Nat),(∀ i,i < elems.length→((w.cells? 0 ⟨a.block,a.off+(off+i)*P.cellsOf e,none⟩ (P.cellsOf e)).bind (DataW.trod enc P w 0 (fun _=>true) true n e))=elems[i]?)→
  (∃ T fz,w.heap[a.block]? =some (.cells cells T fz))→
  ∃ ys,ys.length=elems.length∧ql (kC w) (P.cellsOf e) ys (seg cells (a.off+off*P.cellsOf e) (elems.length*P.cellsOf e)) c0∧(∀ y ∈ ys,∃ zs,Shp P n e zs∧y=xq P e zs)∧zl ys≤kS (elems.map (·.1))
 |[],off,_,_=>⟨[],rfl,by simp [ql,seg],by simp,by simp [zl]⟩
 |x::elems,off,hg,hw=>by
  have h0:=hg 0 (by simp)
  simp only [Nat.add_zero,List.getElem?_cons_zero,Option.bind_eq_some_iff]at h0
  obtain ⟨cs,hcs,hx⟩:=h0
  obtain ⟨xs,hr,hsh,hb,hlen,hon,hns⟩:=IH e cs x.1 x.2 he hx
  obtain ⟨ys,hyl,hyr,hys,hyb⟩:=qlb he hpos IH a cells elems (off+1) (fun i hi=>by
   have:=hg (i+1) (by simp;omega)
   rw [show off+1+i=off+(i+1)by omega];simpa using this) hw
  obtain ⟨T,fz,hw'⟩:=hw
  obtain ⟨-,cells',T',fz',hw'',hseg,hle,-⟩:=qkJ hcs hpos
  simp only [hw']at hw''
  obtain ⟨rfl,rfl,rfl⟩:cells=cells'∧T=T'∧fz=fz':=by simpa using hw''
  have hst:yN P e=true∨(xs.length=1∧yo cs):=by
   cases hi:yN P e
   ·obtain ⟨x',hx',-⟩:=hns hi;exact .inr ⟨by simp [hx'],hon⟩
   ·exact .inl rfl
  have hrel:=(qn2 (P:=P) (t:=e) hr hst).1
  have hlx:=xz hr
  have hval:(Yv P e cs).cells.toList=cs∧(xq P e xs).cells.length=P.cellsOf e∧x6 (xq P e xs)≤zl xs:=by
   unfold Yv xq
   cases hi:yN P e
   ·obtain ⟨x',rfl,hxa⟩:=hns hi
    obtain ⟨y,rfl,hr1⟩:=qca hr
    have hy:y.oneCell=true:=hon y (by simp)
    unfold yN at hi
    split at hi
    ·cases hi
    ·rename_i hq
     refine ⟨?_, ?_, ?_⟩
     ·simp only [List.headD_cons];cases y<;>first|rfl|(simp [Value.oneCell]at hy)
     ·simp only [List.headD_cons];rw [← hlen,List.length_singleton];cases x'<;>first|rfl|(simp [V.isA]at hxa)
     ·simp [zl]
   ·unfold yN at hi
    split at hi
    ·refine ⟨by simp [Value.cells], ?_, ?_⟩
     ·simp only [V.cells];omega
     ·simp [x6]
    ·cases hi
  refine ⟨xq P e xs::ys,by simp [hyl], ?_, ?_, ?_⟩
  ·simp only [ql]
   refine ⟨Yv P e cs,seg cells (a.off+(off+1)*P.cellsOf e) (elems.length*P.cellsOf e),c0,c0, ?_, ?_,hval.2.1, ?_,hrel,hyr,rfl⟩
   ·rw [hval.1,hseg]
    simp only [seg,List.length_cons]
    have e1:(elems.length+1)*P.cellsOf e=P.cellsOf e+elems.length*P.cellsOf e:=by rw [Nat.add_mul];omega
    have e2:a.off+(off+1)*P.cellsOf e=a.off+off*P.cellsOf e+P.cellsOf e:=by rw [Nat.add_mul];omega
    rw [e1,List.take_add,e2,List.drop_drop]
   ·have hq:(Yv P e cs).cells.size=cs.length:=by rw [← Array.length_toList,hval.1]
    rw [hq,hlen]
   ·rw [hval.1];exact hon
  ·intro y hy
   rcases List.mem_cons.1 hy with rfl|hy
   ·exact ⟨xs,hsh,rfl⟩
   ·exact hys y hy
  ·simp only [zl,List.map_cons,kS];have:=hval.2.2;omega
theorem qo1(hS: ∀ t ∈ St,Xs P St t=true): ∀ (n:Nat) (t:TypeId) (cs:List Value) (d:DataW H) (ps:List MemPlace),t ∈ St→
 DataW.trod enc P w 0 (fun _=>true) true n t cs=some (d,ps)→Rd P w H enc n t cs d
 |0,t,cs,d,ps,_,h=>by simp [DataW.trod]at h
 |n+1,t,cs,d,ps,ht,h=>by
  have IH:=qo1 hS n
  have hok:=hS t ht
  unfold Xs at hok
  split at hok
  ·rename_i hu
   obtain ⟨b,rfl,hx⟩:=DataW.trod_bool hu h
   refine ⟨[B b], ?_, ?_, ?_, ?_, ?_,fun _=>⟨_,rfl,rfl⟩⟩
   ·exact yP (by simp [B,Rel,yD])
   ·simp only [Shp,hu];exact ⟨b,rfl⟩
   ·simp only [Prod.mk.injEq]at hx;rw [hx.1];simp [zl,x6,B,yu]
   ·simpa using (of_decide_eq_true hok).symm
   ·intro z hz;simp at hz;subst hz;rfl
  ·rename_i k hu
   obtain ⟨m,rfl,hx,hwf⟩:=DataW.trod_int hu h
   refine ⟨[.v (.int k m)], ?_, ?_, ?_, ?_, ?_,fun _=>⟨_,rfl,rfl⟩⟩
   ·exact yP (by simp [Rel,yD])
   ·simp only [Shp,hu];exact ⟨m,rfl,hwf⟩
   ·simp only [Prod.mk.injEq]at hx;rw [hx.1];simp [zl,x6,yu]
   ·simpa using (of_decide_eq_true hok).symm
   ·intro z hz;simp at hz;subst hz;rfl
  ·rename_i hu
   obtain ⟨s,rfl,hx,-⟩:=DataW.trod_string hu h
   refine ⟨[.v (.string s)], ?_, ?_, ?_, ?_, ?_,fun _=>⟨_,rfl,rfl⟩⟩
   ·exact yP (by simp [Rel,yD])
   ·simp only [Shp,hu];exact ⟨s.data.toList,by rw [qpR]⟩
   ·simp only [Prod.mk.injEq]at hx;rw [hx.1];show s.data.size+1+0≤s.data.toList.length+1;simp
   ·simpa using (of_decide_eq_true hok).symm
   ·exact qvS s
  ·rename_i e hu
   simp only [Bool.and_eq_true,decide_eq_true_eq,List.contains_iff_mem]at hok
   obtain ⟨⟨hc1,heS⟩,hpos⟩:=hok
   rcases DataW.trod_slice hu h with ⟨rfl,hx⟩|⟨a,len,cap,elems,rest,m,hm,rfl,hx,-,hle,-,hel,hg,-,-⟩
   ·refine ⟨[.i false []], ?_, ?_, ?_, ?_, ?_,fun _=>⟨_,rfl,rfl⟩⟩
    ·exact yP (by simp only [Rel];exact ⟨by trivial,none,0,rfl,Nat.le_refl _,.inl trivial⟩)
    ·simp only [Shp,hu];exact ⟨[],rfl,by simp⟩
    ·simp only [Prod.mk.injEq]at hx;rw [hx.1];simp [zl,x6,yu]
    ·simpa using hc1.symm
    ·intro z hz;simp at hz;subst hz;rfl
   ·have hmn:m=n:=by omega
    subst hmn
    by_cases hz:len=0
    ·subst hz
     refine ⟨[.i false []], ?_, ?_, ?_, ?_, ?_,fun _=>⟨_,rfl,rfl⟩⟩
     ·exact yP (by simp only [Rel];exact ⟨by trivial,some a,cap,rfl,Nat.zero_le _,.inl trivial⟩)
     ·simp only [Shp,hu];exact ⟨[],rfl,by simp⟩
     ·simp only [Prod.mk.injEq]at hx;rw [hx.1];simp [zl,x6,yu]
     ·simpa using hc1.symm
     ·intro z hz;simp at hz;subst hz;rfl
    ·have h0:=hg 0 (by omega)
     have he0:elems[0]? =some elems[0]:=List.getElem?_eq_getElem (by omega)
     rw [he0,Option.bind_eq_some_iff]at h0
     obtain ⟨cs0,hcs0,-⟩:=h0
     have ha0:a.add (0*P.cellsOf e)=a:=by simp [Addr.add]
     rw [ha0]at hcs0
     obtain ⟨hsp,cells,T,fz,hw,-,-,hlt⟩:=qkJ hcs0 hpos
     have ha:a=⟨a.block,a.off,none⟩:=by obtain ⟨b,o,s⟩:=a;simp only at hsp;subst hsp;rfl
     obtain ⟨ys,hyl,hyr,hys,hyb⟩:=qlb heS hpos IH a cells elems 0 (fun i hi=>by
      have:=hg i (by omega)
      rw [← this]
      congr 2
      rw [Nat.zero_add]
      unfold Addr.add
      split
      ·rename_i hq;rw [hq,Nat.add_zero];exact ha.symm
      ·rfl) ⟨T,fz,hw⟩
     simp only [Nat.zero_mul,Nat.add_zero]at hyr
     refine ⟨[.i false ys], ?_, ?_, ?_, ?_, ?_,fun _=>⟨_,rfl,rfl⟩⟩
     ·refine yP ?_
      simp only [Rel]
      refine ⟨by trivial,some a,cap,by rw [hyl,hel],by omega,.inr ⟨a.block,a.off,P.cellsOf e,cells,T,fz,by rw [← ha],hlt,hw, ?_⟩⟩
      rw [hyl];exact hyr
     ·simp only [Shp,hu];exact ⟨ys,rfl,hys⟩
     ·simp only [Prod.mk.injEq]at hx;rw [hx.1];simp only [zl,x6,yu];omega
     ·simpa using hc1.symm
     ·intro z hz;simp at hz;subst hz;rfl
  ·rename_i fs hu
   simp only [Bool.and_eq_true,decide_eq_true_eq]at hok
   obtain ⟨xs,m,hm,hx,hlen,hxl,hg⟩:=DataW.trod_struct hu h
   have hmn:m=n:=by omega
   subst hmn
   obtain ⟨parts,h1,h2,h3,h4⟩:=qlf IH cs fs.toList 0 xs hok.1.1 (by rw [hlen, ← hok.1.2];omega) hok.2 (by simpa using hxl) (fun i f hf=>hg i f (by simpa using hf))
   refine ⟨parts.flatten,by simpa using h1, ?_, ?_,hlen,by simpa using h4,fun hi=> ?_⟩
   ·simp only [Shp,hu];exact ⟨parts,rfl,h2⟩
   ·simp only [Prod.mk.injEq]at hx;rw [hx.1];simp only [yu];omega
   ·unfold yN at hi;rw [hu]at hi;cases hi
  ·cases hok
theorem qxW {f:Func} {s:ChangeSpec} {apart kD handsOn:Bool} {W W':World} {args:Array Value} {v:Value} {ds gs:List (DataW H)} {before pa pv:List MemPlace}
 (hW:DataW.Whole enc P f.params.toList s.vars apart W args.toList ds gs before)
 (hres: ∀ (b:Nat) (sp:Nat→Bool) (hd:Bool),DataW.TrodAll enc P W' b sp hd f.resultTypes.toList (v.resultList f.resultTypes.size) (s.fn H (ds++gs)).results [])
 (hargs: ∀ sp:Nat→Bool,(∀ p ∈ before,sp p.block=true)→DataW.TrodAll enc P W' 0 sp true f.params.toList args.toList (s.fn H (ds++gs)).args pa)
 (hvars: ∀ sp:Nat→Bool,(∀ p ∈ before,sp p.block=true)→DataW.TrodVars enc P W' sp s.vars (s.fn H (ds++gs)).vars pv)
 (hps:before=pa++pv) (hk:W.keptBut W' (· ∈ before)):
 s.post enc P f apart kD handsOn false W args v W':=by
 have zr: ∀ p ∈ before,(fun b=>decide (b < W.heap.size)) p.block=true:=fun p hp=>by simpa using hW.lt p hp
 refine ⟨ds,gs,before,[],pa,pv,hW,hres _ _ _,hargs _ zr,hvars _ zr,World.keptBut_mono (fun p hp=>⟨hp, ?_⟩) hk,fun h=>by cases h⟩
 rw [hps,List.mem_append]at hp
 exact Or.inr hp
theorem qp7 {W W':World} (h:Below W.heap.size W W') (may:MemPlace→Prop):W.keptBut W' may:=by
 refine ⟨h.os,h.output,fun i hi=> ?_⟩
 rw [h.block i hi]
 have hx:W.heap[i]? =some W.heap[i]:=Array.getElem?_eq_getElem hi
 rw [hx]
 cases W.heap[i]with
 |cells c t fr=>exact ⟨rfl,rfl,rfl,fun _ _=>rfl⟩
 |map es clock=>exact .inr ⟨rfl,rfl⟩
 |_=>first|rfl|trivial
theorem qo0(hl:laidOutB P=true) {W W':World} (hb:Below W.heap.size W W'): ∀ {ts:List TypeId} {vs:List Value} {ds:List (DataW H)} {ps:List MemPlace},(ts.all fun t=>P.readableRec t&&decide (t < P.types.size))=true→
 DataW.TrodAll enc P W 0 (fun _=>true) true ts vs ds ps→(∀ p ∈ ps,p.block < W.heap.size)→ ∀ sp:Nat→Bool,(∀ p ∈ ps,sp p.block=true)→DataW.TrodAll enc P W' 0 sp true ts vs ds ps
 |[],[],[],ps,_,h,_,_,_=>h
 |t::ts,v::vs,d::ds,ps,hr,h,hlt,sp,hsp=>by
  simp only [List.all_cons,Bool.and_eq_true,decide_eq_true_eq]at hr
  obtain ⟨p,q,h1,h2,rfl⟩:=h
  refine ⟨p,q, ?_, ?_,rfl⟩
  ·exact WideElems.Trod_stays hl hr.1.1 hr.1.2 h1 (fun x hx=>hb.same (hlt x (List.mem_append_left _ hx))) (fun x hx=>hsp x (List.mem_append_left _ hx))
  ·exact qo0 hl hb hr.2 h2 (fun x hx=>hlt x (List.mem_append_right _ hx)) sp (fun x hx=>hsp x (List.mem_append_right _ hx))
 |[],_::_,_,_,_,h,_,_,_=>h.elim
 |[],[],_::_,_,_,h,_,_,_=>h.elim
 |_::_,[],_,_,_,h,_,_,_=>h.elim
 |_::_,_::_,[],_,_,h,_,_,_=>h.elim
section
variable [Lay]
def qer(w:World):Prop:=(∀ b,Lay.B b→b < w.heap.size)∧Lay.L w
theorem qq3(w:World) (h:qer w):Good (kC w) c0:=⟨fun _=>Nat.zero_le _,fun _ _ h=>⟨rfl,h⟩,fun _ h=>h,fun _ h=>absurd rfl h,⟨fun b hb=>h.1 b hb,h.2⟩⟩
theorem qvs {prog:Nat→Option AE} (hK:kM P prog) {f:FuncId} {xs:List V} {vs:List Value} {outs:List V} {fn:Func} (hfn:P.funcs[f]? =some fn) (hb:fn.body.isSome=true) (hn:(fn.name== "runtime.NumGoroutine")=false)
 (h:cw prog f xs=some (B true,outs)) (hr:qk (kC w) xs vs c0) (hL:qer w):
 Calls P f vs.toArray w fun e w'=>e= .returned (.bool true)∧Below w.heap.size w w':=by
 obtain ⟨n,hn'⟩:=Jd.1 h
 have hc:=qka hK n f xs (B true) outs hn' (kC w) vs c0 (by rw [qqS];exact hr) (qq3 w hL)
 obtain ⟨code,hcode⟩:=Option.isSome_iff_exists.1 hb
 have hne:fn.name ≠ "runtime.NumGoroutine" :=by simpa using hn
 have hcf:(callFunc f vs.toArray).run P w= .ok (.enter f vs.toArray) w:=by
  simp [callFunc,hfn,hne,hcode]
 rw [show (kC w).w=w from rfl,hcf]at hc
 refine hc.2.mono ?_
 rintro e w' ⟨y,rfl,E',cr,co,rfl,hy,-,-,hA⟩
 refine ⟨?_,hA.os,hA.tape,hA.output,hA.size,fun b hb=>hA.frame b hb rfl⟩
 simp only [B,Rel]at hy
 rw [hy.1]
theorem qvQ {base:Nat} {t:TypeId} {v:Value} (hok:Xs P St t=true) (h:Value.okWide P w .any base t v):
 (yN P t=true→ ∃ cs,v= .agg cs)∧(yN P t=false→v.cells.toList=[v]):=by
 unfold Xs at hok
 unfold Value.okWide at h
 unfold yN
 cases hu:P.underlying t with
 |none=>rw [hu]at hok;cases hok
 |some u=>
  rw [hu]at hok
  simp only [hu]at h ⊢
  cases u<;>first|cases hok|skip
  all_goals first
   |(obtain ⟨cs,rfl,-⟩:=h;exact ⟨fun _=>⟨cs,rfl⟩,fun h=>(by cases h)⟩)
   |skip
  all_goals refine ⟨fun h=>(by cases h),fun _=> ?_⟩
  all_goals cases v<;>first|rfl|skip
  all_goals exfalso;unfold Cell.okWide at h;rw [hu]at h;simp only at h;unfold Cell.ok at h;rw [hu]at h;exact h
theorem qp4(hS: ∀ t ∈ St,Xs P St t=true) {base:Nat} {t:TypeId} {v:Value} {d:DataW H} {ps:List MemPlace} (ht:t ∈ St) (hv:Value.okWide P w .any base t v) (h:DataW.Trod enc P w 0 (fun _=>true) true t v d ps):
 ∃ n xs,Rel (kC w) (xq P t xs) v c0∧Shp P n t xs∧zl xs≤yu d:=by
 obtain ⟨n,h⟩:=h
 obtain ⟨xs,hr,hsh,hb,hlen,hon,hx⟩:=qo1 hS n t v.cells.toList d ps ht h
 refine ⟨n,xs, ?_,hsh,hb⟩
 have hst:yN P t=true∨(xs.length=1∧yo v.cells.toList):=by
  cases hi:yN P t
  ·obtain ⟨x',hx',-⟩:=hx hi;exact .inr ⟨by simp [hx'],hon⟩
  ·exact .inl rfl
 have h1:=(qn2 (P:=P) (t:=t) hr hst).1
 have hl:=qvQ (hS t ht) hv
 have:Yv P t v.cells.toList=v:=by
  unfold Yv
  unfold yN at hl
  split
  ·rename_i fs hu
   simp only [hu]at hl
   obtain ⟨cs,rfl⟩:=hl.1 trivial
   simp [Value.cells]
  ·rename_i hq
   have h2:v.cells.toList=[v]:=hl.2 (by
    split
    ·rename_i fs hu;exact absurd hu (hq fs)
    ·rfl)
   rw [h2];rfl
 rwa [this]at h1
theorem qvt {prog:Nat→Option AE} (hK:kM P prog) (hl:laidOutB P=true) {f:FuncId} {fn:Func} (hfn:P.funcs[f]? =some fn) (hb:fn.body.isSome=true) (hn:(fn.name== "runtime.NumGoroutine")=false)
 {tb:TypeId} (hres:fn.resultTypes= #[tb]) (htb:P.underlying tb=some .bool) (hread:(fn.params.toList.all fun t=>P.readableRec t&&decide (t < P.types.size))=true)
 {s:ChangeSpec} (hvars:s.vars=[]) {apart kD handsOn:Bool} {W:World} {args:Array Value} {ds gs:List (DataW H)} {before:List MemPlace}
 (hW:DataW.Whole enc P fn.params.toList s.vars apart W args.toList ds gs before) (hspec:gs=[]→s.fn H (ds++gs)={results:=[.lit (.bool true)],args:=ds})
 (hL:qer W) (hH: ∃ xs outs,qk (kC W) xs args.toList c0∧cw prog f xs=some (B true,outs)):
 Calls P f args W fun e W'=> ∃ v,e= .returned v∧s.post enc P fn apart kD handsOn false W args v W':=by
 obtain ⟨xs,outs,hr,hc⟩:=hH
 have hlt:=hW.lt
 have hW':=hW
 obtain ⟨p,q,hA,hV,rfl,hfz,hnd⟩:=hW
 rw [hvars]at hV
 obtain ⟨rfl,rfl⟩:gs=[]∧q=[]:=by
  cases gs with
  |nil=>exact ⟨rfl,hV⟩
  |cons=>exact hV.elim
 have hsp:=hspec rfl
 have hcall:=qvs hK hfn hb hn hc hr hL
 rw [Array.toArray_toList]at hcall
 refine hcall.mono ?_
 rintro e W' ⟨rfl,hbel⟩
 refine ⟨_,rfl,qxW (pa:=p) (pv:=[]) hW' ?_ ?_ ?_ rfl (qp7 hbel _)⟩
 ·intro b sp hd
  rw [hsp,hres]
  exact ChangeShapes.trodAll_mk1 (RowKit.shut_bool htb true)
 ·intro sp hsp'
  rw [hsp]
  exact qo0 hl hbel hread hA (fun x hx=>hlt x (by simpa using hx)) sp (fun x hx=>hsp' x (by simpa using hx))
 ·intro sp _
  rw [hsp,hvars]
  rfl
end
theorem qzu {n:Nat} {t e:TypeId} {xs:List V} (hu:P.underlying t=some (.slice e)) (h:Shp P n t xs): ∃ m ys,n=m+1∧xs=[.i false ys]∧ ∀ y ∈ ys,∃ zs,Shp P m e zs∧y=xq P e zs:=by
 cases n with
 |zero=>simp [Shp]at h
 |succ n=>simp only [Shp,hu]at h;obtain ⟨ys,h1,h2⟩:=h;exact ⟨n,ys,rfl,h1,h2⟩
theorem qAu {e:TypeId} {k:IntKind} {z:V} (hu:P.underlying e=some (.int k)):xq P e [z]=z:=by simp [xq,hu]
theorem qkG: ∀ {ys:List V} {y:V},y ∈ ys→x6 y≤zl ys
 |x::xs,y,h=>by
  simp only [zl]
  rcases List.mem_cons.1 h with rfl|h
  ·omega
  ·have:=qkG h;omega
theorem qkF: ∀ {ys:List V},(∀ y ∈ ys,1≤x6 y)→ys.length≤zl ys
 |[],_=>Nat.zero_le _
 |x::xs,h=>by
  simp only [zl,List.length_cons]
  have:=qkF (ys:=xs) fun y hy=>h y (by simp [hy])
  have:=h x (by simp)
  omega
theorem qoe {α:Type} {R:α→V→Prop} {W:α→Prop}: ∀ {ys:List V},(∀ y ∈ ys,∃ t,R t y∧W t)→ ∃ ts,RL R ts ys∧ ∀ t ∈ ts,W t
 |[],_=>⟨[],rfl,by simp⟩
 |y::ys,h=>by
  obtain ⟨t,h1,h2⟩:=h y (by simp)
  obtain ⟨ts,h3,h4⟩:=qoe (ys:=ys) fun z hz=>h z (by simp [hz])
  refine ⟨t::ts,by simp only [RL];exact ⟨y,ys,rfl,h1,h3⟩,fun u hu=> ?_⟩
  rcases List.mem_cons.1 hu with rfl|hu
  ·exact h2
  ·exact h4 u hu
structure TyTerm (P:Program) (tT tS ti ts:TypeId):Prop where
 hT: ∃ fs,P.underlying tT=some (.struct fs)∧fs.toList.map (·.type)=[ti,ts,ti,tS]
 hS:P.underlying tS=some (.slice tT)
 hi:P.underlying ti=some (.int .i64)
 hs:P.underlying ts=some .string
def RdC(P:Program) (t:TypeId) {α:Type} (Rc:α→List V→Prop) (W:α→Prop):Prop:=
 ∀ n xs,Shp P n t xs→zl xs≤Lm→1≤zl xs∧ ∃ x,Rc x xs∧W x
def cI(n:Int) (xs:List V):Prop:=xs=[I n]
def cB(b:Bool) (xs:List V):Prop:=xs=[B b]
def cS(s:Str) (xs:List V):Prop:=xs=[S s]
def cA {α:Type} (R:α→V→Prop) (x:α) (xs:List V):Prop:=R x (.a xs)
def cL {α:Type} (R:α→V→Prop) (l:List α) (xs:List V):Prop:= ∃ vs,xs=[.i false vs]∧RL R l vs
def wL {α:Type} (W:α→Prop) (l:List α):Prop:=l.length≤Lm∧ ∀ x ∈ l,W x
theorem qgV {e:TypeId}: ∀ (zs:List V),(yN P e=false→ ∃ z,zs=[z])→x6 (xq P e zs)=zl zs:=by
 intro zs hz
 unfold xq
 unfold yN at hz
 split
 ·simp [x6]
 ·rename_i hq
  obtain ⟨z,rfl⟩:=hz (by split;(rename_i fs hu;exact absurd hu (hq fs));rfl)
  simp [zl]
theorem qye {α:Type} {Rc:α→List V→Prop} {R:α→V→Prop} {W:α→Prop} {tl te:TypeId} (hu:P.underlying tl=some (.slice te)) (he:RdC P te Rc W) (hw: ∀ x zs,Rc x zs→R x (xq P te zs)∧(yN P te=false→ ∃ z,zs=[z])):
 RdC P tl (cL R) (wL W):=fun n xs h hb=>by
 obtain ⟨m,ys,rfl,rfl,hys⟩:=qzu hu h
 have e3:zl [V.i false ys]=zl ys+1:=by simp [x6,zl]
 rw [e3]at hb ⊢
 have hall: ∀ y ∈ ys,1≤x6 y∧ ∃ t,R t y∧W t:=by
  intro y hy
  obtain ⟨zs,hz,rfl⟩:=hys y hy
  have hle:=qkG hy
  obtain ⟨x0,hx0⟩: ∃ x,Rc x zs∧W x∧1≤zl zs:=by
   by_cases hbz:zl zs≤Lm
   ·obtain ⟨h1,x,h2,h3⟩:=he m zs hz hbz;exact ⟨x,h2,h3,h1⟩
   ·exfalso
    apply hbz
    cases hst:yN P te
    ·have: ∃ z,zs=[z]:=by
      unfold yN at hst
      cases m with
      |zero=>simp [Shp]at hz
      |succ m=>
       simp only [Shp]at hz
       split at hz
       ·obtain ⟨b,rfl⟩:=hz;exact ⟨_,rfl⟩
       ·obtain ⟨b,rfl,-⟩:=hz;exact ⟨_,rfl⟩
       ·obtain ⟨b,rfl⟩:=hz;exact ⟨_,rfl⟩
       ·obtain ⟨b,rfl,-⟩:=hz;exact ⟨_,rfl⟩
       ·rename_i fs hu';rw [hu']at hst;cases hst
       ·exact hz.elim
     have:=qgV (P:=P) (e:=te) zs (fun _=>this)
     omega
    ·have:=qgV (P:=P) (e:=te) zs (fun h=>by rw [hst]at h;cases h)
     omega
  obtain ⟨h1,h2⟩:=hw x0 zs hx0.1
  rw [qgV zs h2]
  exact ⟨hx0.2.2,x0,h1,hx0.2.1⟩
 obtain ⟨us,hr,hws⟩:=qoe (R:=R) (W:=W) fun y hy=>(hall y hy).2
 have hlen:=qkF fun y hy=>(hall y hy).1
 have hl:=zk hr
 exact ⟨by omega,us,⟨ys,rfl,hr⟩,by omega,hws⟩
end
end Go.Vm
namespace Go.Vm
section
variable [Lay] {P:Program} {E:Env} {c:Cnt} {w':World}
structure Adds (w w':World):Prop where
 os:w'.os=w.os
 tape:w'.tape=w.tape
 output:w'.output=w.output
 size:w.heap.size≤w'.heap.size
 old: ∀ b,b < w.heap.size→w'.heap[b]? =w.heap[b]?
theorem Adds.refl(w:World):Adds w w:=⟨rfl,rfl,rfl,Nat.le_refl _,fun _ _=>rfl⟩
theorem qp0(w:World) (k:Nat) (os:Array Obj):Adds w (Sort.grow (w.drewN k) os):=
 ⟨rfl,rfl,rfl,by show w.heap.size≤(w.heap++os).size;simp,fun b hb=>by show (w.heap++os)[b]? =_;rw [Array.getElem?_append_left hb]⟩
theorem Adds.adv(h:Adds E.w w') (hg:Good E c):Mono E {E with w:=w'} c∧Good {E with w:=w'} c∧Adv E c {E with w:=w'} c:=by
 refine ⟨⟨fun τ b hb=>⟨hb,h.old b (hg.imm τ b hb).2⟩,fun b hb=>h.old b (hg.bnd b hb),fun k l h=>h⟩,
  ⟨hg.one,fun τ b hb=>⟨(hg.imm τ b hb).1,Nat.lt_of_lt_of_le (hg.imm τ b hb).2 h.size⟩,hg.sub,fun b hb=>Nat.lt_of_lt_of_le (hg.bnd b hb) h.size,hg.lay.next (fun b hb=>hb) (fun b hb=>h.old b (hg.imm false b hb).2)⟩,
  ⟨fun b n hn=>by rw [qbE (h.old b (qeD hn))];exact hn,h.os,h.tape,h.output,h.size,fun b hb _=>h.old b hb,fun _ _ h=>h,fun b hb=> .inl hb,fun τ b hb=> .inl hb⟩⟩
theorem qeZ {f:Nat} {fn:Func} {xs:List V} {r:V} {x:Value} (hfn:P.funcs[f]? =some fn) (hb:fn.body.isSome=true) (hn:(fn.name== "runtime.NumGoroutine")=false) (hr:r= .v x) (hx:yD x=false)
 (h: ∀ (E:Env) (vs:List Value),qk E.cl xs vs c0→Lay.L E.w→Calls P f vs.toArray E.w fun e w'=>e= .returned x∧Adds E.w w') (hz: ∀ (E:Env) vs c,qk E.cl xs vs c→c=c0):
 Q9 P f xs r xs:=by
 intro E vs c hxs hg
 have h0:=hz E vs c hxs
 subst h0
 obtain ⟨code,hcode⟩:=Option.isSome_iff_exists.1 hb
 have hne:fn.name ≠ "runtime.NumGoroutine" :=by simpa using hn
 have hcf:(callFunc f vs.toArray).run P E.w= .ok (.enter f vs.toArray) E.w:=by
  simp [callFunc,hfn,hne,hcode]
 rw [hcf]
 refine ⟨rfl,(h E vs hxs hg.lay.ll).mono ?_⟩
 rintro e w' ⟨rfl,ha⟩
 obtain ⟨hm,hg',hA⟩:=ha.adv hg
 refine ⟨x,rfl,{E with w:=w'},c0,c0,rfl, ?_,xA hxs (hm.cl), ?_, ?_⟩
 ·subst hr;simp [Rel,hx]
 ·rw [K9];exact hg'
 ·rw [K9];exact hA
end
def Xk:List V→Option (V × List V)
 |[.v (.int .i64 n)]=>if -9223372036854775808≤n∧n≤9223372036854775807 then some (S (Lib.itoa n),[I n])else none
 |_=>none
theorem qg8 {prog:Nat→Option AE} {f:Nat} {g:List V→Option (V × List V)} (h:prog f=some (.prim g)) (xs:List V):cw prog f xs=g xs:=by
 apply jo
 intro r
 rw [Jd]
 constructor
 ·rintro ⟨n,hn⟩
  cases n with
  |zero=>simp [zq]at hn
  |succ n=>simpa only [zq,h]using hn
 ·intro hr
  exact ⟨1,by simpa only [zq,h]using hr⟩
theorem qqB {prog:Nat→Option AE} {f:Nat} (h:prog f=some (.prim Xk)) (n:Int) (h0: -9223372036854775808≤n) (h1:n≤9223372036854775807):cr prog f [I n]=some (S (Lib.itoa n)):=by
 unfold cr
 rw [qg8 h]
 show (Xk [.v (.int .i64 n)]).map _=_
 simp only [Xk,if_pos (show -9223372036854775808≤n∧n≤9223372036854775807 from ⟨h0,h1⟩),Option.map_some]
def qbS:List V→Option (V × List V)
 |[.v (.string s),.v (.int .u8 c)]=>some (I (Lib.indexByte s.data.toList c.toNat.toUInt8),[.v (.string s),.v (.int .u8 c)])
 |_=>none
theorem qqC {prog:Nat→Option AE} {f:Nat} (h:prog f=some (.prim qbS)) (s:Str) (c:Int):cr prog f [S s,U8 c]=some (I (Lib.indexByte s c.toNat.toUInt8)):=by
 unfold cr
 rw [qg8 h]
 rfl
def qiU:V→Option Str
 | .v (.string s)=>some s.data.toList
 |_=>none
def JL:List V→Option (List Str)
 |[]=>some []
 |x::xs=>match qiU x,JL xs with
  |some s,some ss=>some (s::ss)
  |_,_=>none
theorem qz3 {x:V} {s:Str} (h:qiU x=some s):x=S s:=by
 unfold qiU at h
 split at h
 ·cases h;rfl
 ·cases h
theorem qoO: ∀ {xs:List V} {ss:List Str},JL xs=some ss→xs=ss.map S
 |[],ss,h=>by cases h;rfl
 |x::xs,ss,h=>by
  simp only [JL]at h
  split at h
  ·rename_i s r h1 h2
   cases h
   rw [List.map_cons,qz3 h1,qoO h2]
  ·cases h
theorem qoN: ∀ ss:List Str,JL (ss.map S)=some ss
 |[]=>rfl
 |s::ss=>by simp only [List.map_cons,JL,qoN ss];rfl
def Xl:List V→Option (V × List V)
 |[.i τ xs,.v (.string p)]=>match JL xs with
  |some ss=>if xs.length≤140737488355328∧(Lib.join ss p.data.toList).length≤140737488355328 then some (S (Lib.join ss p.data.toList),[.i τ xs,.v (.string p)])else none
  |none=>none
 |_=>none
theorem qnR {E:Env} {e:Nat}: ∀ {ss:List Str} {ys:List Value} {c:Cnt},ql E e (ss.map S) ys c→(ss=[]∨e=1)∧ys=ss.map fun s=> .string ⟨s.toArray⟩
 |[],ys,c,h=>by simp only [List.map_nil,ql]at h;exact ⟨.inl rfl,h.1⟩
 |s::ss,ys,c,h=>by
  simp only [List.map_cons,ql]at h
  obtain ⟨y,ys',c1,c2,rfl,hy,-,-,h1,h2,-⟩:=h
  simp only [S,Rel]at h1
  obtain ⟨rfl,-,-⟩:=h1
  refine ⟨.inr (by rw [← hy];rfl), ?_⟩
  rw [(qnR h2).2]
  rfl
theorem qqD {prog:Nat→Option AE} {f:Nat} (h:prog f=some (.prim Xl)) (τ:Bool) (ss:List Str) (p:Str) (h0:ss.length≤140737488355328) (h1:(Lib.join ss p).length≤140737488355328):
 cr prog f [.i τ (ss.map S),S p]=some (S (Lib.join ss p)):=by
 unfold cr
 rw [qg8 h]
 show (Xl [.i τ (ss.map S),.v (.string ⟨p.toArray⟩)]).map _=_
 simp only [Xl,qoN,List.length_map]
 rw [if_pos ⟨h0,h1⟩]
 rfl
def qi1:List V→Option (V × List V)
 |[.v (.string s),.v (.string p)]=>match p.data.toList with
  |[c]=>if c.toNat < 128∧s.size≤9223372036854775807 then some (S (Lib.trimB s.data.toList c),[.v (.string s),.v (.string p)])else none
  |_=>none
 |_=>none
def qiR:List V→Option (V × List V)
 |[.v (.string s),.v (.string p)]=>match p.data.toList with
  |[c]=>if s.size < 4294967281 then some (.i false ((Lib.split s.data.toList [c]).map S),[.v (.string s),.v (.string p)])else none
  |_=>none
 |_=>none
theorem qnS(E:Env): ∀ ss:List Str,ql E 1 (ss.map S) (ss.map fun s=> .string ⟨s.toArray⟩) c0
 |[]=>by simp [ql]
 |s::ss=>by
  simp only [List.map_cons,ql]
  refine ⟨.string ⟨s.toArray⟩,_,c0,c0,rfl,rfl,rfl, ?_, ?_,qnS E ss,rfl⟩
  ·intro z hz
   simp [Value.cells]at hz;subst hz;rfl
  ·simp [S,Rel,yD]
theorem qx0 [Lay] {P:Program} {f:Nat} {fn:Func} {xs:List V} {ss:List Str} (hfn:P.funcs[f]? =some fn) (hb:fn.body.isSome=true) (hn:(fn.name== "runtime.NumGoroutine")=false)
 (h: ∀ (E:Env) (vs:List Value),qk E.cl xs vs c0→Lay.L E.w→Calls P f vs.toArray E.w fun e w'=> ∃ T,e= .returned (.slice (some ⟨E.w.heap.size,0,none⟩) ss.length ss.length)∧w'=E.w.alloc (.cells (ss.map fun s=>Value.string ⟨s.toArray⟩).toArray T)) (hz: ∀ (E:Env) vs c,qk E.cl xs vs c→c=c0):
 Q9 P f xs (.i false (ss.map S)) xs:=by
 intro E vs c hxs hg
 have h0:=hz E vs c hxs
 subst h0
 obtain ⟨code,hcode⟩:=Option.isSome_iff_exists.1 hb
 have hne:fn.name ≠ "runtime.NumGoroutine" :=by simpa using hn
 have hcf:(callFunc f vs.toArray).run P E.w= .ok (.enter f vs.toArray) E.w:=by
  simp [callFunc,hfn,hne,hcode]
 rw [hcf]
 refine ⟨rfl,(h E vs hxs hg.lay.ll).mono ?_⟩
 rintro e w' ⟨T,rfl,rfl⟩
 have zr: ∀ b,b < E.w.heap.size→(E.w.alloc (.cells (ss.map fun s=>Value.string ⟨s.toArray⟩).toArray T)).heap[b]? =E.w.heap[b]? :=fun b hb=>by
  show (E.w.heap.push _)[b]? =_
  rw [Array.getElem?_push_lt hb,Array.getElem?_eq_getElem hb]
 have hsz:(E.w.alloc (.cells (ss.map fun s=>Value.string ⟨s.toArray⟩).toArray T)).heap.size=E.w.heap.size+1:=by
  show (E.w.heap.push _).size=_;simp
 have hnew:(E.w.alloc (.cells (ss.map fun s=>Value.string ⟨s.toArray⟩).toArray T)).heap[E.w.heap.size]? =some (.cells (ss.map fun s=>Value.string ⟨s.toArray⟩).toArray T (0,0)):=by
  show (E.w.heap.push _)[E.w.heap.size]? =_
  simp
 refine ⟨_,rfl,{E with w:=E.w.alloc (.cells (ss.map fun s=>Value.string ⟨s.toArray⟩).toArray T),I:=fun τ b=>E.I τ b∨b=E.w.heap.size},c0,c0,rfl, ?_, ?_, ?_, ?_⟩
 ·simp only [Rel]
  refine ⟨by trivial,some ⟨E.w.heap.size,0,none⟩,ss.length,by simp,by simp,.inr ⟨E.w.heap.size,0,1,_,T,(0,0),rfl,.inr rfl,hnew, ?_⟩⟩
  have hs:seg (ss.map fun s=>Value.string ⟨s.toArray⟩).toArray 0 ((ss.map S).length*1)=ss.map fun s=>Value.string ⟨s.toArray⟩:=by
   simp only [seg,List.drop_zero,List.length_map,Nat.mul_one]
   exact List.take_of_length_le (by simp)
  rw [hs]
  exact qnS _ ss
 ·exact xA hxs ⟨fun τ b hb=>⟨.inl hb,zr b (hg.imm τ b hb).2⟩,fun b hb=>absurd rfl hb,fun k l hk=>hk⟩
 ·rw [K9]
  refine ⟨fun b=>Nat.zero_le _,fun τ b hb=>⟨rfl, ?_⟩,fun b hb=> ?_,fun b hb=>absurd rfl hb,hg.lay.next (fun b hb=> .inl hb) (fun b hb=>zr b (hg.imm false b hb).2)⟩
  ·rcases hb with hb|rfl
   ·exact Nat.lt_of_lt_of_le (hg.imm τ b hb).2 (by rw [hsz];omega)
   ·show E.w.heap.size < _;rw [hsz];omega
  ·exact hb.imp (hg.sub b) id
 ·rw [K9]
  refine ⟨fun b n hn=> ?_,rfl,rfl,rfl,by show E.w.heap.size≤_;rw [hsz];omega,fun b hb _=>zr b hb,fun _ _ h=> .inl h,fun b hb=>absurd rfl hb,fun τ b hb=> ?_⟩
  ·rw [qbE (zr b (qeD hn))];exact hn
  ·rcases hb with hb|rfl
   ·exact .inl hb
   ·exact .inr (.inr (Nat.le_refl _))
end Go.Vm
