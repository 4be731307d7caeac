import Derived.Test.YtbbkmeicdhnihaaDoorT02
import Derived.Laws.Strings
import Derived.ChangeArms
import Derived.ProofKit
import Derived.OpenShut
import Derived.Sort.Grow
import Derived.Deep.Draws
import Derived.Lib.LaidTab
import Derived.Lib.ItoaNum
import Derived.Lib.Bytealg
import Derived.Lib.Join
import Derived.Lib.Split
import Derived.Lib.TrimByte
import Derived.Lib.SliceRun
set_option autoImplicit false
set_option linter.unusedVariables false
set_option linter.unusedSimpArgs false
namespace Go.Vm
section
variable {prog:Nat→Option AE} {st:St} {σ:Sl} {T:Mem} {call:qS} {a b:Int} {x y:List UInt8}
@[go_sem] theorem qpa:q6 .add (I a) (I b)=some (I (w64 (a+b))):=(rfl)
@[go_sem] theorem qpi:q6 .sub (I a) (I b)=some (I (w64 (a - b))):=(rfl)
@[go_sem] theorem qpg:q6 .mul (I a) (I b)=some (I (w64 (a*b))):=(rfl)
@[go_sem] theorem qpf:q6 .lss (I a) (I b)=some (B (decide (a < b))):=(rfl)
@[go_sem] theorem qpe:q6 .leq (I a) (I b)=some (B (decide (a≤b))):=(rfl)
@[go_sem] theorem qpd:q6 .gtr (I a) (I b)=some (B (decide (b < a))):=(rfl)
@[go_sem] theorem qpc:q6 .geq (I a) (I b)=some (B (decide (b≤a))):=(rfl)
@[go_sem] theorem qpb:q6 .eql (I a) (I b)=some (B (decide (a=b))):=by
 have:(a==b)=decide (a=b):=by rw [Bool.eq_iff_iff];simp
 exact congrArg (fun t=>some (B t)) this
@[go_sem] theorem qph:q6 .neq (I a) (I b)=some (B (decide (a ≠ b))):=by
 have:(a != b)=decide (a ≠ b):=by rw [Bool.eq_iff_iff];simp
 exact congrArg (fun t=>some (B t)) this
@[go_sem] theorem qo4:q6 .lss (U8 a) (U8 b)=some (B (decide (a < b))):=(rfl)
@[go_sem] theorem qo3:q6 .leq (U8 a) (U8 b)=some (B (decide (a≤b))):=(rfl)
@[go_sem] theorem qo2:q6 .gtr (U8 a) (U8 b)=some (B (decide (b < a))):=(rfl)
@[go_sem] theorem qo1:q6 .geq (U8 a) (U8 b)=some (B (decide (b≤a))):=(rfl)
@[go_sem] theorem qoZ:q6 .add (U8 a) (U8 b)=some (U8 (IntKind.u8.wrap (a+b))):=(rfl)
@[go_sem] theorem qo0:q6 .eql (U8 a) (U8 b)=some (B (decide (a=b))):=by
 have:(a==b)=decide (a=b):=by rw [Bool.eq_iff_iff];simp
 exact congrArg (fun t=>some (B t)) this
@[go_sem] theorem qo5:q6 .neq (U8 a) (U8 b)=some (B (decide (a ≠ b))):=by
 have:(a != b)=decide (a ≠ b):=by rw [Bool.eq_iff_iff];simp
 exact congrArg (fun t=>some (B t)) this
theorem Jo:(ByteArray.mk x.toArray).toList=x:=by rw [ByteArray.toList_eq]
@[go_sem] theorem qo6:q6 .eql (S x) (S y)=some (B (decide (x=y))):=by
 have:(Op.stringOp .eql ⟨x.toArray⟩ ⟨y.toArray⟩).val? =some (.bool (decide (x=y))):=by
  simp only [Op.stringOp,Jo]
  have:(x==y)=decide (x=y):=by rw [Bool.eq_iff_iff];simp
  rw [this];rfl
 exact congrArg (Option.map V.v) this
@[go_sem] theorem qo9:q6 .neq (S x) (S y)=some (B (decide (x ≠ y))):=by
 have:(Op.stringOp .neq ⟨x.toArray⟩ ⟨y.toArray⟩).val? =some (.bool (decide (x ≠ y))):=by
  simp only [Op.stringOp,Jo]
  have:(!x==y)=decide (x ≠ y):=by rw [Bool.eq_iff_iff];simp
  rw [this];rfl
 exact congrArg (Option.map V.v) this
@[go_sem] theorem qo8:q6 .lss (S x) (S y)=some (B (Op.bytesLess x y)):=by
 have:(Op.stringOp .lss ⟨x.toArray⟩ ⟨y.toArray⟩).val? =some (.bool (Op.bytesLess x y)):=by
  simp only [Op.stringOp,Jo];rfl
 exact congrArg (Option.map V.v) this
@[go_sem] theorem qo7:q6 .gtr (S x) (S y)=some (B (!(Op.bytesLess x y||decide (x=y)))):=by
 have:(Op.stringOp .gtr ⟨x.toArray⟩ ⟨y.toArray⟩).val? =some (.bool (!(Op.bytesLess x y||decide (x=y)))):=by
  simp only [Op.stringOp,Jo]
  have:(x==y)=decide (x=y):=by rw [Bool.eq_iff_iff];simp
  rw [this];rfl
 exact congrArg (Option.map V.v) this
theorem jV(h:x.length+y.length≤9223372036854775807):q6 .add (S x) (S y)=some (S (x++y)):=by
 have:(Op.stringOp .add ⟨x.toArray⟩ ⟨y.toArray⟩).val? =some (.string ⟨(x++y).toArray⟩):=by
  simp only [Op.stringOp,ByteArray.size,List.size_toArray]
  rw [if_neg (by simp [IntKind.max,IntKind.signed,IntKind.bits];omega)]
  have:(ByteArray.mk x.toArray++ByteArray.mk y.toArray)=⟨(x++y).toArray⟩:=by
   apply ByteArray.ext
   simp
  rw [this];rfl
 exact congrArg (Option.map V.v) this
theorem qce(h:b ≠ 0):q6 .quo (I a) (I b)=some (I (w64 (a.tdiv b))):=by
 have:(Op.intDiv .quo .i64 a b).val? =some (.int .i64 (w64 (a.tdiv b))):=by
  simp only [Op.intDiv,if_neg h];rfl
 exact congrArg (Option.map V.v) this
theorem qcf(h:b ≠ 0):q6 .rem (I a) (I b)=some (I (a.tmod b)):=by
 have:(Op.intDiv .rem .i64 a b).val? =some (.int .i64 (a.tmod b)):=by
  simp only [Op.intDiv,if_neg h];rfl
 exact congrArg (Option.map V.v) this
@[go_sem] theorem qtd {p q:Bool}:eqV 0 (B p) (B q)=some (p==q):=(rfl)
@[go_sem] theorem qtf {e e':Nat}:eqV 2 (.n e) (.n e')=some true:=(rfl)
@[go_sem] theorem qte {e:Nat} {τ:Bool} {z:V} {zs:List V}:eqV 2 (.i τ (z::zs)) (.n e)=some false:=(rfl)
@[go_sem] theorem qvD {α β:Type} {f:α→β} {z:α}:(some z).map f=some (f z):=(rfl)
def ldO(ob:Option Ob) (idx:Nat) (agg:Bool) (size off:Nat):Option V:=
 match ob with
 |some ob=>qo ob.2[idx]? fun x=>qT agg size x off
 |none=>none
@[go_sem] theorem quY {e idx size off:Nat} {xs:List V} {agg:Bool}:ldO (some (e,xs)) idx agg size off=qo xs[idx]? fun x=>qT agg size x off:=(rfl)
@[go_sem] theorem qvn {k:Key} {idx off size:Nat} {agg:Bool}:yN T agg size (.p k idx off)=ldO (qp T k) idx agg size off:=by
 simp only [yN,ldO]
 cases qp T k with
 |none=>rfl
 |some ob=>simp only;cases ob.2[idx]? <;>rfl
@[go_sem] theorem qvo {τ:Bool} {xs:List V} {idx off size:Nat} {agg:Bool}:yN T agg size (.q τ xs idx off)=qo xs[idx]? fun x=>qT agg size x off:=by
 simp only [yN];cases xs[idx]? <;>rfl
@[go_sem] theorem qu9 {n:Nat} {cs:List V} {off:Nat}:qT true n (.a cs) off=if off=0∧cs.length=n then some (.a cs)else if off+n≤cs.length then some (.a ((cs.drop off).take n))else none:=by
 unfold qT
 simp only [V.cells,V.isA,if_true]
 by_cases h:off=0∧cs.length=n
 ·simp only [h.1,h.2,and_self,if_true]
 ·rw [if_neg h,if_neg (fun h'=>h ⟨h'.1,h'.2.1⟩)];by_cases h2:off+n≤cs.length<;>simp only [h2,if_true,if_false]
@[go_sem] theorem qva {n:Nat} {cs:List V} {off:Nat}:qT false n (.a cs) off=cs[off]? :=(rfl)
@[go_sem] theorem qu3 {n:Nat}:qT false n (I a) 0=some (I a):=(rfl)
@[go_sem] theorem qu5 {n:Nat}:qT false n (S x) 0=some (S x):=(rfl)
@[go_sem] theorem qu2 {n:Nat} {p:Bool}:qT false n (B p) 0=some (B p):=(rfl)
@[go_sem] theorem qu7 {n:Nat}:qT false n (U8 a) 0=some (U8 a):=(rfl)
@[go_sem] theorem qvc {n:Nat} {τ:Bool} {xs:List V}:qT false n (.i τ xs) 0=some (.i τ xs):=(rfl)
@[go_sem] theorem qvg {n:Nat} {k:Key} {lo len:Nat}:qT false n (.s k lo len) 0=some (.s k lo len):=(rfl)
@[go_sem] theorem qvf {n e:Nat} {xs:List V}:qT false n (.o e xs) 0=some (.o e xs):=(rfl)
@[go_sem] theorem qve {n e:Nat}:qT false n (.n e) 0=some (.n e):=(rfl)
@[go_sem] theorem qvb {n:Nat} {fn:Fn} {xs ys:List V}:qT false n (.f fn xs ys) 0=some (.f fn xs ys):=(rfl)
def stO(T:Mem) (k:Key) (ob:Option Ob) (idx off:Nat) (y:V):Option Mem:=
 match ob with
 |some ob=>match ob.2[idx]? with
  |some x=>match jE x off y with
   |some x'=>some ((k,ob.1,ob.2.set idx x')::qy T k)
   |none=>none
  |none=>none
 |none=>none
@[go_sem] theorem qz2 {k:Key} {idx off:Nat} {y:V}:jF T (.p k idx off) y=stO T k (qp T k) idx off y:=(rfl)
@[go_sem] theorem qz0 {k:Key} {idx off e:Nat} {xs:List V} {y:V}:stO T k (some (e,xs)) idx off y=qo xs[idx]? fun x=>qo (jE x off y) fun x'=>some ((k,e,xs.set idx x')::qy T k):=by
 simp only [stO]
 cases xs[idx]? with
 |none=>rfl
 |some x=>simp only [qo];cases jE x off y<;>rfl
attribute [go_sem] jE
@[go_sem] theorem qs0 {z:V} {zs:List V}:(z::zs)[0]? =some z:=(rfl)
@[go_sem] theorem qs1 {z:V} {zs:List V} {n:Nat}:(z::zs)[n+1]? =zs[n]? :=by simp
@[go_sem] theorem qzV {z z':V} {zs:List V}:(z::zs).set 0 z'=z'::zs:=(rfl)
@[go_sem] theorem qzW {z z':V} {zs:List V} {n:Nat}:(z::zs).set (n+1) z'=z::zs.set n z':=(rfl)
attribute [go_sem] List.length_cons List.length_nil List.take_zero List.take_succ_cons List.drop_zero List.drop_succ_cons List.nil_append List.cons_append List.append_nil List.length_append
def ixO(k:Key) (lo len e:Nat) (i:Int) (ob:Option Ob):Option V:=
 match ob with
 |some ob=>if ob.1=e∧lo+len≤ob.2.length then (zI i len).map fun j=> .p k (lo+j) 0 else none
 |none=>none
@[go_sem] theorem qox {k:Key} {lo len e:Nat} {i:Int}:yb T e (.s k lo len) i=ixO k lo len e i (qp T k):=(rfl)
theorem qdu {k:Key} {len e:Nat} {xs:List V} {i:Nat} (h:i < len) (hl:len≤xs.length):ixO k 0 len e (i:Int) (some (e,xs))=some (.p k i 0):=by
 simp only [ixO,zI]
 rw [if_pos ⟨trivial,by omega⟩,if_pos ⟨by omega,by omega⟩]
 simp
theorem zL {τ:Bool} {xs:List V} {e:Nat} {i:Nat} {z:V} (h:xs[i]? =some z) (hz:z.cells.length=e):yb T e (.i τ xs) (i:Int)=some (.q τ xs i 0):=by
 have hl:i < xs.length:=(List.getElem?_eq_some_iff.1 h).1
 simp only [yb,zI]
 rw [if_pos ⟨by omega,by omega⟩]
 simp only [Int.toNat_natCast,h,Option.getD_some,hz,if_true]
def elO(e lo len:Nat) (ob:Option Ob):Option (List V):=
 match ob with
 |some ob=>if ob.1=e∧lo+len≤ob.2.length then some ((ob.2.drop lo).take len)else none
 |none=>none
@[go_sem] theorem qs4 {k:Key} {lo len e:Nat}:xV T e (.s k lo len)=elO e lo len (qp T k):=(rfl)
@[go_sem] theorem qsZ {e e' lo len:Nat} {xs:List V}:elO e lo len (some (e',xs))=if e'=e∧lo+len≤xs.length then some ((xs.drop lo).take len)else none:=(rfl)
@[go_sem] theorem qs2 {e:Nat} {τ:Bool} {xs:List V}:xV T e (.i τ xs)=some xs:=(rfl)
@[go_sem] theorem qs3 {e e':Nat}:xV T e (.n e')=some []:=(rfl)
def apO(e lo len:Nat) (T':Mem) (ob:Option Ob):Option (List V × Mem):=
 match ob with
 |some ob=>if ob.1=e∧lo+len≤ob.2.length then some ((ob.2.drop lo).take len,T')else none
 |none=>none
@[go_sem] theorem qoC {e e':Nat}:kN T e (.n e')=some ([],T):=(rfl)
@[go_sem] theorem qoD {k:Key} {lo len e:Nat}:kN T e (.s k lo len)=apO e lo len (qy T k) (qp T k):=(rfl)
@[go_sem] theorem qoA {e e' lo len:Nat} {xs:List V}:apO e lo len T (some (e',xs))=if e'=e∧lo+len≤xs.length then some ((xs.drop lo).take len,T)else none:=(rfl)
def Qx {α:Type} (r:Option (List V × Mem)) (k:List V→Mem→Option α):Option α:=
 match r with
 |some (xs,T)=>k xs T
 |none=>none
@[congr] theorem qpz {α:Type} {r r':Option (List V × Mem)} {k:List V→Mem→Option α} (h:r=r'):Qx r k=Qx r' k:=by rw [h]
@[go_sem] theorem qpA {α:Type} {xs:List V} {k:List V→Mem→Option α}:Qx (some (xs,T)) k=k xs T:=(rfl)
@[go_sem] theorem qoB {e:Nat} {y:V}:ZH T e y=zQ (xV T e y) fun ys=>zw (ya ys) (some (ys,T)) (kN T e y):=by
 unfold ZH
 cases xV T e y with
 |none=>rfl
 |some ys=>simp only [zQ,zw]
@[go_sem] theorem qtu {d e bytes:Nat} {x y:AO}:qm call ⟨σ,T⟩ (.app d e bytes x y)=qo (ev σ x) fun x=>qo (ev σ y) fun y=>Qx (ZH T e y) fun ys Ty=>Qx (kN Ty e x) fun xs T'=>
 xm (jp e ys&&decide ((xs.length+ys.length)*bytes≤lim)&&decide (xs.length+ys.length≤lim))
  (some ⟨(d,.s (d,0) 0 (xs.length+ys.length))::yM d σ,((d,0),e,qz d (xs++ys))::wT d T'⟩):=by
 simp only [qm,qh,J2]
 cases ev σ x with
 |none=>rfl
 |some x=>cases ev σ y with
  |none=>rfl
  |some y=>
   simp only [qo]
   cases ZH T e y with
   |none=>rfl
   |some q=>
    obtain ⟨ys,Ty⟩:=q
    simp only [Qx]
    cases kN Ty e x<;>rfl
theorem kX:lim=1099511627776:=(rfl)
def Xb(d:Option Nat) (k:Nat):Bool:=
 match d with
 |none=>false
 |some d=>decide (d=k)
@[go_sem] theorem qsf {k:Nat}:Xb none k=false:=(rfl)
@[go_sem] theorem qsg {d k:Nat}:Xb (some d) k=decide (d=k):=(rfl)
def QD {α:Type} (o:Option Nat) (x:α) (k:Nat→α):α:=
 match o with
 |none=>x
 |some d=>k d
@[congr] theorem qsh {α:Type} {o o':Option Nat} {x:α} {k:Nat→α} (h:o=o'):QD o x k=QD o' x k:=by rw [h]
@[go_sem] theorem qsj {α:Type} {d:Nat} {x:α} {k:Nat→α}:QD (some d) x k=k d:=(rfl)
@[go_sem] theorem qsi {α:Type} {x:α} {k:Nat→α}:QD none x k=x:=(rfl)
@[go_sem] theorem qoF:zr call [] [] st=some st:=(rfl)
@[go_sem] theorem qoE {p:Dp} {ps:List Dp} {i:AI} {is:List AI}:zr call (p::ps) (i::is) st=xB (yS call p i st) fun st=>zr call ps is st:=by
 simp only [zr];cases yS call p i st<;>rfl
@[go_sem] theorem qz1 {p:Dp} {i:AI}:yS call p i ⟨σ,T⟩=xB (qm call ⟨zl σ (qK i),yP T p.ks⟩ i) fun st'=>QD (qt i) (some ⟨σ,QK p none st'.T T⟩)
 (fun d=>qo (qw st'.σ d) fun x=>some ⟨(d,x)::σ,QK p (some d) st'.T T⟩):=by
 unfold yS QD
 simp only
 cases qm call ⟨zl σ (qK i),yP T p.ks⟩ i with
 |none=>rfl
 |some st'=>
  simp only [xB]
  cases qt i with
  |none=>rfl
  |some d=>simp only;cases qw st'.σ d<;>rfl
attribute [go_sem] kH Jq qC j7
@[go_sem] theorem qoz:zF [] []=[]:=(rfl)
@[go_sem] theorem qoy {k:Nat} {ks:List Key} {ps:List Dp} {i:AI} {is:List AI}:zF (⟨k,ks⟩::ps) (i::is)=if k=0 then zF ps is else QD (qt i) (zF ps is) fun d=>d::zF ps is:=by
 simp only [zF];cases qt i<;>rfl
@[go_sem] theorem qyc {k:Nat} {ks:List Key} {d:Option Nat} {x:Key}:Dp.own ⟨k,ks⟩ d x=((decide (k=1)&&yL x ks)||(!decide (k=0)&&Xb d x.1)):=by
 have h1: ∀ ks:List Key,ks.contains x=yL x ks:=by
  intro ks
  induction ks with
  |nil=>rfl
  |cons u r ih=>
   simp only [List.contains_cons,yL,ih]
   by_cases h:u=x
   ·subst h;simp
   ·have:(x==u)=false:=by simpa using fun h'=>h h'.symm
    simp [h,this]
 simp only [Dp.own,h1]
 have h2:(d==some x.1)=Xb d x.1:=by
  cases d with
  |none=>rfl
  |some d=>simp only [Xb];by_cases h:d=x.1<;>simp [h]
 rw [h2]
 have h3:(k==1)=decide (k=1):=by rw [Bool.eq_iff_iff];simp
 have h4:(k != 0)= !decide (k=0):=by rw [Bool.eq_iff_iff];simp
 rw [h3,h4]
@[go_sem] theorem qAJ:yV [] st=st:=(rfl)
@[go_sem] theorem qAd {n:Nat}:qL (.t n)=[n]:=(rfl)
@[go_sem] theorem qAc {z:V}:qL (.c z)=[]:=(rfl)
@[go_sem] theorem qAa:jg none=[]:=(rfl)
@[go_sem] theorem qAb {z:AO}:jg (some z)=qL z:=(rfl)
@[go_sem] theorem qsD {d:Nat} {x:AO}:qt (.mv d x)=some d:=(rfl)
@[go_sem] theorem qAx {d:Nat} {x:AO}:qK (.mv d x)=qL x:=(rfl)
@[go_sem] theorem qsH {d:Nat} {x:AO} {y:AO} {z:AO}:qt (.pick d x y z)=some d:=(rfl)
@[go_sem] theorem qAB {d:Nat} {x:AO} {y:AO} {z:AO}:qK (.pick d x y z)=qL x++(qL y++qL z):=(rfl)
@[go_sem] theorem qsF {d:Nat} {x:AO}:qt (.new d x)=some d:=(rfl)
@[go_sem] theorem qAz {d:Nat} {x:AO}:qK (.new d x)=qL x:=(rfl)
@[go_sem] theorem qsm {d:Nat} {v:V} {bs:List (Nat × Nat × AO)}:qt (.build d v bs)=some d:=(rfl)
@[go_sem] theorem qAg {d:Nat} {v:V} {bs:List (Nat × Nat × AO)}:qK (.build d v bs)=Jq bs:=(rfl)
@[go_sem] theorem qsC {d:Nat} {e:Nat} {xs:List AO}:qt (.mks d e xs)=some d:=(rfl)
@[go_sem] theorem qAw {d:Nat} {e:Nat} {xs:List AO}:qK (.mks d e xs)=kH xs:=(rfl)
@[go_sem] theorem qsB {d:Nat} {e:Nat} {v:V} {n:Nat} {x:AO} {y:AO}:qt (.mk d e v n x y)=some d:=(rfl)
@[go_sem] theorem qAv {d:Nat} {e:Nat} {v:V} {n:Nat} {x:AO} {y:AO}:qK (.mk d e v n x y)=qL x++qL y:=(rfl)
@[go_sem] theorem qsy {d:Nat} {p:Bool} {n:Nat} {x:AO}:qt (.ld d p n x)=some d:=(rfl)
@[go_sem] theorem qAs {d:Nat} {p:Bool} {n:Nat} {x:AO}:qK (.ld d p n x)=qL x:=(rfl)
@[go_sem] theorem qsz {d:Nat} {p:Bool} {n:Nat} {x:AO}:qt (.ldq d p n x)=some d:=(rfl)
@[go_sem] theorem qAt {d:Nat} {p:Bool} {n:Nat} {x:AO}:qK (.ldq d p n x)=qL x:=(rfl)
@[go_sem] theorem qsG {d:Nat} {x:AO}:qt (.nilc d x)=some d:=(rfl)
@[go_sem] theorem qAA {d:Nat} {x:AO}:qK (.nilc d x)=qL x:=(rfl)
@[go_sem] theorem qsl {d:Nat} {op:BinOp} {x:AO} {y:AO}:qt (.bin d op x y)=some d:=(rfl)
@[go_sem] theorem qAf {d:Nat} {op:BinOp} {x:AO} {y:AO}:qK (.bin d op x y)=qL x++qL y:=(rfl)
@[go_sem] theorem qsp {d:Nat} {n:Nat} {p:Bool} {x:AO} {y:AO}:qt (.eqs d n p x y)=some d:=(rfl)
@[go_sem] theorem qAj {d:Nat} {n:Nat} {p:Bool} {x:AO} {y:AO}:qK (.eqs d n p x y)=qL x++qL y:=(rfl)
@[go_sem] theorem qsN {d:Nat} {uo:UnOp} {x:AO}:qt (.un d uo x)=some d:=(rfl)
@[go_sem] theorem qAH {d:Nat} {uo:UnOp} {x:AO}:qK (.un d uo x)=qL x:=(rfl)
@[go_sem] theorem qsI {d:Nat} {e:Nat} {x:AO} {ox:Option AO} {oy:Option AO}:qt (.sl d e x ox oy)=some d:=(rfl)
@[go_sem] theorem qAC {d:Nat} {e:Nat} {x:AO} {ox:Option AO} {oy:Option AO}:qK (.sl d e x ox oy)=qL x++(jg ox++jg oy):=(rfl)
@[go_sem] theorem qsK {d:Nat} {x:AO} {ox:Option AO} {oy:Option AO}:qt (.ssl d x ox oy)=some d:=(rfl)
@[go_sem] theorem qAE {d:Nat} {x:AO} {ox:Option AO} {oy:Option AO}:qK (.ssl d x ox oy)=qL x++(jg ox++jg oy):=(rfl)
@[go_sem] theorem qsJ {d:Nat} {x:AO}:qt (.slen d x)=some d:=(rfl)
@[go_sem] theorem qAD {d:Nat} {x:AO}:qK (.slen d x)=qL x:=(rfl)
@[go_sem] theorem qsr {d:Nat} {x:AO} {n:Nat}:qt (.fa d x n)=some d:=(rfl)
@[go_sem] theorem qAl {d:Nat} {x:AO} {n:Nat}:qK (.fa d x n)=qL x:=(rfl)
@[go_sem] theorem qss {d:Nat} {p:Bool} {n:Nat} {x:AO} {m:Nat}:qt (.fld d p n x m)=some d:=(rfl)
@[go_sem] theorem qAm {d:Nat} {p:Bool} {n:Nat} {x:AO} {m:Nat}:qK (.fld d p n x m)=qL x:=(rfl)
@[go_sem] theorem qsv {d:Nat} {e:Nat} {x:AO} {y:AO}:qt (.ia d e x y)=some d:=(rfl)
@[go_sem] theorem qAp {d:Nat} {e:Nat} {x:AO} {y:AO}:qK (.ia d e x y)=qL x++qL y:=(rfl)
@[go_sem] theorem qsx {d:Nat} {x:AO} {y:AO}:qt (.ix d x y)=some d:=(rfl)
@[go_sem] theorem qAr {d:Nat} {x:AO} {y:AO}:qK (.ix d x y)=qL x++qL y:=(rfl)
@[go_sem] theorem qsq {d:Nat} {x:AO} {n:Nat}:qt (.ext d x n)=some d:=(rfl)
@[go_sem] theorem qAk {d:Nat} {x:AO} {n:Nat}:qK (.ext d x n)=qL x:=(rfl)
@[go_sem] theorem qst {d:Nat} {fn:Fn} {xs:List AO} {ys:List AO}:qt (.fun d fn xs ys)=some d:=(rfl)
@[go_sem] theorem qAn {d:Nat} {fn:Fn} {xs:List AO} {ys:List AO}:qK (.fun d fn xs ys)=kH xs++kH ys:=(rfl)
@[go_sem] theorem qsk {d:Nat} {e:Nat} {n:Nat} {x:AO} {y:AO}:qt (.app d e n x y)=some d:=(rfl)
@[go_sem] theorem qAe {d:Nat} {e:Nat} {n:Nat} {x:AO} {y:AO}:qK (.app d e n x y)=qL x++qL y:=(rfl)
@[go_sem] theorem qsA {d:Nat} {x:AO}:qt (.len d x)=some d:=(rfl)
@[go_sem] theorem qAu {d:Nat} {x:AO}:qK (.len d x)=qL x:=(rfl)
@[go_sem] theorem qsE {d:Nat} {p:Bool} {xs:List AO}:qt (.mx d p xs)=some d:=(rfl)
@[go_sem] theorem qAy {d:Nat} {p:Bool} {xs:List AO}:qK (.mx d p xs)=kH xs:=(rfl)
@[go_sem] theorem qsw {d:Nat} {ik:IntKind} {x:AO}:qt (.int d ik x)=some d:=(rfl)
@[go_sem] theorem qAq {d:Nat} {ik:IntKind} {x:AO}:qK (.int d ik x)=qL x:=(rfl)
@[go_sem] theorem qsM {d:Nat} {x:AO}:qt (.str d x)=some d:=(rfl)
@[go_sem] theorem qAG {d:Nat} {x:AO}:qK (.str d x)=qL x:=(rfl)
@[go_sem] theorem qsn {d:Nat} {x:AO}:qt (.byt d x)=some d:=(rfl)
@[go_sem] theorem qAh {d:Nat} {x:AO}:qK (.byt d x)=qL x:=(rfl)
@[go_sem] theorem qsL {n:Nat} {x y:AO}:qt (.st n x y)=none:=(rfl)
@[go_sem] theorem qAF {n:Nat} {x y:AO}:qK (.st n x y)=qL x++qL y:=(rfl)
@[go_sem] theorem qso {o:Option Nat} {x:AO} {xs:List AO} {m:Md}:qt (.call o x xs m)=o:=(rfl)
@[go_sem] theorem qAi {o:Option Nat} {x:AO} {xs:List AO} {m:Md}:qK (.call o x xs m)=qL x++kH xs:=(rfl)
@[go_sem] theorem qsu {n:Nat} {p:Bool} {o:Option Nat} {i:AI}:qt (.gd n p o i)=o:=(rfl)
@[go_sem] theorem qAo {n:Nat} {p:Bool} {o:Option Nat} {i:AI}:qK (.gd n p o i)=n::qK i:=(rfl)
@[go_sem] theorem qvE {k:Nat} {ks:List Key} {d:Option Nat} {T':Mem}:QK ⟨k,ks⟩ d T' T=if k=0 then T else qC (Dp.own ⟨k,ks⟩ d) T'++qC (fun x=> !Dp.own ⟨k,ks⟩ d x) T:=(rfl)
@[go_sem] theorem qAI {ds:List Nat} {d:Nat}:yV (d::ds) ⟨σ,T⟩=yV ds ⟨yM d σ,wT d T⟩:=(rfl)
def KZ(n:Nat) (σ:Sl) (T:Mem):St:=jX n (yo σ) σ (QZ (yo σ) (yK σ++yH T (yo σ)) T)
@[go_sem] theorem qyy {ls:List Nat} {ks:List Key}:xb ls ks ⟨σ,T⟩=KZ (Y5 ks) (zl σ ls) T:=(rfl)
@[go_sem] theorem qpO:Y5 []=0:=(rfl)
@[go_sem] theorem qpN {n m:Nat} {r:List Key}:Y5 ((n,m)::r)=n:=(rfl)
theorem qek: ∀ (ks:List Key),yi [] ks=[]
 |[]=>rfl
 |k::ks=>by simp only [yi,qp,qek ks]
theorem qcE(bx:List Key): ∀ (ks:List Key),kR bx ks []=[]
 |[]=>rfl
 |k::ks=>by
  have:QA [] k=[]:=rfl
  simp only [kR,this,ite_self,qcE bx ks]
@[go_sem] theorem qyx {n:Nat}:KZ n σ []=jX n (yo σ) σ []:=by
 simp only [KZ,QZ,qcE,qek]
@[go_sem] theorem qyw {n:Nat} {ob:Key × Ob}:KZ n σ (ob::T)=jX n (yo σ) σ (QZ (yo σ) (yK σ++yH (ob::T) (yo σ)) (ob::T)):=(rfl)
@[go_sem] theorem qzX {bx k0:List Key}:QZ bx k0 T=yi (kR bx k0 T) k0:=(rfl)
@[go_sem] theorem qq9 {bx:List Key}:kR bx [] T=T:=(rfl)
@[go_sem] theorem qq8 {bx ks:List Key} {k:Key}:kR bx (k::ks) T=kR bx ks (zw (yL k bx) T (QA T k)):=(rfl)
def Jh(T:Mem) (k:Key) (ob:Option Ob):Mem:=
 match ob with
 |none=>T
 |some ob=>zw (qu ob.2) T ((k,ob.1,(qx (zt 30) (qy T k) ob.2).1)::(qx (zt 30) (qy T k) ob.2).2)
@[go_sem] theorem qq7 {k:Key}:QA T k=Jh T k (qp T k):=by
 unfold QA Jh zw;cases qp T k<;>rfl
@[go_sem] theorem qzL {k:Key}:Jh T k none=T:=(rfl)
@[go_sem] theorem qzM {k:Key} {ob:Ob}:Jh T k (some ob)=zw (qu ob.2) T ((k,ob.1,(qx (zt 30) (qy T k) ob.2).1)::(qx (zt 30) (qy T k) ob.2).2):=(rfl)
@[go_sem] theorem qq6 {m:Nat} {x:V}:zt m T x=zw (clE x) (x,T) (qq m T x):=(rfl)
theorem qaC(m:Nat): ∀ (xs ys:List V) (T:Mem),qx (zt m) T (xs++ys)=((qx (zt m) T xs).1++(qx (zt m) (qx (zt m) T xs).2 ys).1,(qx (zt m) (qx (zt m) T xs).2 ys).2)
 |[],ys,T=>rfl
 |x::xs,ys,T=>by simp only [List.cons_append,qx,qaC m xs ys]
theorem kY(m:Nat) (T:Mem): ∀ (xs:List V),qu xs=true→qx (zt m) T xs=(xs,T)
 |[],_=>rfl
 |x::xs,h=>by
  simp only [qu,Bool.and_eq_true]at h
  have:zt m T x=(x,T):=by unfold zt;rw [if_pos h.1]
  simp only [qx,this,kY m T xs h.2]
attribute [go_sem] qaC
def J5(n:Nat) (bx:List Key) (σ:Sl) (T:Mem):St:=⟨jd (xG n (yK σ++yH T bx)) σ,x9 (xG n (yK σ++yH T bx)) (yi T (yK σ++yH T bx))⟩
@[go_sem] theorem qgk {n:Nat} {bx:List Key}:jX n bx σ T=J5 n bx (y8 σ) (xJ σ++yq bx T):=(rfl)
def qcq(n:Nat) (kk:List Key) (σ:Sl) (T:Mem):St:=⟨jd (xG n kk) σ,x9 (xG n kk) (yi T kk)⟩
@[go_sem] theorem qqh {n:Nat} {bx:List Key}:J5 n bx σ T=qcq n (yK σ++yH T bx) σ T:=(rfl)
@[go_sem] theorem qqi {n:Nat} {kk:List Key}:qcq n kk σ T=⟨jd (xG n kk) σ,x9 (xG n kk) (yi T kk)⟩:=(rfl)
@[go_sem] theorem qnW:NB=200000:=(rfl)
@[go_sem] theorem qmj:CN=100000:=(rfl)
attribute [go_sem] y8 xJ yH xG j3 jd zN zV
@[go_sem] theorem qqj {n:Nat} {σ:Sl}:jX n [] σ []=J5 n [] (y8 σ) (xJ σ):=by rw [qgk];simp only [yq,List.append_nil]
section nm
variable {t i j d e n lo len:Nat} {k k':Key} {x:V} {xs:List V} {bx tb:List Key} {r:Sl} {M:Mem} {τ nm:Bool} {u:Int} {l:List UInt8} {fn:Fn} {ys:List V}
@[go_sem] theorem qp9:yo []=[]:=(rfl)
def yn(x:V) (r:List Key):List Key:=match x with| .p k _ _=>k::r|_=>r
@[go_sem] theorem qp8:yo ((t,x)::r)=yn x (yo r):=by cases x<;>rfl
@[go_sem] theorem qp3 {r:List Key}:yn (.p k i j) r=k::r:=(rfl)
@[go_sem] theorem qp5 {r:List Key}:yn (.s k i j) r=r:=(rfl)
@[go_sem] theorem qpT {r:List Key}:yn (I u) r=r:=(rfl)
@[go_sem] theorem qpR {b:Bool} {r:List Key}:yn (B b) r=r:=(rfl)
@[go_sem] theorem qpU {r:List Key}:yn (S l) r=r:=(rfl)
@[go_sem] theorem qpW {r:List Key}:yn (U8 u) r=r:=(rfl)
@[go_sem] theorem qpV {r:List Key}:yn (U32 u) r=r:=(rfl)
@[go_sem] theorem qp0 {r:List Key}:yn (.i τ xs) r=r:=(rfl)
@[go_sem] theorem qp4 {r:List Key}:yn (.q τ xs i j) r=r:=(rfl)
@[go_sem] theorem qp2 {r:List Key}:yn (.o e xs) r=r:=(rfl)
@[go_sem] theorem qp1 {r:List Key}:yn (.n e) r=r:=(rfl)
@[go_sem] theorem qpX {r:List Key}:yn (.a xs) r=r:=(rfl)
@[go_sem] theorem qp6 {r:List Key}:yn (.t xs) r=r:=(rfl)
@[go_sem] theorem qpZ {r:List Key}:yn (.f fn xs ys) r=r:=(rfl)
@[go_sem] theorem qpY {r:List Key}:yn .d r=r:=(rfl)
@[go_sem] theorem qp7 {r:List Key}:yn zX r=r:=(rfl)
@[go_sem] theorem qpS {g:Nat} {r:List Key}:yn (Fc g) r=r:=(rfl)
@[go_sem] theorem qr2:qaj (some (e,[x]))=yg x:=(rfl)
@[go_sem] theorem qr1:qaj none=[]:=(rfl)
@[go_sem] theorem qvW:qI d i nm (I u)=I u:=(rfl)
@[go_sem] theorem qvU {b:Bool}:qI d i nm (B b)=B b:=(rfl)
@[go_sem] theorem qvX:qI d i nm (S l)=S l:=(rfl)
@[go_sem] theorem qvZ:qI d i nm (U8 u)=U8 u:=(rfl)
@[go_sem] theorem qvY:qI d i nm (U32 u)=U32 u:=(rfl)
@[go_sem] theorem qwc:qI d i nm zX=zX:=(rfl)
@[go_sem] theorem qvV {g:Nat}:qI d i nm (Fc g)=Fc g:=(rfl)
@[go_sem] theorem qv4:qI d i nm (.i τ xs)= .i τ xs:=(rfl)
@[go_sem] theorem qi5:qI d i nm (.q τ xs lo len)= .q τ xs lo len:=(rfl)
@[go_sem] theorem qv8:qI d i nm (.o e xs)= .o e xs:=(rfl)
@[go_sem] theorem qv1:qI d i nm (.b x)= .b x:=(rfl)
@[go_sem] theorem qv2:qI d i nm .d= .d:=(rfl)
@[go_sem] theorem qv6:qI d i true (.n e)= .s (d,i) 0 0:=(rfl)
@[go_sem] theorem qv7:qI d i false (.n e)= .n e:=(rfl)
@[go_sem] theorem qv9:qI d i nm (.p k lo len)=if NB≤k.1 then .d else .p k lo len:=(rfl)
@[go_sem] theorem qwa:qI d i nm (.s k lo len)=if NB≤k.1 then .d else .s k lo len:=(rfl)
@[go_sem] theorem qv3:qI d i nm (.f fn xs ys)= .f fn (zN d i false xs) (zN d i false ys):=(rfl)
@[go_sem] theorem qv0:qI d i nm (.a xs)= .a (zN d i nm xs):=(rfl)
@[go_sem] theorem qwb:qI d i nm (.t xs)= .t (zN d i false xs):=(rfl)
def yO(d i:Nat) (x:V):Mem:=match x with| .n e=>[((d,i),e,[])]|_=>[]
@[go_sem] theorem qvJ:k9 d i []=[]:=(rfl)
@[go_sem] theorem qvI:k9 d i (x::xs)=yO d i x++k9 d (i+1) xs:=by cases x<;>rfl
@[go_sem] theorem qwn:yO d i (.n e)=[((d,i),e,[])]:=(rfl)
@[go_sem] theorem qwf:yO d i (I u)=[]:=(rfl)
@[go_sem] theorem qwe {b:Bool}:yO d i (B b)=[]:=(rfl)
@[go_sem] theorem qwg:yO d i (S l)=[]:=(rfl)
@[go_sem] theorem qwi:yO d i (U8 u)=[]:=(rfl)
@[go_sem] theorem qwh:yO d i (U32 u)=[]:=(rfl)
@[go_sem] theorem qwm:yO d i (.i τ xs)=[]:=(rfl)
@[go_sem] theorem qwo:yO d i (.o e xs)=[]:=(rfl)
@[go_sem] theorem qwr:yO d i (.s k lo len)=[]:=(rfl)
@[go_sem] theorem qwp:yO d i (.p k lo len)=[]:=(rfl)
@[go_sem] theorem qwq:yO d i (.q τ xs lo len)=[]:=(rfl)
@[go_sem] theorem qwj:yO d i (.b x)=[]:=(rfl)
@[go_sem] theorem qwl:yO d i (.f fn xs ys)=[]:=(rfl)
@[go_sem] theorem qwk:yO d i .d=[]:=(rfl)
@[go_sem] theorem qwu:zT d i (I u)=[]:=(rfl)
@[go_sem] theorem qws {b:Bool}:zT d i (B b)=[]:=(rfl)
@[go_sem] theorem qwv:zT d i (S l)=[]:=(rfl)
@[go_sem] theorem qwx:zT d i (U8 u)=[]:=(rfl)
@[go_sem] theorem qww:zT d i (U32 u)=[]:=(rfl)
@[go_sem] theorem qwJ:zT d i zX=[]:=(rfl)
@[go_sem] theorem qwt {g:Nat}:zT d i (Fc g)=[]:=(rfl)
@[go_sem] theorem qwC:zT d i (.i τ xs)=[]:=(rfl)
@[go_sem] theorem qwE:zT d i (.o e xs)=[]:=(rfl)
@[go_sem] theorem qwH:zT d i (.s k lo len)=[]:=(rfl)
@[go_sem] theorem qwF:zT d i (.p k lo len)=[]:=(rfl)
@[go_sem] theorem qwG:zT d i (.q τ xs lo len)=[]:=(rfl)
@[go_sem] theorem qwz:zT d i (.b x)=[]:=(rfl)
@[go_sem] theorem qwB:zT d i (.f fn xs ys)=[]:=(rfl)
@[go_sem] theorem qwI:zT d i (.t xs)=[]:=(rfl)
@[go_sem] theorem qwA:zT d i .d=[]:=(rfl)
@[go_sem] theorem qwD:zT d i (.n e)=[((d,i),e,[])]:=(rfl)
@[go_sem] theorem qwy:zT d i (.a xs)=k9 d i xs:=(rfl)
def qae(xs:List V):List V:=zw (qu xs) xs (zN 0 0 false xs)
@[go_sem] theorem qry:qae xs=zw (qu xs) xs (zN 0 0 false xs):=(rfl)
@[go_sem] theorem qvQ:xI d i true [x]=[qI d i true x]:=(rfl)
@[go_sem] theorem qvR:xI d i false xs=qae xs:=by
 unfold xI qae zw
 split
 ·simp only [Bool.false_eq_true,if_false,qu,Bool.and_true,zN]
 ·rfl
@[go_sem] theorem qvO:QN d i true [x]=zT d i x:=(rfl)
@[go_sem] theorem qvP:QN d i false xs=[]:=by unfold QN;split<;>rfl
@[go_sem] theorem qvT:yq bx []=[]:=(rfl)
@[go_sem] theorem qvS {ob:Ob}:yq bx ((k,ob)::M)=if NB≤k.1 then yq bx M else QN (2*NB+k.1) (10*k.2) (yL k bx) ob.2++(k,ob.1,xI (2*NB+k.1) (10*k.2) (yL k bx) ob.2)::yq bx M:=(rfl)
def Ja(o:Option Nat) (k:Key):Option Key:=match o with|some i=>some (CN,i)|none=>if k.1=CN then none else some k
@[go_sem] theorem qyC:yR tb k=Ja (j3 k 0 tb) k:=by unfold yR Ja;cases j3 k 0 tb<;>rfl
@[go_sem] theorem qyB:Ja (some i) k=some (CN,i):=(rfl)
@[go_sem] theorem qyA:Ja none k=if k.1=CN then none else some k:=(rfl)
def sOf(o:Option Key) (a b:Nat):V:=match o with|some k=> .s k a b|none=> .d
def pOf(o:Option Key) (a b:Nat):V:=match o with|some k=> .p k a b|none=> .d
@[go_sem] theorem qzQ:sOf (some k) i j= .s k i j:=(rfl)
@[go_sem] theorem qyg:pOf (some k) i j= .p k i j:=(rfl)
@[go_sem] theorem qzP:sOf none i j= .d:=(rfl)
@[go_sem] theorem qyf:pOf none i j= .d:=(rfl)
@[go_sem] theorem qyW:qR tb (.s k i j)=sOf (yR tb k) i j:=by simp only [qR,sOf];cases yR tb k<;>rfl
@[go_sem] theorem qyV:qR tb (.p k i j)=pOf (yR tb k) i j:=by simp only [qR,pOf];cases yR tb k<;>rfl
@[go_sem] theorem qyJ:qR tb (I u)=I u:=(rfl)
@[go_sem] theorem qyH {b:Bool}:qR tb (B b)=B b:=(rfl)
@[go_sem] theorem qyK:qR tb (S l)=S l:=(rfl)
@[go_sem] theorem qyM:qR tb (U8 u)=U8 u:=(rfl)
@[go_sem] theorem qyL:qR tb (U32 u)=U32 u:=(rfl)
@[go_sem] theorem qyY:qR tb zX=zX:=(rfl)
@[go_sem] theorem qyI {g:Nat}:qR tb (Fc g)=Fc g:=(rfl)
@[go_sem] theorem qyR:qR tb (.i τ xs)= .i τ xs:=(rfl)
@[go_sem] theorem qkw:qR tb (.q τ xs i j)= .q τ xs i j:=(rfl)
@[go_sem] theorem qyU:qR tb (.o e xs)= .o e xs:=(rfl)
@[go_sem] theorem qyO:qR tb (.b x)= .b x:=(rfl)
@[go_sem] theorem qyT:qR tb (.n e)= .n e:=(rfl)
@[go_sem] theorem qyP:qR tb .d= .d:=(rfl)
@[go_sem] theorem qyQ:qR tb (.f fn xs ys)= .f fn (zV tb xs) (zV tb ys):=(rfl)
@[go_sem] theorem qyN:qR tb (.a xs)= .a (zV tb xs):=(rfl)
@[go_sem] theorem qyX:qR tb (.t xs)= .t (zV tb xs):=(rfl)
def Jb(o:Option Key) (e:Nat) (xs:List V) (r:Mem):Mem:=match o with|some k=>(k,e,xs)::r|none=>r
@[go_sem] theorem qyE {r:Mem}:Jb (some k) e xs r=(k,e,xs)::r:=(rfl)
@[go_sem] theorem qyD {r:Mem}:Jb none e xs r=r:=(rfl)
@[go_sem] theorem qyG:x9 tb []=[]:=(rfl)
@[go_sem] theorem qyF {ob:Ob}:x9 tb ((k,ob)::M)=Jb (yR tb k) ob.1 (zw (qu ob.2) ob.2 (zV tb ob.2)) (x9 tb M):=by
 obtain ⟨e,xs⟩:=ob
 simp only [x9,Jb,zw]
 cases yR tb k<;>rfl
end nm
attribute [go_sem] yg j1 yK yL qaP qe4 List.reverse_cons List.reverse_nil
@[go_sem] theorem qr5 {n:Int}:yg (I n)=[]:=(rfl)
@[go_sem] theorem qr3 {b:Bool}:yg (B b)=[]:=(rfl)
@[go_sem] theorem qr6 {l:List UInt8}:yg (S l)=[]:=(rfl)
@[go_sem] theorem qr8 {n:Int}:yg (U8 n)=[]:=(rfl)
@[go_sem] theorem qr7 {n:Int}:yg (U32 n)=[]:=(rfl)
@[go_sem] theorem qr4 {g:Nat}:yg (Fc g)=[]:=(rfl)
@[go_sem] theorem qr9:yg zX=[]:=(rfl)
def Jf(T:Mem) (k:Key) (ob:Option Ob):Mem:=
 match ob with
 |none=>T
 |some ob=>zw (qu ob.2) (xL k ob (qy T k)) T
@[go_sem] theorem qzK {k:Key}:qbe T k=Jf T k (qp T k):=by
 unfold qbe Jf zw;cases qp T k<;>rfl
@[go_sem] theorem qzI {k:Key}:Jf T k none=T:=(rfl)
@[go_sem] theorem qzJ {k:Key} {ob:Ob}:Jf T k (some ob)=zw (qu ob.2) (xL k ob (qy T k)) T:=(rfl)
def KX(d:Nat) (k:Key) (i:Nat) (σ:Sl) (T:Mem) (ob:Option Ob):St:=
 match ob with
 |some ob=>(match ob.2[i]? with
  |some x=>⟨σ,(qG d 0 x).2.2++((k,ob.1,ob.2.set i (qG d 0 x).1)::qy T k)⟩
  |none=>⟨σ,T⟩)
 |none=>⟨σ,T⟩
def qef(d:Nat) (k:Key) (i:Nat) (σ:Sl) (T:Mem) (ob:Ob) (x:Option V):St:=
 match x with
 |some x=>⟨σ,(qG d 0 x).2.2++((k,ob.1,ob.2.set i (qG d 0 x).1)::qy T k)⟩
 |none=>⟨σ,T⟩
def Xd(d:Nat) (v:Option V):List (Nat × Key × Nat):=
 match v with
 |some (.p k idx _)=>[(d,k,idx)]
 |_=>[]
def ZK(d:Nat) (v w:Option V):List (Nat × Key × Nat):=
 match v with
 |some (.s k lo _)=>match w with
  |some (.v (.int _ n))=>[(d,k,lo+n.toNat)]
  |_=>[]
 |_=>[]
@[congr] theorem qsX {d:Nat} {v v':Option V} (h:v=v'):Xd d v=Xd d v':=by rw [h]
@[congr] theorem qsS {d:Nat} {v v' w w':Option V} (h:v=v') (h':w=w'):ZK d v w=ZK d v' w':=by rw [h,h']
@[go_sem] theorem qsV {d r:Nat}:xU σ d r none=Xd d (qw σ r):=by
 unfold xU Xd
 cases qw σ r with
 |none=>rfl
 |some v=>cases v<;>rfl
@[go_sem] theorem qsW {d r i:Nat}:xU σ d r (some i)=ZK d (qw σ r) (qw σ i):=by
 unfold xU ZK
 cases qw σ r with
 |none=>rfl
 |some v=>cases v<;>rfl
@[go_sem] theorem qsY {d a b:Nat} {k:Key}:Xd d (some (.p k a b))=[(d,k,a)]:=(rfl)
@[go_sem] theorem qsT {d a b:Nat} {k:Key} {w:Option V}:ZK d (some (.p k a b)) w=[]:=(rfl)
def Kp(d:Nat) (ob:Option Ob) (w:Option V):List (Nat × Key × Nat):=
 match ob with
 |some (_,[.a (.s k' lo _::_)])=>match w with
  |some (.v (.int _ n))=>[(d,k',lo+n.toNat)]
  |_=>[]
 |_=>[]
def Ko(d:Nat) (T:Mem) (v w:Option V):List (Nat × Key × Nat):=
 match v with
 |some (.p k _ _)=>Kp d (qp T k) w
 |_=>[]
@[go_sem] theorem qsR {d r i:Nat}:QE ⟨σ,T⟩ d r (some i)=Ko d T (qw σ r) (qw σ i):=by
 unfold QE Ko Kp
 simp only
 cases qw σ r with
 |none=>rfl
 |some v=>cases v<;>rfl
@[go_sem] theorem qsO {d a b:Nat} {k:Key} {w:Option V}:Ko d T (some (.p k a b)) w=Kp d (qp T k) w:=(rfl)
@[go_sem] theorem qsP {d a b:Nat} {k:Key} {w:Option V}:Ko d T (some (.s k a b)) w=[]:=(rfl)
@[go_sem] theorem qsQ {d e a b:Nat} {k:Key} {xs:List V} {n:Int}:Kp d (some (e,[.a (.s k a b::xs)])) (some (I n))=[(d,k,a+n.toNat)]:=(rfl)
@[go_sem] theorem qsU {d a b:Nat} {k:Key} {n:Int}:ZK d (some (.s k a b)) (some (I n))=[(d,k,a+n.toNat)]:=(rfl)
@[go_sem] theorem qxn:kE [] st=st:=(rfl)
@[go_sem] theorem qxl {d r:Nat} {os:List (Nat × Nat × Option Nat)}:kE ((d,r,none)::os) ⟨σ,T⟩=kE os (xo (xU σ d r none) ⟨σ,T⟩):=(rfl)
@[go_sem] theorem qxm {d r i:Nat} {os:List (Nat × Nat × Option Nat)}:kE ((d,r,some i)::os) ⟨σ,T⟩=kE os (xo (xU σ d r (some i)) (xo (QE ⟨σ,T⟩ d r (some i)) ⟨σ,T⟩)):=(rfl)
@[go_sem] theorem qx2:xo [] st=st:=(rfl)
@[go_sem] theorem qx1 {d i:Nat} {k:Key} {r:List (Nat × Key × Nat)}:xo ((d,k,i)::r) ⟨σ,T⟩=xo r (ZR d k i ⟨yM d σ,wT d T⟩):=(rfl)
@[go_sem] theorem qx5 {d i:Nat} {k:Key}:ZR d k i ⟨σ,T⟩=KX d k i σ T (qp T k):=by
 unfold ZR KX;simp only;cases qp T k<;>rfl
@[go_sem] theorem qx4 {d i:Nat} {k:Key} {ob:Ob}:KX d k i σ T (some ob)=qef d k i σ T ob ob.2[i]? :=(rfl)
@[go_sem] theorem qx3 {d i:Nat} {k:Key}:KX d k i σ T none=⟨σ,T⟩:=(rfl)
@[go_sem] theorem qx6 {d i:Nat} {k:Key} {ob:Ob} {x:V}:qef d k i σ T ob (some x)=⟨σ,(qG d 0 x).2.2++((k,ob.1,ob.2.set i (qG d 0 x).1)::qy T k)⟩:=(rfl)
structure Lp where
 ls:List Nat
 ks:List Key
 body:AC
def lpC(l:Lp):AC:= .loop l.ls l.ks l.body
noncomputable def lw(prog:Nat→Option AE) (l:Lp) (s:St):Option (AX × St):=xA (xw prog l.body s) fun st'=>xw prog (lpC l) st'
@[go_sem] theorem ql1 {l:Lp}:xw prog (lpC l) st=lw prog l (xb l.ls l.ks st):=by
 unfold lw lpC;exact ql0
theorem qY(l:Lp) (s:St):lw prog l s=xA (xw prog l.body s) fun st'=>lw prog l (xb l.ls l.ks st'):=by
 unfold lw
 congr 1
 funext st'
 rw [ql1];rfl
def Jd(T:Mem) (k:Key) (agg:Bool) (size:Nat) (ob:Option Ob):Option (V × Mem):=
 match ob with
 |some (_,[x])=>(qT agg size x 0).bind fun y=>if x.cells.length=y.cells.length then some (y,qy T k)else none
 |_=>none
def Y4 {α:Type} (r:Option (V × Mem)) (k:V→Mem→Option α):Option α:=
 match r with
 |some (x,T)=>k x T
 |none=>none
@[congr] theorem qpB {α:Type} {r r':Option (V × Mem)} {k:V→Mem→Option α} (h:r=r'):Y4 r k=Y4 r' k:=by rw [h]
@[go_sem] theorem qpC {α:Type} {z:V} {k:V→Mem→Option α}:Y4 (some (z,T)) k=k z T:=(rfl)
@[go_sem] theorem qzG {t:Nat}:je ⟨σ,T⟩ (.tmp t)=qo (qw σ t) fun x=>some (x,T):=by
 simp only [je];cases qw σ t<;>rfl
def qaY(x:V) (k:Key→Option (V × Mem)):Option (V × Mem):=
 match x with
 | .p k' 0 0=>k k'
 |_=>none
@[go_sem] theorem qyz {k':Key} {k:Key→Option (V × Mem)}:qaY (.p k' 0 0) k=k k':=(rfl)
@[go_sem] theorem qzF {t size:Nat} {agg:Bool}:je ⟨σ,T⟩ (.cell t agg size)=qo (qw σ t) fun x=>qaY x fun k=>Jd T k agg size (qp T k):=by
 simp only [je]
 cases qw σ t with
 |none=>rfl
 |some x=>
  cases x<;>first|rfl|skip
  rename_i k idx off
  cases idx with
  |succ=>rfl
  |zero=>cases off with
   |succ=>rfl
   |zero=>
    simp only [qo,qaY,Jd]
    cases qp T k with
    |none=>rfl
    |some ob=>obtain ⟨e,xs⟩:=ob;rcases xs with _|⟨x,_|⟨y,r⟩⟩<;>rfl
@[go_sem] theorem qzC {k:Key} {agg:Bool} {e size:Nat} {z:V}:Jd T k agg size (some (e,[z]))=qo (qT agg size z 0) fun y=>if z.cells.length=y.cells.length then some (y,qy T k)else none:=by
 simp only [Jd];cases qT agg size z 0<;>rfl
@[go_sem] theorem qzE:yt σ T []=some ([],T):=(rfl)
@[go_sem] theorem qzD {r:AR} {rs:List AR}:yt σ T (r::rs)=Y4 (je ⟨σ,T⟩ r) fun x T'=>Qx (yt σ T' rs) fun xs T''=>some (x::xs,T''):=by
 simp only [yt]
 cases je ⟨σ,T⟩ r with
 |none=>rfl
 |some xT=>obtain ⟨x,T'⟩:=xT;simp only [Y4];cases yt σ T' rs<;>rfl
@[go_sem] theorem qw2 {z:V}:xZ [z]=z:=(rfl)
@[go_sem] theorem qw3 {z z':V} {zs:List V}:xZ (z::z'::zs)= .t (z::z'::zs):=(rfl)
@[go_sem] theorem qw1:xZ []= .t []:=(rfl)
attribute [go_sem] q7 yu qgf Option.some_beq_none Option.some_beq_some Option.none_beq_some
attribute [go_sem] Bool.true_and Bool.and_true Bool.false_and Bool.and_false Bool.not_true Bool.not_false Bool.or_true Bool.true_or Bool.or_false Bool.false_or if_true if_false
 decide_true decide_false decide_eq_true_eq ne_eq not_true_eq_false not_false_eq_true and_self and_true true_and and_false false_and beq_self_eq_true Bool.not_eq_eq_eq_not Bool.false_eq_true decide_not ite_not Bool.not_not
 eq_self Prod.mk.injEq List.contains_nil List.contains_cons Option.isNone_none Option.isNone_some
end
end Go.Vm
namespace Go.Vm
section
variable {prog:Nat→Option AE} {st:St} {σ:Sl} {T:Mem} {call:qS} {d j e lo:Nat} {k:Key} {es:List (Int × Int)} {τ:Bool} {n u:Int} {o:Option Bool} {tb:List Key} {nm:Bool}
def y9 {α:Type} (x:V) (g:Int→Option α):Option α:=
 match x with
 | .v (.int .i64 n)=>g n
 |_=>none
@[go_sem] theorem qw0 {α:Type} {g:Int→Option α}:y9 (I n) g=g n:=(rfl)
def kP {α:Type} (r:Option (List (Int × Int))) (g:List (Int × Int)→Option α):Option α:=
 match r with
 |some es=>g es
 |none=>none
@[congr] theorem qpj {α:Type} {r r':Option (List (Int × Int))} {g:List (Int × Int)→Option α} (h:r=r'):kP r g=kP r' g:=by rw [h]
@[go_sem] theorem qpk {α:Type} {g:List (Int × Int)→Option α}:kP (some es) g=g es:=(rfl)
def qcZ(ob:Option Ob):Option (List (Int × Int)):=
 match ob with
 |some (_,[.w _ es])=>some es
 |_=>none
@[go_sem] theorem qtc:qcZ (some (e,[.w o es]))=some es:=(rfl)
@[go_sem] theorem qta:yp T (.m k)=qcZ (qp T k):=(rfl)
@[go_sem] theorem qtb:yp T (.w (some τ) es)=some es:=(rfl)
def qfo(T:Mem) (k:Key) (ob:Option Ob) (es:List (Int × Int)):Option Mem:=
 match ob with
 |some _=>some ((k,0,[.w (some true) es])::qy T k)
 |none=>none
@[go_sem] theorem qzU {ob:Ob}:qfo T k (some ob) es=some ((k,0,[.w (some true) es])::qy T k):=(rfl)
@[go_sem] theorem qzT:kd T (.m k) es=qfo T k (qp T k) es:=(rfl)
@[go_sem] theorem qtQ:qm call ⟨σ,T⟩ (.mkm d)=some ⟨(d,.m (d,0))::yM d σ,((d,0),0,[.w (some true) []])::wT d T⟩:=(rfl)
@[go_sem] theorem qtS {m k v:AO}:qm call ⟨σ,T⟩ (.mset m k v)=qo (ev σ m) fun m=>qo (ev σ k) fun k=>qo (ev σ v) fun v=>y9 k fun k=>y9 v fun v=>kP (yp T m) fun es=>jr (kd T m (zU k v es)) fun T'=>some ⟨σ,T'⟩:=by
 simp only [qm,qh]
 cases ev σ m with
 |none=>rfl
 |some m=>
 cases ev σ k with
 |none=>rfl
 |some k=>
 cases ev σ v with
 |none=>simp only [qo]
 |some v=>
 simp only [qo]
 split
 ·rename_i h1 h2 h3
  simp only [Option.some.injEq]at h1 h2 h3;subst h1;subst h2;subst h3
  simp only [y9]
  cases yp T m with
  |none=>rfl
  |some es=>simp only [kP];cases kd T m _<;>rfl
 ·rename_i h
  unfold y9
  split
  ·split
   ·exact absurd rfl (h _ _ _ rfl rfl)
   ·rfl
  ·rfl
@[go_sem] theorem qtO {m k:AO}:qm call ⟨σ,T⟩ (.mget d m k)=qo (ev σ m) fun m=>qo (ev σ k) fun k=>y9 k fun k=>kP (yp T m) fun es=>some ⟨(d,I ((zf k es).getD 0))::σ,T⟩:=by
 simp only [qm,qh]
 cases ev σ m with
 |none=>rfl
 |some m=>
 cases ev σ k with
 |none=>rfl
 |some k=>
 simp only [qo]
 split
 ·rename_i h1 h2
  simp only [Option.some.injEq]at h1 h2;subst h1;subst h2
  simp only [y9]
  cases yp T m<;>rfl
 ·rename_i h
  unfold y9
  split
  ·exact absurd rfl (h _ _ rfl)
  ·rfl
@[go_sem] theorem qtM {m k:AO}:qm call ⟨σ,T⟩ (.men d m k)=qo (ev σ m) fun m=>qo (ev σ k) fun k=>y9 k fun k=>kP (yp T m) fun es=>jr (kd T m (zU k ((zf k es).getD 0) es)) fun T'=>some ⟨(d,.t [I ((zf k es).getD 0),I (zc k es)])::σ,T'⟩:=by
 simp only [qm,qh]
 cases ev σ m with
 |none=>rfl
 |some m=>
 cases ev σ k with
 |none=>rfl
 |some k=>
 simp only [qo]
 split
 ·rename_i h1 h2
  simp only [Option.some.injEq]at h1 h2;subst h1;subst h2
  simp only [y9]
  cases yp T m with
  |none=>rfl
  |some es=>simp only [kP];cases kd T m _<;>rfl
 ·rename_i h
  unfold y9
  split
  ·exact absurd rfl (h _ _ rfl)
  ·rfl
def Xl {α:Type} (i:Option Nat) (g:Nat→Option α):Option α:=
 match i with
 |some i=>g i
 |none=>none
@[congr] theorem qub {α:Type} {i i':Option Nat} {g:Nat→Option α} (h:i=i'):Xl i g=Xl i' g:=by rw [h]
@[go_sem] theorem quc {α:Type} {i:Nat} {g:Nat→Option α}:Xl (some i) g=g i:=(rfl)
@[go_sem] theorem qtN {m k v:AO}:qm call ⟨σ,T⟩ (.mes m k v)=qo (ev σ m) fun m=>qo (ev σ k) fun k=>qo (ev σ v) fun v=>y9 k fun s=>y9 v fun v=>kP (yp T m) fun es=>Xl (zI s es.length) fun i=>jr (kd T m (es.modify i fun e=>(e.1,v))) fun T'=>some ⟨σ,T'⟩:=by
 simp only [qm,qh]
 cases ev σ m with
 |none=>rfl
 |some m=>
 cases ev σ k with
 |none=>rfl
 |some k=>
 cases ev σ v with
 |none=>simp only [qo]
 |some v=>
 simp only [qo]
 split
 ·rename_i h1 h2 h3
  simp only [Option.some.injEq]at h1 h2 h3;subst h1;subst h2;subst h3
  simp only [y9]
  cases yp T m with
  |none=>rfl
  |some es=>
   simp only [kP]
   cases zI _ es.length with
   |none=>rfl
   |some i=>simp only [Xl];cases kd T m _<;>rfl
 ·rename_i h
  unfold y9
  split
  ·split
   ·exact absurd rfl (h _ _ _ rfl rfl)
   ·rfl
  ·rfl
theorem qdM(k v w:Int): ∀ (es:List (Int × Int)),(zU k w es).modify (zc k es) (fun e=>(e.1,v))=zU k v es
 |[]=>rfl
 |(a,b)::r=>by
  simp only [zU,zc]
  split
  ·rfl
  ·simp only [List.modify_succ_cons,qdM k v w r]
theorem qem(k w:Int): ∀ (es:List (Int × Int)),zc k es < (zU k w es).length
 |[]=>by simp [zU,zc]
 |(a,b)::r=>by
  simp only [zU,zc]
  split
  ·simp
  ·have:=qem k w r;simp only [List.length_cons];omega
theorem qhj(k w:Int) (es:List (Int × Int)):zI (zc k es:Int) (zU k w es).length=some (zc k es):=by
 have:=qem k w es
 unfold zI
 rw [if_pos ⟨by omega,by omega⟩];simp
attribute [go_sem] qdM qhj
@[go_sem] theorem qoh:qh call ⟨σ,T⟩ (.mkm d)=qm call ⟨σ,T⟩ (.mkm d):=(rfl)
@[go_sem] theorem qoj {m k v:AO}:qh call ⟨σ,T⟩ (.mset m k v)=qm call ⟨σ,T⟩ (.mset m k v):=(rfl)
@[go_sem] theorem qof {m k:AO}:qh call ⟨σ,T⟩ (.mget d m k)=qm call ⟨σ,T⟩ (.mget d m k):=(rfl)
@[go_sem] theorem qod {m k:AO}:qh call ⟨σ,T⟩ (.men d m k)=qm call ⟨σ,T⟩ (.men d m k):=(rfl)
@[go_sem] theorem qoe {m k v:AO}:qh call ⟨σ,T⟩ (.mes m k v)=qm call ⟨σ,T⟩ (.mes m k v):=(rfl)
@[go_sem] theorem qqz:(V.m k).cells=[V.m k]:=(rfl)
@[go_sem] theorem qqH:(V.w o es).cells=[V.w o es]:=(rfl)
@[go_sem] theorem qxe:(V.m k).one=true:=(rfl)
@[go_sem] theorem qxk:(V.w o es).one=true:=(rfl)
@[go_sem] theorem qut:(V.m k).isA=false:=(rfl)
@[go_sem] theorem qux:(V.w o es).isA=false:=(rfl)
@[go_sem] theorem qxW:zd d j (.m k)=(.m k,j,[]):=(rfl)
@[go_sem] theorem qxZ:zd d j (.w none es)=(.m (d,j),j+1,[((d,j),0,[.w (some true) es])]):=(rfl)
@[go_sem] theorem qx0:zd d j (.w (some τ) es)=(.w (some τ) es,j,[]):=(rfl)
def mK(T':Mem) (ob:Option Ob) (T:Mem):V × Mem:=
 match ob with
 |some (_,[.w _ es])=>(.w none es,T')
 |_=>(.d,T)
@[go_sem] theorem qvq {T':Mem}:mK T' (some (e,[.w o es])) T=(.w none es,T'):=(rfl)
@[go_sem] theorem qrk {m:Nat}:qq (m+1) T (.m k)=mK (qy T k) (qp T k) T:=(rfl)
@[go_sem] theorem qrq {m:Nat}:qq (m+1) T (.w o es)=(.w o es,T):=(rfl)
@[go_sem] theorem qv5 {i:Nat}:qI d i nm (.m k)=if NB≤k.1 then .d else .m k:=(rfl)
@[go_sem] theorem qwd {i:Nat}:qI d i nm (.w o es)= .w o es:=(rfl)
def mOf(o:Option Key):V:=match o with|some k=> .m k|none=> .d
@[congr] theorem qvr {o o':Option Key} (h:o=o'):mOf o=mOf o':=by rw [h]
@[go_sem] theorem qvs:mOf (some k)= .m k:=(rfl)
@[go_sem] theorem qyS:qR tb (.m k)=mOf (yR tb k):=by simp only [qR,mOf];cases yR tb k<;>rfl
@[go_sem] theorem qyZ:qR tb (.w o es)= .w o es:=(rfl)
@[go_sem] theorem qvd {n:Nat}:qT false n (.m k) 0=some (.m k):=(rfl)
@[go_sem] theorem qvh {n:Nat}:qT false n (.w o es) 0=some (.w o es):=(rfl)
end
end Go.Vm
namespace Go.Vm
abbrev Str:=List UInt8
theorem ky {α:Type} {l:List α} {i:Nat} {x:α} (h:l[i]? =some x):l.drop i=x::l.drop (i+1):=by
 obtain ⟨hl,rfl⟩:=List.getElem?_eq_some_iff.1 h
 exact List.drop_eq_getElem_cons hl
theorem xX {α:Type} {l:List α} {i:Nat} (h:i < l.length): ∃ x,l[i]? =some x:=⟨_,List.getElem?_eq_getElem h⟩
def RL {α:Type} (R:α→V→Prop):List α→List V→Prop
 |[],vs=>vs=[]
 |t::ts,vs=> ∃ v vs',vs=v::vs'∧R t v∧RL R ts vs'
section
variable {α:Type} {R R':α→V→Prop}
theorem zE: ∀ {ts:List α} {vs:List V},RL R ts vs→vs.length=ts.length
 |[],vs,h=>by simp only [RL]at h;simp [h]
 |t::ts,vs,h=>by
  simp only [RL]at h
  obtain ⟨v,vs',rfl,-,h⟩:=h
  simp [zE h]
theorem ko: ∀ {ts:List α} {vs:List V} {i:Nat} {t:α},RL R ts vs→ts[i]? =some t→ ∃ v,vs[i]? =some v∧R t v
 |[],vs,i,t,h,ht=>by simp at ht
 |t'::ts,vs,i,t,h,ht=>by
  simp only [RL]at h
  obtain ⟨v,vs',rfl,h1,h2⟩:=h
  cases i with
  |zero=>simp at ht;subst ht;exact ⟨v,rfl,h1⟩
  |succ i=>simpa using ko h2 (by simpa using ht)
theorem qbS {f:α→V} (h: ∀ t,R t (f t)): ∀ (ts:List α),RL R ts (ts.map f)
 |[]=>rfl
 |t::ts=>by simp only [RL,List.map_cons];exact ⟨_,_,rfl,h t,qbS h ts⟩
end
def RI(n:Int) (v:V):Prop:=v=I n
def RS(s:Str) (v:V):Prop:=v=S s
mutual
theorem qdB(d:Nat): ∀ (x:V),clB x=true→qA d x=x
 | .v _,_| .q ..,_| .i ..,_| .o ..,_| .b _,_| .n _,_| .w ..,_=>rfl
 | .f fn first caps,h=>by
   simp only [clB,Bool.and_eq_true]at h
   simp only [qA,KI d first h.1,KI d caps h.2]
 | .p ..,h| .s ..,h| .a _,h| .t _,h| .m _,h| .d,h=>by simp [clB]at h
theorem KI(d:Nat): ∀ (xs:List V),yI xs=true→qz d xs=xs
 |[],_=>rfl
 |x::xs,h=>by
  simp only [yI,Bool.and_eq_true]at h
  simp only [qz,qdB d x h.1,KI d xs h.2]
end
theorem kB(d:Nat) (x:V) (h:clE x=true):qA d x=x:=by
 cases x
 case a cs=>simp only [clE]at h;simp only [qA,KI d cs h]
 all_goals exact qdB d _ h
theorem j4(d:Nat): ∀ (xs:List V),qu xs=true→qz d xs=xs
 |[],_=>rfl
 |x::xs,h=>by
  simp only [qu,Bool.and_eq_true]at h
  simp only [qz,kB d x h.1,j4 d xs h.2]
theorem J8: ∀ (xs ys:List V),qu (xs++ys)=(qu xs&&qu ys)
 |[],ys=>by simp [qu]
 |x::xs,ys=>by simp only [List.cons_append,qu,J8 xs ys,Bool.and_assoc]
theorem KF(d:Nat): ∀ (xs ys:List V),qz d (xs++ys)=qz d xs++qz d ys
 |[],ys=>rfl
 |x::xs,ys=>by simp only [List.cons_append,qz,KF d xs ys]
theorem qcH(τ:Bool): ∀ (xs ys:List V),qO τ (xs++ys)=qO τ xs++qO τ ys
 |[],ys=>rfl
 |x::xs,ys=>by simp only [List.cons_append,qO,qcH τ xs ys]
theorem Y8(n:Nat) (z:V) (h:clE z=true):qu (List.replicate n z)=true:=by
 induction n with
 |zero=>rfl
 |succ n ih=>simp only [List.replicate_succ,qu,h,ih,Bool.and_self]
theorem KH(d n:Nat) (z:V) (h:clE z=true):qz d (List.replicate n z)=List.replicate n z:=j4 d _ (Y8 n z h)
section
variable {α:Type} {f:α→V}
theorem xS(h: ∀ x,clE (f x)=true): ∀ (l:List α),qu (l.map f)=true
 |[]=>rfl
 |x::l=>by simp only [List.map_cons,qu,h x,xS h l,Bool.and_self]
theorem kV(h: ∀ x,clE (f x)=true) (d:Nat) (l:List α):qz d (l.map f)=l.map f:=j4 d _ (xS h l)
theorem jY {g:α→V} {τ:Bool} (h: ∀ x,qM τ (f x)=g x): ∀ (l:List α),qO τ (l.map f)=l.map g
 |[]=>rfl
 |x::l=>by simp only [List.map_cons,qO,h x,jY h l]
theorem xK(h: ∀ x,qP (f x)=true): ∀ (l:List α),qW (l.map f)=true
 |[]=>rfl
 |x::l=>by simp only [List.map_cons,qW,h x,xK h l,Bool.and_self]
theorem qb1 {e:Nat} (h: ∀ x,zB (f x).cells=true∧(f x).cells.length=e): ∀ (l:List α),jp e (l.map f)=true
 |[]=>rfl
 |x::l=>by simp only [List.map_cons,jp,(h x).1,(h x).2,qb1 h l,beq_self_eq_true,Bool.and_self]
theorem Jc(k:Key) (ob:Ob): ∀ (xs ys:List V),qu xs=true→zD k ob (xs++ys)=(zD k ob ys).map (xs++ ·)
 |[],ys,_=>by simp
 |x::xs,ys,h=>by
  simp only [qu,Bool.and_eq_true]at h
  have hC: ∀ (c:V),clB c=true→z8 k ob c=none:=by intro c hc;cases c<;>first|rfl|(simp [clB]at hc)
  have hCs: ∀ (cs:List V),yI cs=true→xc k ob cs=none:=by
   intro cs
   induction cs with
   |nil=>intro _;rfl
   |cons c cs ih=>
    intro h
    simp only [yI,Bool.and_eq_true]at h
    simp only [xc,hC c h.1,ih h.2,Option.map_none]
  have hE:xd k ob x=none:=by
   cases x
   case a cs=>simp only [clE]at h;simp only [xd,hCs cs h.1,Option.map_none]
   all_goals exact hC _ h.1
  simp only [List.cons_append,zD,hE,Jc k ob xs ys h.2]
  cases zD k ob ys<;>rfl
end
@[go_sem] theorem qcy(l:List Int):qu (l.map I)=true:=xS (fun _=>rfl) l
@[go_sem] theorem qcz(l:List Str):qu (l.map S)=true:=xS (fun _=>rfl) l
@[go_sem] theorem quC(d:Nat) (l:List Int):qz d (l.map I)=l.map I:=kV (fun _=>rfl) d l
@[go_sem] theorem quD(d:Nat) (l:List Str):qz d (l.map S)=l.map S:=kV (fun _=>rfl) d l
@[go_sem] theorem qrz(τ:Bool) (l:List Int):qO τ (l.map I)=l.map I:=jY (fun _=>rfl) l
@[go_sem] theorem qrA(τ:Bool) (l:List Str):qO τ (l.map S)=l.map S:=jY (fun _=>rfl) l
@[go_sem] theorem qwL(l:List Int):qW (l.map I)=true:=xK (fun _=>rfl) l
@[go_sem] theorem qwM(l:List Str):qW (l.map S)=true:=xK (fun _=>rfl) l
attribute [go_sem] J8 KF qcH Y8 KH
@[go_sem] theorem qgt(n:Nat) (l:Str):qu (List.replicate n (S l))=true:=Y8 n _ rfl
@[go_sem] theorem qqM(n:Nat) (i:Int):qu (List.replicate n (I i))=true:=Y8 n _ rfl
@[go_sem] theorem quJ(d n:Nat) (l:Str):qz d (List.replicate n (S l))=List.replicate n (S l):=KH d n _ rfl
@[go_sem] theorem quI(d n:Nat) (i:Int):qz d (List.replicate n (I i))=List.replicate n (I i):=KH d n _ rfl
attribute [go_sem] List.length_map List.length_replicate Nat.zero_add Nat.add_zero Nat.le_refl List.take_length
@[go_sem] theorem qvC {α:Type} {f:α→V} {l:List α} {x:α}:l.map f++[f x]=(l++[x]).map f:=by simp
@[go_sem] theorem qz6 {α:Type} {f:α→V} {l:List α} {x:α}:((l++[x]).map f).take (l.length+1)=(l++[x]).map f:=by
 apply List.take_of_length_le;simp
@[go_sem] theorem qz5 {α:Type} {f:α→V} {l:List α}:(l.map f).take l.length=l.map f:=by
 rw [← List.length_map (f:=f),List.take_length]
theorem QW(k:Key) (ob:Ob) (xs:List V) (h:qu xs=true):zD k ob xs=none:=by
 have:=Jc k ob xs [] h
 rw [List.append_nil]at this
 rw [this];rfl
@[go_sem] theorem qvt(m:Nat) (T:Mem) (l:List Int):qx (zt m) T (l.map I)=(l.map I,T):=kY m T _ (qcy l)
@[go_sem] theorem qvu(m:Nat) (T:Mem) (l:List Str):qx (zt m) T (l.map S)=(l.map S,T):=kY m T _ (qcz l)
@[go_sem] theorem qvA(m n:Nat) (T:Mem) (z:V) (h:clE z=true):qx (zt m) T (List.replicate n z)=(List.replicate n z,T):=kY m T _ (Y8 n z h)
@[go_sem] theorem qvB(m n:Nat) (T:Mem) (l:Str):qx (zt m) T (List.replicate n (S l))=(List.replicate n (S l),T):=kY m T _ (qgt n l)
@[go_sem] theorem qzh(k:Key) (ob:Ob) (l:List Int):zD k ob (l.map I)=none:=QW k ob _ (qcy l)
@[go_sem] theorem qzi(k:Key) (ob:Ob) (l:List Str):zD k ob (l.map S)=none:=QW k ob _ (qcz l)
section lit
variable {k:Key} {lo len e:Nat} {xs:List V}
theorem qdt {i:Nat} (h:i < len) (hl:lo+len≤xs.length):ixO k lo len e (i:Int) (some (e,xs))=some (.p k (lo+i) 0):=by
 simp only [ixO,zI]
 rw [if_pos ⟨trivial,hl⟩,if_pos ⟨by omega,by omega⟩]
 simp
@[go_sem] theorem quy:ixO k lo len e 0 (some (e,xs))=if 1≤len∧lo+len≤xs.length then some (.p k (lo+0) 0)else none:=by
 split
 ·rename_i h;exact qdt (i:=0) h.1 h.2
 ·rename_i h
  simp only [ixO,zI]
  split
  ·rename_i h2;rw [if_neg (by omega)];rfl
  ·rfl
@[go_sem] theorem quz:ixO k lo len e 1 (some (e,xs))=if 2≤len∧lo+len≤xs.length then some (.p k (lo+1) 0)else none:=by
 split
 ·rename_i h;exact qdt (i:=1) h.1 h.2
 ·rename_i h
  simp only [ixO,zI]
  split
  ·rename_i h2;rw [if_neg (by omega)];rfl
  ·rfl
@[go_sem] theorem qov {T:Mem} {τ:Bool} {x:V}:yb T e (.i τ (x::xs)) 0=if x.cells.length=e then some (.q τ (x::xs) 0 0)else none:=by
 have h0:zI 0 (x::xs).length=some 0:=by
  unfold zI;rw [if_pos ⟨by omega,by simp only [List.length_cons];omega⟩];rfl
 simp only [yb,h0];rfl
@[go_sem] theorem qow {T:Mem} {τ:Bool} {x y:V}:yb T e (.i τ (x::y::xs)) 1=if y.cells.length=e then some (.q τ (x::y::xs) 1 0)else none:=by
 have h0:zI 1 (x::y::xs).length=some 1:=by
  unfold zI;rw [if_pos ⟨by omega,by simp only [List.length_cons];omega⟩];rfl
 simp only [yb,h0];rfl
end lit
section rep
variable {k:Key} {ob:Ob} {k':Key} {e:Nat} {xs:List V} {T:Mem}
def ZZ(k:Key) (ob:Ob) (r:Option (List V)) (k':Key) (e:Nat) (xs:List V) (T:Mem):Mem:=
 match r with
 |some xs'=>(k',e,xs')::T
 |none=>(k',e,xs)::xL k ob T
@[congr] theorem qzq {r r':Option (List V)} (h:r=r'):ZZ k ob r k' e xs T=ZZ k ob r' k' e xs T:=by rw [h]
@[go_sem] theorem qzB:xL k ob []=[]:=(rfl)
@[go_sem] theorem qzA:xL k ob ((k',e,xs)::T)=ZZ k ob (zD k ob xs) k' e xs T:=by
 simp only [xL,ZZ];cases zD k ob xs<;>rfl
@[go_sem] theorem qzs {xs':List V}:ZZ k ob (some xs') k' e xs T=(k',e,xs')::T:=(rfl)
@[go_sem] theorem qzr:ZZ k ob none k' e xs T=(k',e,xs)::xL k ob T:=(rfl)
def Z1(k:Key) (ob:Ob) (r:Option V) (x:V) (xs:List V):Option (List V):=
 match r with
 |some x'=>some (x'::xs)
 |none=>zQ (zD k ob xs) fun ys=>some (x::ys)
def Z0(k:Key) (ob:Ob) (r:Option V) (x:V) (xs:List V):Option (List V):=
 match r with
 |some x'=>some (x'::xs)
 |none=>zQ (xc k ob xs) fun ys=>some (x::ys)
@[congr] theorem qzw {r r':Option V} {x:V} (h:r=r'):Z1 k ob r x xs=Z1 k ob r' x xs:=by rw [h]
@[congr] theorem qzt {r r':Option V} {x:V} (h:r=r'):Z0 k ob r x xs=Z0 k ob r' x xs:=by rw [h]
@[go_sem] theorem qzy {x x':V}:Z1 k ob (some x') x xs=some (x'::xs):=(rfl)
@[go_sem] theorem qzx {x:V}:Z1 k ob none x xs=zQ (zD k ob xs) fun ys=>some (x::ys):=(rfl)
@[go_sem] theorem qzv {x x':V}:Z0 k ob (some x') x xs=some (x'::xs):=(rfl)
@[go_sem] theorem qzu {x:V}:Z0 k ob none x xs=zQ (xc k ob xs) fun ys=>some (x::ys):=(rfl)
@[go_sem] theorem qzp:zD k ob []=none:=(rfl)
@[go_sem] theorem qzj {x:V}:zD k ob (x::xs)=Z1 k ob (xd k ob x) x xs:=by
 simp only [zD,Z1]
 cases xd k ob x with
 |some y=>rfl
 |none=>simp only;cases zD k ob xs<;>rfl
@[go_sem] theorem qza:xc k ob []=none:=(rfl)
@[go_sem] theorem qy9 {x:V}:xc k ob (x::xs)=Z0 k ob (z8 k ob x) x xs:=by
 simp only [xc,Z0]
 cases z8 k ob x with
 |some y=>rfl
 |none=>simp only;cases xc k ob xs<;>rfl
@[go_sem] theorem qze:xd k ob (.a xs)=zQ (xc k ob xs) fun ys=>some (.a ys):=by
 simp only [xd];cases xc k ob xs<;>rfl
@[go_sem] theorem qzg {lo len:Nat}:xd k ob (.s k' lo len)=z8 k ob (.s k' lo len):=(rfl)
@[go_sem] theorem qzf {lo len:Nat}:xd k ob (.p k' lo len)=z8 k ob (.p k' lo len):=(rfl)
@[go_sem] theorem qy8 {lo len:Nat} {zs:List V}:z8 k (e,zs) (.s k' lo len)=if k'=k∧lo=0∧len=zs.length then some (.o e zs)else none:=(rfl)
@[go_sem] theorem qy7 {i o:Nat} {z:V}:z8 k (e,[z]) (.p k' i o)=if k'=k∧i=0∧o=0 then some (.b z)else none:=(rfl)
@[go_sem] theorem qy1 {n:Int}:z8 k ob (I n)=none:=(rfl)
@[go_sem] theorem qy2 {l:Str}:z8 k ob (S l)=none:=(rfl)
@[go_sem] theorem qy0 {b:Bool}:z8 k ob (B b)=none:=(rfl)
@[go_sem] theorem qy3 {n:Int}:z8 k ob (U8 n)=none:=(rfl)
@[go_sem] theorem qy4 {τ:Bool}:z8 k ob (.i τ xs)=none:=(rfl)
@[go_sem] theorem qy6:z8 k ob (.o e xs)=none:=(rfl)
@[go_sem] theorem qy5:z8 k ob (.n e)=none:=(rfl)
@[go_sem] theorem qzc {n:Int}:xd k ob (I n)=none:=(rfl)
@[go_sem] theorem qzd {l:Str}:xd k ob (S l)=none:=(rfl)
@[go_sem] theorem qzb {b:Bool}:xd k ob (B b)=none:=(rfl)
end rep
inductive Tm where
 |mk (kind:Int) (name:Str) (num:Int) (kids:List Tm)
def Tm.kind:Tm→Int| .mk k _ _ _=>k
def Tm.name:Tm→Str| .mk _ s _ _=>s
def Tm.num:Tm→Int| .mk _ _ n _=>n
def Tm.kids:Tm→List Tm| .mk _ _ _ ks=>ks
noncomputable instance:DecidableEq Tm:=fun a b=>Classical.propDecidable (a=b)
section
variable {k n:Int} {s:Str} {ks:List Tm}
@[go_sem] theorem yD:(Tm.mk k s n ks).kind=k:=(rfl)
@[go_sem] theorem yE:(Tm.mk k s n ks).name=s:=(rfl)
@[go_sem] theorem yF:(Tm.mk k s n ks).num=n:=(rfl)
@[go_sem] theorem ye:(Tm.mk k s n ks).kids=ks:=(rfl)
end
theorem xh {P:Tm→Prop} (h: ∀ k s n ks,(∀ t ∈ ks,P t)→P (.mk k s n ks)) (t:Tm):P t:=
 Tm.rec (motive_1:=P) (motive_2:=fun ks=> ∀ t ∈ ks,P t) (fun k s n ks ih=>h k s n ks ih) (fun t ht=>by cases ht)
  (fun x xs hx hxs t ht=>by
   rcases List.mem_cons.1 ht with rfl|ht
   ·exact hx
   ·exact hxs t ht) t
mutual
def BT:Tm→V→Prop
 | .mk k s n ks,v=> ∃ τ vs,v= .a [I k,S s,I n,.i τ vs]∧BTs ks vs
def BTs:List Tm→List V→Prop
 |[],vs=>vs=[]
 |t::ts,vs=> ∃ v vs',vs=v::vs'∧BT t v∧BTs ts vs'
end
theorem qbG: ∀ (ts:List Tm) (vs:List V),BTs ts vs↔RL BT ts vs
 |[],vs=>by simp only [BTs,RL]
 |t::ts,vs=>by simp only [BTs,RL,qbG ts]
theorem jo {k n:Int} {s:Str} {ks:List Tm} {v:V}:BT (.mk k s n ks) v↔ ∃ τ vs,v= .a [I k,S s,I n,.i τ vs]∧RL BT ks vs:=by
 simp only [BT,qbG]
theorem zm {t:Tm} {v:V} (h:BT t v): ∃ τ vs,v= .a [I t.kind,S t.name,I t.num,.i τ vs]∧RL BT t.kids vs:=by
 cases t;exact jo.1 h
theorem kg {t:Tm} {v:V} (h:BT t v):v.cells.length=4:=by
 obtain ⟨τ,vs,rfl,-⟩:=zm h;rfl
theorem ki {t:Tm} {τ:Bool} {vs:List V} (h:RL BT t.kids vs):BT t (.a [I t.kind,S t.name,I t.num,.i τ vs]):=by
 cases t;exact jo.2 ⟨τ,vs,rfl,h⟩
mutual
def oT:Tm→V
 | .mk k s n ks=> .a [I k,S s,I n,.o 4 (oTs ks)]
def oTs:List Tm→List V
 |[]=>[]
 |t::ts=>oT t::oTs ts
end
mutual
def iT(τ:Bool):Tm→V
 | .mk k s n ks=> .a [I k,S s,I n,.i τ (iTs τ ks)]
def iTs(τ:Bool):List Tm→List V
 |[]=>[]
 |t::ts=>iT τ t::iTs τ ts
end
theorem qd8: ∀ (ts:List Tm),oTs ts=ts.map oT
 |[]=>rfl
 |t::ts=>by simp only [oTs,List.map_cons,qd8 ts]
theorem qdp(τ:Bool): ∀ (ts:List Tm),iTs τ ts=ts.map (iT τ)
 |[]=>rfl
 |t::ts=>by simp only [iTs,List.map_cons,qdp τ ts]
theorem qX(t:Tm):oT t= .a [I t.kind,S t.name,I t.num,.o 4 (t.kids.map oT)]:=by cases t;simp only [oT,qd8];rfl
theorem qQ(τ:Bool) (t:Tm):iT τ t= .a [I t.kind,S t.name,I t.num,.i τ (t.kids.map (iT τ))]:=by cases t;simp only [iT,qdp];rfl
theorem xg(τ:Bool): ∀ (t:Tm),BT t (iT τ t):=by
 refine xh ?_
 intro k s n ks ih
 rw [qQ]
 refine jo.2 ⟨τ,_,rfl, ?_⟩
 simp only [ye]
 induction ks with
 |nil=>rfl
 |cons t ts ih'=>exact ⟨_,_,rfl,ih t (by simp),ih' fun u hu=>ih u (by simp [hu])⟩
theorem Ka(τ:Bool) (ts:List Tm):RL BT ts (ts.map (iT τ)):=qbS (xg τ) ts
mutual
theorem qai(τ:Bool): ∀ (t:Tm),qM τ (oT t)=iT τ t
 | .mk k s n ks=>by simp only [oT,iT,qM,qO,qag,qah,qcJ τ ks]
theorem qcJ(τ:Bool): ∀ (ts:List Tm),qO τ (oTs ts)=iTs τ ts
 |[]=>rfl
 |t::ts=>by simp only [oTs,iTs,qO,qai τ t,qcJ τ ts]
end
mutual
theorem qaI: ∀ (t:Tm),qP (oT t)=true
 | .mk k s n ks=>by simp only [oT,qP,qW,qdW,qdX,qdV ks,Bool.and_self]
theorem qdV: ∀ (ts:List Tm),qW (oTs ts)=true
 |[]=>rfl
 |t::ts=>by simp only [oTs,qW,qaI t,qdV ts,Bool.and_self]
end
mutual
theorem ZQ: ∀ (t:Tm),qP (iT false t)=true
 | .mk k s n ks=>by simp only [iT,qP,qW,qdW,qdX,qdU ks,Bool.and_self,Bool.not_false]
theorem qdU: ∀ (ts:List Tm),qW (iTs false ts)=true
 |[]=>rfl
 |t::ts=>by simp only [iTs,qW,ZQ t,qdU ts,Bool.and_self]
end
theorem ZJ(t:Tm):clE (oT t)=true:=by rw [qX];rfl
theorem xR(τ:Bool) (t:Tm):clE (iT τ t)=true:=by rw [qQ];rfl
@[go_sem] theorem qA6(τ:Bool) (t:Tm):qZ (iT τ t)=true:=by rw [qQ];rfl
@[go_sem] theorem qrv(m:Nat) (T:Mem) (τ:Bool) (t:Tm):qq (m+2) T (iT τ t)=(iT τ t,T):=by rw [qQ];rfl
@[go_sem] theorem qcL(τ τ':Bool) (t:Tm):qM τ (iT τ' t)=iT τ' t:=by rw [qQ];rfl
@[go_sem] theorem quW(d:Nat) (τ:Bool) (t:Tm):qA d (iT τ t)=iT τ t:=kB d _ (by rw [qQ];rfl)
@[go_sem] theorem qse(τ:Bool) (t:Tm):yg (iT τ t)=[]:=by rw [qQ];rfl
@[go_sem] theorem qus(τ:Bool) (t:Tm):(iT τ t).isA=true:=by rw [qQ];rfl
@[go_sem] theorem qqy(τ:Bool) (t:Tm):(iT τ t).cells=[I t.kind,S t.name,I t.num,.i τ (t.kids.map (iT τ))]:=by rw [qQ];rfl
@[go_sem] theorem qvm(τ:Bool) (t:Tm):qT true 4 (iT τ t) 0=some (iT τ t):=by rw [qQ];rfl
attribute [go_sem] qai qaI ZQ ZJ xR
@[go_sem] theorem qgD(τ:Bool) (ts:List Tm):qO τ (ts.map oT)=ts.map (iT τ):=jY (qai τ) ts
@[go_sem] theorem qwR(ts:List Tm):qW (ts.map oT)=true:=xK qaI ts
@[go_sem] theorem qi6(ts:List Tm):qW (ts.map (iT false))=true:=xK ZQ ts
@[go_sem] theorem Y7(ts:List Tm):qu (ts.map oT)=true:=xS ZJ ts
@[go_sem] theorem qht(d:Nat) (ts:List Tm):qz d (ts.map oT)=ts.map oT:=kV ZJ d ts
@[go_sem] theorem qvz(m:Nat) (T:Mem) (l:List Tm):qx (zt m) T (l.map oT)=(l.map oT,T):=kY m T _ (Y7 l)
@[go_sem] theorem qzo(k:Key) (ob:Ob) (l:List Tm):zD k ob (l.map oT)=none:=QW k ob _ (Y7 l)
@[go_sem] theorem quQ(d:Nat) (t:Tm):qA d (oT t)=oT t:=kB d _ (ZJ t)
@[go_sem] theorem qw4(t:Tm):zB (oT t).cells=true:=by rw [qX];rfl
@[go_sem] theorem qqC(t:Tm):(oT t).cells.length=4:=by rw [qX];rfl
def Lm:Nat:=16777216
def inI(n:Int):Prop:= -9223372036854775808≤n∧n < 9223372036854775808
mutual
def WT:Tm→Prop
 | .mk k s n ks=>inI k∧s.length≤Lm∧inI n∧ks.length≤Lm∧WTs ks
def WTs:List Tm→Prop
 |[]=>True
 |t::ts=>WT t∧WTs ts
end
theorem qbV: ∀ {ts:List Tm} {t:Tm},WTs ts→t ∈ ts→WT t
 |x::xs,t,h,ht=>by
  simp only [WTs]at h
  rcases List.mem_cons.1 ht with rfl|ht
  ·exact h.1
  ·exact qbV h.2 ht
theorem qbW: ∀ {ts:List Tm},(∀ t ∈ ts,WT t)→WTs ts
 |[],_=>trivial
 |t::ts,h=>⟨h t (by simp),qbW fun u hu=>h u (by simp [hu])⟩
theorem Kb {t:Tm} (h:WT t):t.name.length≤Lm:=by cases t;exact h.2.1
theorem xy {t:Tm} (h:WT t):t.kids.length≤Lm:=by cases t;exact h.2.2.2.1
theorem yG {t:Tm} (h:WT t): ∀ u ∈ t.kids,WT u:=by cases t;exact fun u hu=>qbV h.2.2.2.2 hu
theorem qf6 {k n:Int} {s:Str} {ks:List Tm} (h1:inI k) (h2:s.length≤Lm) (h3:inI n) (h4:ks.length≤Lm) (h5: ∀ u ∈ ks,WT u):WT (.mk k s n ks):=⟨h1,h2,h3,h4,qbW h5⟩
mutual
def nT:Tm→Nat
 | .mk _ _ _ ks=>nTs ks+1
def nTs:List Tm→Nat
 |[]=>0
 |t::ts=>nT t+nTs ts
end
theorem Xq(t:Tm):1≤nT t:=by cases t;simp only [nT];omega
theorem QM(t:Tm):nTs t.kids+1=nT t:=by cases t;rfl
def wTm(t:Tm):Prop:=WT t∧nT t≤Lm
end Go.Vm
namespace Go.Vm
section
variable {α:Type} {f:α→V} {z x:V}
theorem qkE(ts:List α) (i m:Nat) (h:i≤ts.length):((ts.take i).map f++List.replicate (m+1) z)[i]? =some z:=by
 rw [List.getElem?_append_right (by simp;omega)]
 simp [Nat.min_eq_left h]
theorem qkH(ts:List α) (i m:Nat) (h:i≤ts.length):((ts.take i).map f++List.replicate (m+1) z).set i x=(ts.take i).map f++x::List.replicate m z:=by
 rw [List.set_append_right _ _ (by simp;omega)]
 simp [Nat.min_eq_left h,List.replicate_succ]
theorem qkG {ts:List α} {i:Nat} {t:α} (h:ts[i]? =some t) (zs:List V):(ts.take i).map f++f t::zs=(ts.take (i+1)).map f++zs:=by
 rw [List.take_succ_eq_append_getElem (List.getElem?_eq_some_iff.1 h).1]
 simp [(List.getElem?_eq_some_iff.1 h).2]
theorem qgm(xs:List V) (y:V) (zs:List V) (i:Nat) (h:xs.length=i):(xs++y::zs)[i]? =some y:=by
 subst h;simp
theorem qgo(xs:List V) (y y':V) (zs:List V) (i:Nat) (h:xs.length=i):(xs++y::zs).set i y'=xs++y'::zs:=by
 subst h;simp
theorem qkF(ts:List α) (i m n:Nat) (h:i+m=n) (hn:ts.length=n):((ts.take i).map f++List.replicate m z).length=n:=by
 simp;omega
end
end Go.Vm
namespace Go.Vm
theorem ju {β:Type} (ts:List β) (P:Nat→List β→Prop) (hlim:ts.length < 2^62) (h0:P ts.length [])
 (hs: ∀ i t r,ts[i]? =some t→i < ts.length→(i:Int) < ts.length→w64 ((i:Int)+1)=((i+1:Nat):Int)→i+(r.length+1)=ts.length→t ∈ ts→(∀ u ∈ r,u ∈ ts)→P (i+1) r→P i (t::r)):P 0 ts:=by
 have key: ∀ m i,i+m=ts.length→P i (ts.drop i):=by
  intro m
  induction m with
  |zero=>
   intro i hi
   obtain rfl:i=ts.length:=by omega
   rw [List.drop_length];exact h0
  |succ m ih=>
   intro i hi
   obtain ⟨t,ht⟩:=xX (l:=ts) (i:=i) (by omega)
   rw [ky ht]
   refine hs i t _ ht (by omega) (by omega) (by rw [zn]<;>omega) (by rw [List.length_drop];omega) (List.mem_of_getElem? ht) (fun u hu=>List.mem_of_mem_drop hu) (ih (i+1) (by omega))
 have:=key ts.length 0 (by omega)
 simpa using this
theorem qlr(l:List Tm) (t:Tm):l.map oT++[.a [I t.kind,S t.name,I t.num,.o 4 (t.kids.map oT)]]=(l++[t]).map oT:=by
 rw [List.map_append,List.map_cons,List.map_nil,qX]
theorem qiR(a:Int):(a < a)=False:=eq_false (Int.lt_irrefl a)
attribute [go_sem] qlr qiR Int.natCast_zero
end Go.Vm
set_option linter.unusedSectionVars false
namespace Go.Vm
open Go.RowKit (Below)
def xu(P:Program) (e:TypeId) (zs:List V):V:=
 match P.underlying e with
 |some (.struct _)=> .a zs
 |_=>zs.headD .d
mutual
def Shp(P:Program):Nat→TypeId→List V→Prop
 |0,_,_=>False
 |n+1,t,xs=>match P.underlying t with
  |some .bool=> ∃ b,xs=[B b]
  |some (.int k)=> ∃ m,xs=[.v (.int k m)]∧(Lit.int k m).wf=true
  |some .string=> ∃ l,xs=[S l]
  |some (.slice e)=> ∃ ys:List V,xs=[.i false ys]∧ ∀ y ∈ ys,∃ zs,Shp P n e zs∧y=xu P e zs
  |some (.struct fs)=> ∃ parts:List (List V),xs=parts.flatten∧xO P n (fs.toList.map (·.type)) parts
  |_=>False
def xO(P:Program):Nat→List TypeId→List (List V)→Prop
 |_,[],[]=>True
 |n,t::ts,p::ps=>Shp P n t p∧xO P n ts ps
 |_,_,_=>False
end
mutual
def zY:V→Nat
 | .v (.string s)=>s.size+1
 | .i _ xs=>q8 xs+1
 | .o _ xs=>q8 xs+1
 | .a xs=>q8 xs
 |_=>1
def q8:List V→Nat
 |[]=>0
 |x::xs=>zY x+q8 xs
end
theorem J4: ∀ (xs ys:List V),q8 (xs++ys)=q8 xs+q8 ys
 |[],ys=>by simp [q8]
 |x::xs,ys=>by simp [q8,J4 xs ys,Nat.add_assoc]
mutual
def zR {H:Type}:DataW H→Nat
 | .lit (.string bytes)=>bytes.length+1
 | .lit _=>1
 | .nil=>1
 | .ptr d=>zR d+1
 | .slice elems spare=>xC elems+xC spare+1
 | .agg parts=>xC parts+1
 |_=>1
def xC {H:Type}:List (DataW H)→Nat
 |[]=>0
 |d::r=>zR d+xC r
end
def KR(P:Program):Nat→List Field→Bool
 |_,[]=>true
 |n,f::fs=>decide (f.offset=n)&&KR P (n+P.cellsOf f.type) fs
def Xj(P:Program):List Field→Nat
 |[]=>0
 |f::fs=>P.cellsOf f.type+Xj P fs
def QP(P:Program) (S:List TypeId) (t:TypeId):Bool:=
 match P.underlying t with
 |some .bool|some (.int _)|some .string=>decide (P.cellsOf t=1)
 |some (.slice e)=>decide (P.cellsOf t=1)&&S.contains e&&decide (0 < P.cellsOf e)
 |some (.struct fs)=>KR P 0 fs.toList&&decide (Xj P fs.toList=P.cellsOf t)&&fs.toList.all fun f=>S.contains f.type
 |_=>false
def xE(w:World):Env:={w,I:=fun _ b=>b < w.heap.size,μ:=fun _=>none}
def y6(P:Program) (t:TypeId):Bool:=match P.underlying t with|some (.struct _)=>true|_=>false
def Qd(P:Program) (t:TypeId) (cs:List Value):Value:=
 match P.underlying t with
 |some (.struct _)=> .agg cs.toArray
 |_=>cs.headD undef
section
variable {H:Type} {enc:TypeId × Value→H} {P:Program} {w:World} {St:List TypeId}
theorem qcr {a:Addr} {n:Nat} {cs:List Value} (h:w.cells? 0 a n=some cs) (hn:0 < n):
 a.spot=none∧ ∃ cells T fz,w.heap[a.block]? =some (.cells cells T fz)∧cs=seg cells a.off n∧a.off+n≤cells.size∧a.block < w.heap.size:=by
 unfold World.cells? at h
 rw [if_pos (Nat.zero_le _)]at h
 have hl:cs.length=n:=by simpa using mapM_some_length h
 have hg: ∀ i,i < n→w.cell? (a.add i)=cs[i]? :=fun i hi=>mapM_some_get h i i (by simp [hi])
 have h0:=hg 0 hn
 have hc0:cs[0]? =some cs[0]:=List.getElem?_eq_getElem (by omega)
 rw [hc0]at h0
 simp only [Addr.add,if_true,World.cell?]at h0
 split at h0
 case h_2=>cases h0
 rename_i cells T fz hw
 split at h0
 ·cases h0
 rename_i hsp
 have hsp':a.spot=none:=by simpa using hsp
 refine ⟨hsp',cells,T,fz,hw, ?_, ?_,(Array.getElem?_eq_some_iff.1 hw).1⟩
 ·apply List.ext_getElem?
  intro i
  by_cases hi:i < n
  ·have:=hg i hi
   rw [← this]
   have e1:(a.add i).block=a.block∧(a.add i).off=a.off+i∧(a.add i).spot=none:=by
    unfold Addr.add
    split
    ·subst i;exact ⟨rfl,rfl,hsp'⟩
    ·exact ⟨rfl,rfl,rfl⟩
   simp only [World.cell?,e1.1,hw,e1.2.1,e1.2.2]
   simp only [seg,List.getElem?_take,hi,if_true,List.getElem?_drop,Array.getElem?_toList]
   simp
  ·rw [List.getElem?_eq_none (by omega)]
   simp [seg,List.getElem?_take,hi]
 ·have h1:=hg (n - 1) (by omega)
  have e1:(a.add (n - 1)).block=a.block∧(a.add (n - 1)).off=a.off+(n - 1)∧(a.add (n - 1)).spot=none:=by
   unfold Addr.add
   split
   ·rename_i h;rw [h];exact ⟨rfl,rfl,hsp'⟩
   ·exact ⟨rfl,rfl,rfl⟩
  simp only [World.cell?,e1.1,hw,e1.2.1,e1.2.2]at h1
  have hcn:cs[n - 1]? =some cs[n - 1]:=List.getElem?_eq_getElem (by omega)
  rw [hcn]at h1
  have:a.off+(n - 1) < cells.size:=by
   simp only [Option.isSome_none,Bool.false_eq_true,if_false]at h1
   exact (Array.getElem?_eq_some_iff.1 h1).1
  omega
theorem qgX:(xE w).cl=xE w:=rfl
theorem qe0 {t:TypeId} {xs:List V} {cs:List Value} (h:qk (xE w) xs cs c0) (hst:y6 P t=true∨(xs.length=1∧zO cs)):
 Rel (xE w) (xu P t xs) (Qd P t cs) c0∧(zO cs→(xu P t xs).cells.length=xs.length∨(xu P t xs).isA=true):=by
 unfold xu Qd
 unfold y6 at hst
 split at hst
 ·rename_i fs hu
  refine ⟨?_,fun _=> .inr ?_⟩
  ·simp only [Rel];exact ⟨cs.toArray,rfl,by simpa using h⟩
  ·rfl
 ·rename_i hns
  rcases hst with hst|⟨hst,hon⟩
  ·cases hst
  match xs,hst with
  |[x],_=>
   obtain ⟨y,rfl,hr⟩:=XB h
   refine ⟨by simpa using hr,fun _=> ?_⟩
   by_cases hx:(V.isA x)=true
   ·exact .inr (by simpa using hx)
   ·left
    cases x<;>first|rfl|exact absurd rfl hx
def Rd(P:Program) (w:World) (H:Type) (enc:TypeId × Value→H) (n:Nat) (t:TypeId) (cs:List Value) (d:DataW H):Prop:=
 ∃ xs,qk (xE w) xs cs c0∧Shp P n t xs∧q8 xs≤zR d∧cs.length=P.cellsOf t∧zO cs∧(y6 P t=false→ ∃ x,xs=[x]∧x.isA=false)
theorem qjb(s:ByteArray):zO [Value.string s]:=by intro z hz;simp at hz;subst hz;rfl
theorem qf2(s:ByteArray):V.v (.string s)=S s.data.toList:=by simp [S]
theorem qc6 {n:Nat} (IH: ∀ t cs d ps,t ∈ St→DataW.trod enc P w 0 (fun _=>true) true n t cs=some (d,ps)→Rd P w H enc n t cs d) (cs:List Value):
 ∀ (fs:List Field) (off:Nat) (xs:List (DataW H × List MemPlace)),KR P off fs=true→off+Xj P fs=cs.length→(fs.all fun f=>St.contains f.type)=true→
  xs.length=fs.length→(∀ (i:Nat) (f:Field),fs[i]? =some f→DataW.trod enc P w 0 (fun _=>true) true n f.type ((cs.drop f.offset).take (P.cellsOf f.type))=xs[i]?)→
  ∃ parts,qk (xE w) parts.flatten (cs.drop off) c0∧xO P n (fs.map (·.type)) parts∧q8 parts.flatten≤xC (xs.map (·.1))∧zO (cs.drop off)
 |[],off,xs,_,hs,_,hl,_=>by
  have:xs=[]:=by simpa using hl
  subst this
  have hd:cs.drop off=[]:=List.drop_eq_nil_of_le (by simp only [Xj]at hs;omega)
  rw [hd]
  exact ⟨[],by simp [qk],by simp [xO],by simp [q8],by intro z hz;cases hz⟩
 |f::fs,off,[],_,_,_,hl,_=>by simp at hl
 |f::fs,off,x::xs,ho,hs,ha,hl,hg=>by
  simp only [KR,Bool.and_eq_true,decide_eq_true_eq]at ho
  simp only [List.all_cons,Bool.and_eq_true]at ha
  simp only [Xj]at hs
  have h0:=hg 0 f rfl
  rw [ho.1]at h0
  simp only [List.getElem?_cons_zero]at h0
  obtain ⟨ys,hr,hsh,hb,hlen,hon,-⟩:=IH f.type _ x.1 x.2 (by simpa using ha.1) h0
  obtain ⟨parts,hr',hsh',hb',hon'⟩:=qc6 IH cs fs (off+P.cellsOf f.type) xs ho.2 (by omega) ha.2 (by simpa using hl) (fun i f' hf'=>by simpa using hg (i+1) f' (by simpa using hf'))
  have hsplit:cs.drop off=(cs.drop off).take (P.cellsOf f.type)++cs.drop (off+P.cellsOf f.type):=by
   rw [← List.drop_drop,List.take_append_drop]
  refine ⟨ys::parts, ?_, ?_, ?_, ?_⟩
  ·rw [hsplit,List.flatten_cons]
   have:=x5 hr hr'
   rwa [xQ]at this
  ·simp only [List.map_cons,xO];exact ⟨hsh,hsh'⟩
  ·simp only [List.flatten_cons,J4,List.map_cons,xC];omega
  ·rw [hsplit]
   intro z hz
   rcases List.mem_append.1 hz with h|h
   ·exact hon z h
   ·exact hon' z h
theorem qcW {n e:Nat} (he:e ∈ St) (hpos:0 < P.cellsOf e) (IH: ∀ t cs d ps,t ∈ St→DataW.trod enc P w 0 (fun _=>true) true n t cs=some (d,ps)→Rd P w H enc n t cs d)
 (a:Addr) (cells:Array Value):
 ∀ (elems:List (DataW H × List MemPlace)) (off:Nat),(∀ i,i < elems.length→((w.cells? 0 ⟨a.block,a.off+(off+i)*P.cellsOf e,none⟩ (P.cellsOf e)).bind (DataW.trod enc P w 0 (fun _=>true) true n e))=elems[i]?)→
  (∃ T fz,w.heap[a.block]? =some (.cells cells T fz))→
  ∃ ys,ys.length=elems.length∧ql (xE w) (P.cellsOf e) ys (seg cells (a.off+off*P.cellsOf e) (elems.length*P.cellsOf e)) c0∧(∀ y ∈ ys,∃ zs,Shp P n e zs∧y=xu P e zs)∧q8 ys≤xC (elems.map (·.1))
 |[],off,_,_=>⟨[],rfl,by simp [ql,seg],by simp,by simp [q8]⟩
 |x::elems,off,hg,hw=>by
  have h0:=hg 0 (by simp)
  simp only [Nat.add_zero,List.getElem?_cons_zero,Option.bind_eq_some_iff]at h0
  obtain ⟨cs,hcs,hx⟩:=h0
  obtain ⟨xs,hr,hsh,hb,hlen,hon,hns⟩:=IH e cs x.1 x.2 he hx
  obtain ⟨ys,hyl,hyr,hys,hyb⟩:=qcW he hpos IH a cells elems (off+1) (fun i hi=>by
   have:=hg (i+1) (by simp;omega)
   rw [show off+1+i=off+(i+1)by omega];simpa using this) hw
  obtain ⟨T,fz,hw'⟩:=hw
  obtain ⟨-,cells',T',fz',hw'',hseg,hle,-⟩:=qcr hcs hpos
  simp only [hw']at hw''
  obtain ⟨rfl,rfl,rfl⟩:cells=cells'∧T=T'∧fz=fz':=by simpa using hw''
  have hst:y6 P e=true∨(xs.length=1∧zO cs):=by
   cases hi:y6 P e
   ·obtain ⟨x',hx',-⟩:=hns hi;exact .inr ⟨by simp [hx'],hon⟩
   ·exact .inl rfl
  have hrel:=(qe0 (P:=P) (t:=e) hr hst).1
  have hlx:=yr hr
  have hval:(Qd P e cs).cells.toList=cs∧(xu P e xs).cells.length=P.cellsOf e∧zY (xu P e xs)≤q8 xs:=by
   unfold Qd xu
   cases hi:y6 P e
   ·obtain ⟨x',rfl,hxa⟩:=hns hi
    obtain ⟨y,rfl,hr1⟩:=XB hr
    have hy:y.oneCell=true:=hon y (by simp)
    unfold y6 at hi
    split at hi
    ·cases hi
    ·rename_i hq
     refine ⟨?_, ?_, ?_⟩
     ·simp only [List.headD_cons];cases y<;>first|rfl|(simp [Value.oneCell]at hy)
     ·simp only [List.headD_cons];rw [← hlen,List.length_singleton];cases x'<;>first|rfl|(simp [V.isA]at hxa)
     ·simp [q8]
   ·unfold y6 at hi
    split at hi
    ·refine ⟨by simp [Value.cells], ?_, ?_⟩
     ·simp only [V.cells];omega
     ·simp [zY]
    ·cases hi
  refine ⟨xu P e xs::ys,by simp [hyl], ?_, ?_, ?_⟩
  ·simp only [ql]
   refine ⟨Qd P e cs,seg cells (a.off+(off+1)*P.cellsOf e) (elems.length*P.cellsOf e),c0,c0, ?_, ?_,hval.2.1, ?_,hrel,hyr,rfl⟩
   ·rw [hval.1,hseg]
    simp only [seg,List.length_cons]
    have e1:(elems.length+1)*P.cellsOf e=P.cellsOf e+elems.length*P.cellsOf e:=by rw [Nat.add_mul];omega
    have e2:a.off+(off+1)*P.cellsOf e=a.off+off*P.cellsOf e+P.cellsOf e:=by rw [Nat.add_mul];omega
    rw [e1,List.take_add,e2,List.drop_drop]
   ·have hq:(Qd P e cs).cells.size=cs.length:=by rw [← Array.length_toList,hval.1]
    rw [hq,hlen]
   ·rw [hval.1];exact hon
  ·intro y hy
   rcases List.mem_cons.1 hy with rfl|hy
   ·exact ⟨xs,hsh,rfl⟩
   ·exact hys y hy
  ·simp only [q8,List.map_cons,xC];have:=hval.2.2;omega
theorem qfR(hS: ∀ t ∈ St,QP P St t=true): ∀ (n:Nat) (t:TypeId) (cs:List Value) (d:DataW H) (ps:List MemPlace),t ∈ St→
 DataW.trod enc P w 0 (fun _=>true) true n t cs=some (d,ps)→Rd P w H enc n t cs d
 |0,t,cs,d,ps,_,h=>by simp [DataW.trod]at h
 |n+1,t,cs,d,ps,ht,h=>by
  have IH:=qfR hS n
  have hok:=hS t ht
  unfold QP at hok
  split at hok
  ·rename_i hu
   obtain ⟨b,rfl,hx⟩:=DataW.trod_bool hu h
   refine ⟨[B b], ?_, ?_, ?_, ?_, ?_,fun _=>⟨_,rfl,rfl⟩⟩
   ·exact z7 (by simp [B,Rel,zM])
   ·simp only [Shp,hu];exact ⟨b,rfl⟩
   ·simp only [Prod.mk.injEq]at hx;rw [hx.1];simp [q8,zY,B,zR]
   ·simpa using (of_decide_eq_true hok).symm
   ·intro z hz;simp at hz;subst hz;rfl
  ·rename_i k hu
   obtain ⟨m,rfl,hx,hwf⟩:=DataW.trod_int hu h
   refine ⟨[.v (.int k m)], ?_, ?_, ?_, ?_, ?_,fun _=>⟨_,rfl,rfl⟩⟩
   ·exact z7 (by simp [Rel,zM])
   ·simp only [Shp,hu];exact ⟨m,rfl,hwf⟩
   ·simp only [Prod.mk.injEq]at hx;rw [hx.1];simp [q8,zY,zR]
   ·simpa using (of_decide_eq_true hok).symm
   ·intro z hz;simp at hz;subst hz;rfl
  ·rename_i hu
   obtain ⟨s,rfl,hx,-⟩:=DataW.trod_string hu h
   refine ⟨[.v (.string s)], ?_, ?_, ?_, ?_, ?_,fun _=>⟨_,rfl,rfl⟩⟩
   ·exact z7 (by simp [Rel,zM])
   ·simp only [Shp,hu];exact ⟨s.data.toList,by rw [qf2]⟩
   ·simp only [Prod.mk.injEq]at hx;rw [hx.1];show s.data.size+1+0≤s.data.toList.length+1;simp
   ·simpa using (of_decide_eq_true hok).symm
   ·exact qjb s
  ·rename_i e hu
   simp only [Bool.and_eq_true,decide_eq_true_eq,List.contains_iff_mem]at hok
   obtain ⟨⟨hc1,heS⟩,hpos⟩:=hok
   rcases DataW.trod_slice hu h with ⟨rfl,hx⟩|⟨a,len,cap,elems,rest,m,hm,rfl,hx,-,hle,-,hel,hg,-,-⟩
   ·refine ⟨[.i false []], ?_, ?_, ?_, ?_, ?_,fun _=>⟨_,rfl,rfl⟩⟩
    ·exact z7 (by simp only [Rel];exact ⟨by trivial,none,0,rfl,Nat.le_refl _,.inl trivial⟩)
    ·simp only [Shp,hu];exact ⟨[],rfl,by simp⟩
    ·simp only [Prod.mk.injEq]at hx;rw [hx.1];simp [q8,zY,zR]
    ·simpa using hc1.symm
    ·intro z hz;simp at hz;subst hz;rfl
   ·have hmn:m=n:=by omega
    subst hmn
    by_cases hz:len=0
    ·subst hz
     refine ⟨[.i false []], ?_, ?_, ?_, ?_, ?_,fun _=>⟨_,rfl,rfl⟩⟩
     ·exact z7 (by simp only [Rel];exact ⟨by trivial,some a,cap,rfl,Nat.zero_le _,.inl trivial⟩)
     ·simp only [Shp,hu];exact ⟨[],rfl,by simp⟩
     ·simp only [Prod.mk.injEq]at hx;rw [hx.1];simp [q8,zY,zR]
     ·simpa using hc1.symm
     ·intro z hz;simp at hz;subst hz;rfl
    ·have h0:=hg 0 (by omega)
     have he0:elems[0]? =some elems[0]:=List.getElem?_eq_getElem (by omega)
     rw [he0,Option.bind_eq_some_iff]at h0
     obtain ⟨cs0,hcs0,-⟩:=h0
     have ha0:a.add (0*P.cellsOf e)=a:=by simp [Addr.add]
     rw [ha0]at hcs0
     obtain ⟨hsp,cells,T,fz,hw,-,-,hlt⟩:=qcr hcs0 hpos
     have ha:a=⟨a.block,a.off,none⟩:=by obtain ⟨b,o,s⟩:=a;simp only at hsp;subst hsp;rfl
     obtain ⟨ys,hyl,hyr,hys,hyb⟩:=qcW heS hpos IH a cells elems 0 (fun i hi=>by
      have:=hg i (by omega)
      rw [← this]
      congr 2
      rw [Nat.zero_add]
      unfold Addr.add
      split
      ·rename_i hq;rw [hq,Nat.add_zero];exact ha.symm
      ·rfl) ⟨T,fz,hw⟩
     simp only [Nat.zero_mul,Nat.add_zero]at hyr
     refine ⟨[.i false ys], ?_, ?_, ?_, ?_, ?_,fun _=>⟨_,rfl,rfl⟩⟩
     ·refine z7 ?_
      simp only [Rel]
      refine ⟨by trivial,some a,cap,by rw [hyl,hel],by omega,.inr ⟨a.block,a.off,P.cellsOf e,cells,T,fz,by rw [← ha],hlt,hw, ?_⟩⟩
      rw [hyl];exact hyr
     ·simp only [Shp,hu];exact ⟨ys,rfl,hys⟩
     ·simp only [Prod.mk.injEq]at hx;rw [hx.1];simp only [q8,zY,zR];omega
     ·simpa using hc1.symm
     ·intro z hz;simp at hz;subst hz;rfl
  ·rename_i fs hu
   simp only [Bool.and_eq_true,decide_eq_true_eq]at hok
   obtain ⟨xs,m,hm,hx,hlen,hxl,hg⟩:=DataW.trod_struct hu h
   have hmn:m=n:=by omega
   subst hmn
   obtain ⟨parts,h1,h2,h3,h4⟩:=qc6 IH cs fs.toList 0 xs hok.1.1 (by rw [hlen, ← hok.1.2];omega) hok.2 (by simpa using hxl) (fun i f hf=>hg i f (by simpa using hf))
   refine ⟨parts.flatten,by simpa using h1, ?_, ?_,hlen,by simpa using h4,fun hi=> ?_⟩
   ·simp only [Shp,hu];exact ⟨parts,rfl,h2⟩
   ·simp only [Prod.mk.injEq]at hx;rw [hx.1];simp only [zR];omega
   ·unfold y6 at hi;rw [hu]at hi;cases hi
  ·cases hok
theorem qj6 {f:Func} {s:ChangeSpec} {apart xl handsOn:Bool} {W W':World} {args:Array Value} {v:Value} {ds gs:List (DataW H)} {before pa pv:List MemPlace}
 (hW:DataW.Whole enc P f.params.toList s.vars apart W args.toList ds gs before)
 (hres: ∀ (b:Nat) (sp:Nat→Bool) (hd:Bool),DataW.TrodAll enc P W' b sp hd f.resultTypes.toList (v.resultList f.resultTypes.size) (s.fn H (ds++gs)).results [])
 (hargs: ∀ sp:Nat→Bool,(∀ p ∈ before,sp p.block=true)→DataW.TrodAll enc P W' 0 sp true f.params.toList args.toList (s.fn H (ds++gs)).args pa)
 (hvars: ∀ sp:Nat→Bool,(∀ p ∈ before,sp p.block=true)→DataW.TrodVars enc P W' sp s.vars (s.fn H (ds++gs)).vars pv)
 (hps:before=pa++pv) (hk:W.keptBut W' (· ∈ before)):
 s.post enc P f apart xl handsOn false W args v W':=by
 have hold: ∀ p ∈ before,(fun b=>decide (b < W.heap.size)) p.block=true:=fun p hp=>by simpa using hW.lt p hp
 refine ⟨ds,gs,before,[],pa,pv,hW,hres _ _ _,hargs _ hold,hvars _ hold,World.keptBut_mono (fun p hp=>⟨hp, ?_⟩) hk,fun h=>by cases h⟩
 rw [hps,List.mem_append]at hp
 exact Or.inr hp
theorem qgc {W W':World} (h:Below W.heap.size W W') (may:MemPlace→Prop):W.keptBut W' may:=by
 refine ⟨h.os,h.output,fun i hi=> ?_⟩
 rw [h.block i hi]
 have hx:W.heap[i]? =some W.heap[i]:=Array.getElem?_eq_getElem hi
 rw [hx]
 cases W.heap[i]with
 |cells c t fr=>exact ⟨rfl,rfl,rfl,fun _ _=>rfl⟩
 |map es clock=>exact .inr ⟨rfl,rfl⟩
 |_=>first|rfl|trivial
theorem qfQ(hl:laidOutB P=true) {W W':World} (hb:Below W.heap.size W W'): ∀ {ts:List TypeId} {vs:List Value} {ds:List (DataW H)} {ps:List MemPlace},(ts.all fun t=>P.readableRec t&&decide (t < P.types.size))=true→
 DataW.TrodAll enc P W 0 (fun _=>true) true ts vs ds ps→(∀ p ∈ ps,p.block < W.heap.size)→ ∀ sp:Nat→Bool,(∀ p ∈ ps,sp p.block=true)→DataW.TrodAll enc P W' 0 sp true ts vs ds ps
 |[],[],[],ps,_,h,_,_,_=>h
 |t::ts,v::vs,d::ds,ps,hr,h,hlt,sp,hsp=>by
  simp only [List.all_cons,Bool.and_eq_true,decide_eq_true_eq]at hr
  obtain ⟨p,q,h1,h2,rfl⟩:=h
  refine ⟨p,q, ?_, ?_,rfl⟩
  ·exact WideElems.Trod_stays hl hr.1.1 hr.1.2 h1 (fun x hx=>hb.same (hlt x (List.mem_append_left _ hx))) (fun x hx=>hsp x (List.mem_append_left _ hx))
  ·exact qfQ hl hb hr.2 h2 (fun x hx=>hlt x (List.mem_append_right _ hx)) sp (fun x hx=>hsp x (List.mem_append_right _ hx))
 |[],_::_,_,_,_,h,_,_,_=>h.elim
 |[],[],_::_,_,_,h,_,_,_=>h.elim
 |_::_,[],_,_,_,h,_,_,_=>h.elim
 |_::_,_::_,[],_,_,h,_,_,_=>h.elim
section
variable [Lay]
def X9(w:World):Prop:=(∀ b,Lay.B b→b < w.heap.size)∧Lay.L w
theorem qhf(w:World) (h:X9 w):Good (xE w) c0:=⟨fun _=>Nat.zero_le _,fun _ _ h=>⟨rfl,h⟩,fun _ h=>h,fun _ h=>absurd rfl h,⟨fun b hb=>h.1 b hb,h.2⟩⟩
theorem qiD {prog:Nat→Option AE} (hK:jR P prog) {f:FuncId} {xs:List V} {vs:List Value} {outs:List V} {fn:Func} (hfn:P.funcs[f]? =some fn) (hb:fn.body.isSome=true) (hn:(fn.name== "runtime.NumGoroutine")=false)
 (h:cw prog f xs=some (B true,outs)) (hr:qk (xE w) xs vs c0) (hL:X9 w):
 Calls P f vs.toArray w fun e w'=>e= .returned (.bool true)∧Below w.heap.size w w':=by
 obtain ⟨n,hn'⟩:=j0.1 h
 have hc:=J0 hK n f xs (B true) outs hn' (xE w) vs c0 (by rw [qgX];exact hr) (qhf w hL)
 obtain ⟨code,hcode⟩:=Option.isSome_iff_exists.1 hb
 have hne:fn.name ≠ "runtime.NumGoroutine" :=by simpa using hn
 have hcf:(callFunc f vs.toArray).run P w= .ok (.enter f vs.toArray) w:=by
  simp [callFunc,hfn,hne,hcode]
 rw [show (xE w).w=w from rfl,hcf]at hc
 refine hc.2.mono ?_
 rintro e w' ⟨y,rfl,E',cr,co,rfl,hy,-,-,hA⟩
 refine ⟨?_,hA.os,hA.tape,hA.output,hA.size,fun b hb=>hA.frame b hb rfl⟩
 simp only [B,Rel]at hy
 rw [hy.1]
theorem qja {base:Nat} {t:TypeId} {v:Value} (hok:QP P St t=true) (h:Value.okWide P w .any base t v):
 (y6 P t=true→ ∃ cs,v= .agg cs)∧(y6 P t=false→v.cells.toList=[v]):=by
 unfold QP at hok
 unfold Value.okWide at h
 unfold y6
 cases hu:P.underlying t with
 |none=>rw [hu]at hok;cases hok
 |some u=>
  rw [hu]at hok
  simp only [hu]at h ⊢
  cases u<;>first|cases hok|skip
  all_goals first
   |(obtain ⟨cs,rfl,-⟩:=h;exact ⟨fun _=>⟨cs,rfl⟩,fun h=>(by cases h)⟩)
   |skip
  all_goals refine ⟨fun h=>(by cases h),fun _=> ?_⟩
  all_goals cases v<;>first|rfl|skip
  all_goals exfalso;unfold Cell.okWide at h;rw [hu]at h;simp only at h;unfold Cell.ok at h;rw [hu]at h;exact h
theorem qga(hS: ∀ t ∈ St,QP P St t=true) {base:Nat} {t:TypeId} {v:Value} {d:DataW H} {ps:List MemPlace} (ht:t ∈ St) (hv:Value.okWide P w .any base t v) (h:DataW.Trod enc P w 0 (fun _=>true) true t v d ps):
 ∃ n xs,Rel (xE w) (xu P t xs) v c0∧Shp P n t xs∧q8 xs≤zR d:=by
 obtain ⟨n,h⟩:=h
 obtain ⟨xs,hr,hsh,hb,hlen,hon,hx⟩:=qfR hS n t v.cells.toList d ps ht h
 refine ⟨n,xs, ?_,hsh,hb⟩
 have hst:y6 P t=true∨(xs.length=1∧zO v.cells.toList):=by
  cases hi:y6 P t
  ·obtain ⟨x',hx',-⟩:=hx hi;exact .inr ⟨by simp [hx'],hon⟩
  ·exact .inl rfl
 have h1:=(qe0 (P:=P) (t:=t) hr hst).1
 have hl:=qja (hS t ht) hv
 have:Qd P t v.cells.toList=v:=by
  unfold Qd
  unfold y6 at hl
  split
  ·rename_i fs hu
   simp only [hu]at hl
   obtain ⟨cs,rfl⟩:=hl.1 trivial
   simp [Value.cells]
  ·rename_i hq
   have h2:v.cells.toList=[v]:=hl.2 (by
    split
    ·rename_i fs hu;exact absurd hu (hq fs)
    ·rfl)
   rw [h2];rfl
 rwa [this]at h1
theorem qiE {prog:Nat→Option AE} (hK:jR P prog) (hl:laidOutB P=true) {f:FuncId} {fn:Func} (hfn:P.funcs[f]? =some fn) (hb:fn.body.isSome=true) (hn:(fn.name== "runtime.NumGoroutine")=false)
 {tb:TypeId} (hres:fn.resultTypes= #[tb]) (htb:P.underlying tb=some .bool) (hread:(fn.params.toList.all fun t=>P.readableRec t&&decide (t < P.types.size))=true)
 {s:ChangeSpec} (hvars:s.vars=[]) {apart xl handsOn:Bool} {W:World} {args:Array Value} {ds gs:List (DataW H)} {before:List MemPlace}
 (hW:DataW.Whole enc P fn.params.toList s.vars apart W args.toList ds gs before) (hspec:gs=[]→s.fn H (ds++gs)={results:=[.lit (.bool true)],args:=ds})
 (hL:X9 W) (hH: ∃ xs outs,qk (xE W) xs args.toList c0∧cw prog f xs=some (B true,outs)):
 Calls P f args W fun e W'=> ∃ v,e= .returned v∧s.post enc P fn apart xl handsOn false W args v W':=by
 obtain ⟨xs,outs,hr,hc⟩:=hH
 have hlt:=hW.lt
 have hW':=hW
 obtain ⟨p,q,hA,hV,rfl,hfz,hnd⟩:=hW
 rw [hvars]at hV
 obtain ⟨rfl,rfl⟩:gs=[]∧q=[]:=by
  cases gs with
  |nil=>exact ⟨rfl,hV⟩
  |cons=>exact hV.elim
 have hsp:=hspec rfl
 have hcall:=qiD hK hfn hb hn hc hr hL
 rw [Array.toArray_toList]at hcall
 refine hcall.mono ?_
 rintro e W' ⟨rfl,hbel⟩
 refine ⟨_,rfl,qj6 (pa:=p) (pv:=[]) hW' ?_ ?_ ?_ rfl (qgc hbel _)⟩
 ·intro b sp hd
  rw [hsp,hres]
  exact ChangeShapes.trodAll_mk1 (RowKit.shut_bool htb true)
 ·intro sp hsp'
  rw [hsp]
  exact qfQ hl hbel hread hA (fun x hx=>hlt x (by simpa using hx)) sp (fun x hx=>hsp' x (by simpa using hx))
 ·intro sp _
  rw [hsp,hvars]
  rfl
end
theorem Q0 {n:Nat} {t:TypeId} {ts:List TypeId} {parts:List (List V)} (h:xO P n (t::ts) parts): ∃ p ps,parts=p::ps∧Shp P n t p∧xO P n ts ps:=by
 cases parts with
 |nil=>simp [xO]at h
 |cons p ps=>simp only [xO]at h;exact ⟨p,ps,rfl,h.1,h.2⟩
theorem qfp {n:Nat} {parts:List (List V)} (h:xO P n [] parts):parts=[]:=by
 cases parts with
 |nil=>rfl
 |cons p ps=>simp [xO]at h
theorem qfq {n:Nat} {t:TypeId} {xs:List V} (hu:P.underlying t=some (.int .i64)) (h:Shp P n t xs): ∃ k,xs=[I k]∧inI k:=by
 cases n with
 |zero=>simp [Shp]at h
 |succ n=>
  simp only [Shp,hu]at h
  obtain ⟨m,rfl,hw⟩:=h
  refine ⟨m,rfl, ?_⟩
  simp only [Lit.wf,IntKind.min,IntKind.max,IntKind.signed,IntKind.bits,Bool.and_eq_true,decide_eq_true_eq]at hw
  unfold inI
  simp at hw
  omega
theorem qfr {n:Nat} {t:TypeId} {xs:List V} (hu:P.underlying t=some .string) (h:Shp P n t xs): ∃ l,xs=[S l]:=by
 cases n with
 |zero=>simp [Shp]at h
 |succ n=>simp only [Shp,hu]at h;exact h
theorem qlm {n:Nat} {t e:TypeId} {xs:List V} (hu:P.underlying t=some (.slice e)) (h:Shp P n t xs): ∃ m ys,n=m+1∧xs=[.i false ys]∧ ∀ y ∈ ys,∃ zs,Shp P m e zs∧y=xu P e zs:=by
 cases n with
 |zero=>simp [Shp]at h
 |succ n=>simp only [Shp,hu]at h;obtain ⟨ys,h1,h2⟩:=h;exact ⟨n,ys,rfl,h1,h2⟩
theorem qfs {n:Nat} {t:TypeId} {fs:Array Field} {xs:List V} (hu:P.underlying t=some (.struct fs)) (h:Shp P n t xs): ∃ m parts,n=m+1∧xs=parts.flatten∧xO P m (fs.toList.map (·.type)) parts:=by
 cases n with
 |zero=>simp [Shp]at h
 |succ n=>simp only [Shp,hu]at h;obtain ⟨ps,h1,h2⟩:=h;exact ⟨n,ps,rfl,h1,h2⟩
theorem qfU {e:TypeId} {fs:Array Field} {zs:List V} (hu:P.underlying e=some (.struct fs)):xu P e zs= .a zs:=by simp [xu,hu]
theorem qck(l:List UInt8):zY (S l)=l.length+1:=by simp [S,zY,ByteArray.size]
theorem qcn: ∀ {ys:List V} {y:V},y ∈ ys→zY y≤q8 ys
 |x::xs,y,h=>by
  simp only [q8]
  rcases List.mem_cons.1 h with rfl|h
  ·omega
  ·have:=qcn h;omega
theorem qcm: ∀ {ys:List V},(∀ y ∈ ys,1≤zY y)→ys.length≤q8 ys
 |[],_=>Nat.zero_le _
 |x::xs,h=>by
  simp only [q8,List.length_cons]
  have:=qcm (ys:=xs) fun y hy=>h y (by simp [hy])
  have:=h x (by simp)
  omega
theorem qe8 {α:Type} {R:α→V→Prop} {W:α→Prop}: ∀ {ys:List V},(∀ y ∈ ys,∃ t,R t y∧W t)→ ∃ ts,RL R ts ys∧ ∀ t ∈ ts,W t
 |[],_=>⟨[],rfl,by simp⟩
 |y::ys,h=>by
  obtain ⟨t,h1,h2⟩:=h y (by simp)
  obtain ⟨ts,h3,h4⟩:=qe8 (ys:=ys) fun z hz=>h z (by simp [hz])
  refine ⟨t::ts,by simp only [RL];exact ⟨y,ys,rfl,h1,h3⟩,fun u hu=> ?_⟩
  rcases List.mem_cons.1 hu with rfl|hu
  ·exact h2
  ·exact h4 u hu
structure TyTerm (P:Program) (tT tS ti ts:TypeId):Prop where
 hT: ∃ fs,P.underlying tT=some (.struct fs)∧fs.toList.map (·.type)=[ti,ts,ti,tS]
 hS:P.underlying tS=some (.slice tT)
 hi:P.underlying ti=some (.int .i64)
 hs:P.underlying ts=some .string
theorem qe7: ∀ {us:List Tm} {ys:List V},RL (fun t y=>(BT t y∧WT t)∧nT t≤zY y) us ys→RL BT us ys∧(∀ u ∈ us,WT u)∧nTs us≤q8 ys
 |[],ys,h=>⟨h,by simp,by simp [nTs]⟩
 |u::us,ys,h=>by
  simp only [RL]at h
  obtain ⟨v,vs',rfl,⟨⟨h1,h2⟩,h3⟩,h4⟩:=h
  obtain ⟨g1,g2,g3⟩:=qe7 h4
  refine ⟨by simp only [RL];exact ⟨v,vs',rfl,h1,g1⟩,fun x hx=> ?_,by simp only [nTs,q8];omega⟩
  rcases List.mem_cons.1 hx with rfl|hx
  ·exact h2
  ·exact g2 x hx
theorem qln {tT tS ti ts:TypeId} (hty:TyTerm P tT tS ti ts): ∀ (n:Nat) (xs:List V),Shp P n tT xs→q8 xs≤Lm→1≤q8 xs∧ ∃ t,(BT t (.a xs)∧WT t)∧nT t≤q8 xs:=by
 intro n
 induction n using Nat.strongRecOn with
 |_ n ih=>
  intro xs h hb
  obtain ⟨fs,hu,hfs⟩:=hty.hT
  obtain ⟨m,parts,rfl,rfl,hp⟩:=qfs hu h
  rw [hfs]at hp
  obtain ⟨p0,r0,rfl,h0,hp⟩:=Q0 hp
  obtain ⟨p1,r1,rfl,h1,hp⟩:=Q0 hp
  obtain ⟨p2,r2,rfl,h2,hp⟩:=Q0 hp
  obtain ⟨p3,r3,rfl,h3,hp⟩:=Q0 hp
  obtain rfl:=qfp hp
  obtain ⟨k,rfl,hk⟩:=qfq hty.hi h0
  obtain ⟨s,rfl⟩:=qfr hty.hs h1
  obtain ⟨u,rfl,hu'⟩:=qfq hty.hi h2
  obtain ⟨m',ys,rfl,rfl,hys⟩:=qlm hty.hS h3
  simp only [List.flatten_cons,List.flatten_nil,List.cons_append,List.nil_append,q8,qck]at hb ⊢
  have e1:zY (I k)=1:=rfl
  have e2:zY (I u)=1:=rfl
  have e3:zY (.i false ys)=q8 ys+1:=by simp [zY]
  rw [e1,e2,e3]at hb ⊢
  have hall: ∀ y ∈ ys,1≤zY y∧ ∃ t,((BT t y∧WT t)∧nT t≤zY y)∧True:=by
   intro y hy
   obtain ⟨zs,hz,rfl⟩:=hys y hy
   have hle:=qcn hy
   rw [qfU hu]at hle ⊢
   have e4:zY (.a zs)=q8 zs:=by simp [zY]
   rw [e4]at hle ⊢
   obtain ⟨g1,t,g2⟩:=ih m' (by omega) zs hz (by omega)
   exact ⟨g1,t,g2,trivial⟩
  obtain ⟨us,hr,-⟩:=qe8 (R:=fun t y=>(BT t y∧WT t)∧nT t≤zY y) (W:=fun _=>True) fun y hy=>(hall y hy).2
  have hlen:=qcm fun y hy=>(hall y hy).1
  obtain ⟨hr,hw,hn⟩:=qe7 hr
  have hl:=zE hr
  refine ⟨by omega,.mk k s u us,⟨jo.2 ⟨false,ys,rfl,hr⟩,qf6 hk (by omega) hu' (by omega) hw⟩,by simp only [nT];omega⟩
def RdC(P:Program) (t:TypeId) {α:Type} (Rc:α→List V→Prop) (W:α→Prop):Prop:=
 ∀ n xs,Shp P n t xs→q8 xs≤Lm→1≤q8 xs∧ ∃ x,Rc x xs∧W x
def cI(n:Int) (xs:List V):Prop:=xs=[I n]
def cB(b:Bool) (xs:List V):Prop:=xs=[B b]
def cS(s:Str) (xs:List V):Prop:=xs=[S s]
def cA {α:Type} (R:α→V→Prop) (x:α) (xs:List V):Prop:=R x (.a xs)
def cL {α:Type} (R:α→V→Prop) (l:List α) (xs:List V):Prop:= ∃ vs,xs=[.i false vs]∧RL R l vs
def wL {α:Type} (W:α→Prop) (l:List α):Prop:=l.length≤Lm∧ ∀ x ∈ l,W x
theorem qkn {t:TypeId} (hu:P.underlying t=some .string):RdC P t cS (fun s=>s.length≤Lm):=fun n xs h hb=>by
 obtain ⟨k,rfl⟩:=qfr hu h
 simp only [q8,qck]at hb ⊢
 exact ⟨by omega,k,rfl,by omega⟩
theorem qeN {tT tS ti ts:TypeId} (hty:TyTerm P tT tS ti ts):RdC P tT (cA BT) wTm:=fun n xs h hb=>by
 obtain ⟨h1,t,⟨h2,h3⟩,h4⟩:=qln hty n xs h hb
 exact ⟨h1,t,h2,h3,by omega⟩
end
end Go.Vm
namespace Go.Vm
section
variable [Lay] {P:Program} {E:Env} {c:Cnt} {w':World}
structure Adds (w w':World):Prop where
 os:w'.os=w.os
 tape:w'.tape=w.tape
 output:w'.output=w.output
 size:w.heap.size≤w'.heap.size
 old: ∀ b,b < w.heap.size→w'.heap[b]? =w.heap[b]?
theorem qmi(w:World):Adds w w:=⟨rfl,rfl,rfl,Nat.le_refl _,fun _ _=>rfl⟩
theorem qf8(w:World) (k:Nat) (os:Array Obj):Adds w (Sort.grow (w.drewN k) os):=
 ⟨rfl,rfl,rfl,by show w.heap.size≤(w.heap++os).size;simp,fun b hb=>by show (w.heap++os)[b]? =_;rw [Array.getElem?_append_left hb]⟩
theorem Adds.adv(h:Adds E.w w') (hg:Good E c):Mono E {E with w:=w'} c∧Good {E with w:=w'} c∧Adv E c {E with w:=w'} c:=by
 refine ⟨⟨fun τ b hb=>⟨hb,h.old b (hg.imm τ b hb).2⟩,fun b hb=>h.old b (hg.bnd b hb),fun k l h=>h⟩,
  ⟨hg.one,fun τ b hb=>⟨(hg.imm τ b hb).1,Nat.lt_of_lt_of_le (hg.imm τ b hb).2 h.size⟩,hg.sub,fun b hb=>Nat.lt_of_lt_of_le (hg.bnd b hb) h.size,hg.lay.next (fun b hb=>hb) (fun b hb=>h.old b (hg.imm false b hb).2)⟩,
  ⟨fun b n hn=>by rw [Ki (h.old b (J3 hn))];exact hn,h.os,h.tape,h.output,h.size,fun b hb _=>h.old b hb,fun _ _ h=>h,fun b hb=> .inl hb,fun τ b hb=> .inl hb⟩⟩
theorem qj8 {f:Nat} {fn:Func} {xs:List V} {r:V} {x:Value} (hfn:P.funcs[f]? =some fn) (hb:fn.body.isSome=true) (hn:(fn.name== "runtime.NumGoroutine")=false) (hr:r= .v x) (hx:zM x=false)
 (h: ∀ (E:Env) (vs:List Value),qk E.cl xs vs c0→Lay.L E.w→Calls P f vs.toArray E.w fun e w'=>e= .returned x∧Adds E.w w') (hz: ∀ (E:Env) vs c,qk E.cl xs vs c→c=c0):
 YC P f xs r xs:=by
 intro E vs c hxs hg
 have h0:=hz E vs c hxs
 subst h0
 obtain ⟨code,hcode⟩:=Option.isSome_iff_exists.1 hb
 have hne:fn.name ≠ "runtime.NumGoroutine" :=by simpa using hn
 have hcf:(callFunc f vs.toArray).run P E.w= .ok (.enter f vs.toArray) E.w:=by
  simp [callFunc,hfn,hne,hcode]
 rw [hcf]
 refine ⟨rfl,(h E vs hxs hg.lay.ll).mono ?_⟩
 rintro e w' ⟨rfl,ha⟩
 obtain ⟨hm,hg',hA⟩:=ha.adv hg
 refine ⟨x,rfl,{E with w:=w'},c0,c0,rfl, ?_,yA hxs (hm.cl), ?_, ?_⟩
 ·subst hr;simp [Rel,hx]
 ·rw [xQ];exact hg'
 ·rw [xQ];exact hA
end
def QI:List V→Option (V × List V)
 |[.v (.int .i64 n)]=>if -9223372036854775808≤n∧n≤9223372036854775807 then some (S (Lib.itoa n),[I n])else none
 |_=>none
theorem qcR {prog:Nat→Option AE} {f:Nat} {g:List V→Option (V × List V)} (h:prog f=some (.prim g)) (xs:List V):cw prog f xs=g xs:=by
 apply xW
 intro r
 rw [j0]
 constructor
 ·rintro ⟨n,hn⟩
  cases n with
  |zero=>simp [qU]at hn
  |succ n=>simpa only [qU,h]using hn
 ·intro hr
  exact ⟨1,by simpa only [qU,h]using hr⟩
theorem qgH {prog:Nat→Option AE} {f:Nat} (h:prog f=some (.prim QI)) (n:Int) (h0: -9223372036854775808≤n) (h1:n≤9223372036854775807):cr prog f [I n]=some (S (Lib.itoa n)):=by
 unfold cr
 rw [qcR h]
 show (QI [.v (.int .i64 n)]).map _=_
 simp only [QI,if_pos (show -9223372036854775808≤n∧n≤9223372036854775807 from ⟨h0,h1⟩),Option.map_some]
def quA:List V→Option (V × List V)
 |[.v (.string s),.v (.int .u8 c)]=>some (I (Lib.indexByte s.data.toList c.toNat.toUInt8),[.v (.string s),.v (.int .u8 c)])
 |_=>none
def qlE:V→Option Str
 | .v (.string s)=>some s.data.toList
 |_=>none
def qfA:List V→Option (List Str)
 |[]=>some []
 |x::xs=>match qlE x,qfA xs with
  |some s,some ss=>some (s::ss)
  |_,_=>none
def quB:List V→Option (V × List V)
 |[.i τ xs,.v (.string p)]=>match qfA xs with
  |some ss=>if xs.length≤140737488355328∧(Lib.join ss p.data.toList).length≤140737488355328 then some (S (Lib.join ss p.data.toList),[.i τ xs,.v (.string p)])else none
  |none=>none
 |_=>none
def qz7:List V→Option (V × List V)
 |[.v (.string s),.v (.string p)]=>match p.data.toList with
  |[c]=>if c.toNat < 128∧s.size≤9223372036854775807 then some (S (Lib.trimB s.data.toList c),[.v (.string s),.v (.string p)])else none
  |_=>none
 |_=>none
def qzZ:List V→Option (V × List V)
 |[.v (.string s),.v (.string p)]=>match p.data.toList with
  |[c]=>if s.size < 4294967281 then some (.i false ((Lib.split s.data.toList [c]).map S),[.v (.string s),.v (.string p)])else none
  |_=>none
 |_=>none
end Go.Vm
namespace Go.Vm
theorem Wrote.trans {w w1 w2:World} {b:Nat} {c1 c2:Array Value} (h:Wrote w b c1 w1) (h':Wrote w1 b c2 w2):Wrote w b c2 w2:=
 ⟨h'.os.trans h.os,h'.tape.trans h.tape,h'.output.trans h.output,h'.size.trans h.size,fun b' hb=>(h'.other b' hb).trans (h.other b' hb),fun cs T fz hc=>by
  obtain ⟨a1,a2⟩:=h.self cs T fz hc
  obtain ⟨b1,b2⟩:=h'.self _ _ _ a1
  exact ⟨b1,b2.trans a2⟩⟩
def qr0(e:Nat):List V→Option (V × List V)
 |[.o e' xs,.v (.int .i64 i),.v (.int .i64 j)]=>if e'=e∧0≤i∧i < j∧j≤xs.length then some (.o e (xs.take i.toNat++xs.drop j.toNat),[.d,I i,I j])else none
 |_=>none
def qzz(e:Nat):List V→Option (V × List V)
 |[.o e' xs,.v (.int .i64 i),.v (.int .i64 j),.o e'' vs]=>if e'=e∧e''=e∧0≤i∧i < j∧j≤xs.length then some (.o e (xs.take i.toNat++vs++xs.drop j.toNat),[.d,I i,I j,.d])else none
 |_=>none
end Go.Vm
