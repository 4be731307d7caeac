import Derived.Test.YtnicgnmcacbplaaGreatT02
import Derived.Laws.Strings
import Derived.ChangeArms
import Derived.ProofKit
import Derived.OpenShut
import Derived.Sort.Grow
import Derived.Deep.Draws
import Derived.Lib.LaidTab
import Derived.Lib.ItoaNum
import Derived.Lib.Bytealg
import Derived.Lib.Join
import Derived.Lib.Split
import Derived.Lib.TrimByte
open Nat renaming reduceAdd → qa, reduceSub → qb, reduceMul → qc, reduceEqDiff → qd, reduceLeDiff → qe, reduceBEq → qf
set_option autoImplicit false
set_option linter.unusedVariables false
set_option linter.unusedSimpArgs false
namespace Go.Vm
section
variable {prog:Nat→Option AE} {st:St} {σ:Sl} {T:Mem} {call:Call} {a b:Int} {x y:List UInt8}
@[go_sem] theorem qzE:zw .add (I a) (I b)=some (I (w64 (a+b))):=(rfl)
@[go_sem] theorem qzM:zw .sub (I a) (I b)=some (I (w64 (a - b))):=(rfl)
@[go_sem] theorem qzK:zw .mul (I a) (I b)=some (I (w64 (a*b))):=(rfl)
@[go_sem] theorem qzJ:zw .lss (I a) (I b)=some (B (decide (a < b))):=(rfl)
@[go_sem] theorem qzI:zw .leq (I a) (I b)=some (B (decide (a≤b))):=(rfl)
@[go_sem] theorem qzH:zw .gtr (I a) (I b)=some (B (decide (b < a))):=(rfl)
@[go_sem] theorem qzG:zw .geq (I a) (I b)=some (B (decide (b≤a))):=(rfl)
@[go_sem] theorem qzF:zw .eql (I a) (I b)=some (B (decide (a=b))):=by
 have:(a==b)=decide (a=b):=by rw [Bool.eq_iff_iff];simp
 exact congrArg (fun t=>some (B t)) this
@[go_sem] theorem qzL:zw .neq (I a) (I b)=some (B (decide (a ≠ b))):=by
 have:(a != b)=decide (a ≠ b):=by rw [Bool.eq_iff_iff];simp
 exact congrArg (fun t=>some (B t)) this
@[go_sem] theorem qzy:zw .lss (U8 a) (U8 b)=some (B (decide (a < b))):=(rfl)
@[go_sem] theorem qzx:zw .leq (U8 a) (U8 b)=some (B (decide (a≤b))):=(rfl)
@[go_sem] theorem qzw:zw .gtr (U8 a) (U8 b)=some (B (decide (b < a))):=(rfl)
@[go_sem] theorem qzv:zw .geq (U8 a) (U8 b)=some (B (decide (b≤a))):=(rfl)
@[go_sem] theorem qzt:zw .add (U8 a) (U8 b)=some (U8 (IntKind.u8.wrap (a+b))):=(rfl)
@[go_sem] theorem qzu:zw .eql (U8 a) (U8 b)=some (B (decide (a=b))):=by
 have:(a==b)=decide (a=b):=by rw [Bool.eq_iff_iff];simp
 exact congrArg (fun t=>some (B t)) this
@[go_sem] theorem qzz:zw .neq (U8 a) (U8 b)=some (B (decide (a ≠ b))):=by
 have:(a != b)=decide (a ≠ b):=by rw [Bool.eq_iff_iff];simp
 exact congrArg (fun t=>some (B t)) this
theorem qdp:(ByteArray.mk x.toArray).toList=x:=by rw [ByteArray.toList_eq]
@[go_sem] theorem qzA:zw .eql (S x) (S y)=some (B (decide (x=y))):=by
 have:(Op.stringOp .eql ⟨x.toArray⟩ ⟨y.toArray⟩).val? =some (.bool (decide (x=y))):=by
  simp only [Op.stringOp,qdp]
  have:(x==y)=decide (x=y):=by rw [Bool.eq_iff_iff];simp
  rw [this];rfl
 exact congrArg (Option.map V.v) this
@[go_sem] theorem qzD:zw .neq (S x) (S y)=some (B (decide (x ≠ y))):=by
 have:(Op.stringOp .neq ⟨x.toArray⟩ ⟨y.toArray⟩).val? =some (.bool (decide (x ≠ y))):=by
  simp only [Op.stringOp,qdp]
  have:(!x==y)=decide (x ≠ y):=by rw [Bool.eq_iff_iff];simp
  rw [this];rfl
 exact congrArg (Option.map V.v) this
@[go_sem] theorem qzC:zw .lss (S x) (S y)=some (B (Op.bytesLess x y)):=by
 have:(Op.stringOp .lss ⟨x.toArray⟩ ⟨y.toArray⟩).val? =some (.bool (Op.bytesLess x y)):=by
  simp only [Op.stringOp,qdp];rfl
 exact congrArg (Option.map V.v) this
@[go_sem] theorem qzB:zw .gtr (S x) (S y)=some (B (!(Op.bytesLess x y||decide (x=y)))):=by
 have:(Op.stringOp .gtr ⟨x.toArray⟩ ⟨y.toArray⟩).val? =some (.bool (!(Op.bytesLess x y||decide (x=y)))):=by
  simp only [Op.stringOp,qdp]
  have:(x==y)=decide (x=y):=by rw [Bool.eq_iff_iff];simp
  rw [this];rfl
 exact congrArg (Option.map V.v) this
theorem qg5(h:x.length+y.length≤9223372036854775807):zw .add (S x) (S y)=some (S (x++y)):=by
 have:(Op.stringOp .add ⟨x.toArray⟩ ⟨y.toArray⟩).val? =some (.string ⟨(x++y).toArray⟩):=by
  simp only [Op.stringOp,ByteArray.size,List.size_toArray]
  rw [if_neg (by simp [IntKind.max,IntKind.signed,IntKind.bits];omega)]
  have:(ByteArray.mk x.toArray++ByteArray.mk y.toArray)=⟨(x++y).toArray⟩:=by
   apply ByteArray.ext
   simp
  rw [this];rfl
 exact congrArg (Option.map V.v) this
theorem qmn(h:b ≠ 0):zw .quo (I a) (I b)=some (I (w64 (a.tdiv b))):=by
 have:(Op.intDiv .quo .i64 a b).val? =some (.int .i64 (w64 (a.tdiv b))):=by
  simp only [Op.intDiv,if_neg h];rfl
 exact congrArg (Option.map V.v) this
theorem qmo(h:b ≠ 0):zw .rem (I a) (I b)=some (I (a.tmod b)):=by
 have:(Op.intDiv .rem .i64 a b).val? =some (.int .i64 (a.tmod b)):=by
  simp only [Op.intDiv,if_neg h];rfl
 exact congrArg (Option.map V.v) this
@[go_sem] theorem qDI {p q:Bool}:eqV 0 (B p) (B q)=some (p==q):=(rfl)
@[go_sem] theorem qDK {e e':Nat}:eqV 2 (.n e) (.n e')=some true:=(rfl)
@[go_sem] theorem qDJ {e:Nat} {τ:Bool} {z:V} {zs:List V}:eqV 2 (.i τ (z::zs)) (.n e)=some false:=(rfl)
@[go_sem] theorem qGa {α β:Type} {f:α→β} {z:α}:(some z).map f=some (f z):=(rfl)
def ldO(ob:Option Ob) (idx:Nat) (agg:Bool) (size off:Nat):Option V:=
 match ob with
 |some ob=>qq ob.2[idx]? fun x=>qY agg size x off
 |none=>none
@[go_sem] theorem qFv {e idx size off:Nat} {xs:List V} {agg:Bool}:ldO (some (e,xs)) idx agg size off=qq xs[idx]? fun x=>qY agg size x off:=(rfl)
@[go_sem] theorem qFU {k:Key} {idx off size:Nat} {agg:Bool}:xx T agg size (.p k idx off)=ldO (qu T k) idx agg size off:=by
 simp only [xx,ldO]
 cases qu T k with
 |none=>rfl
 |some ob=>simp only;cases ob.2[idx]? <;>rfl
@[go_sem] theorem qFV {τ:Bool} {xs:List V} {idx off size:Nat} {agg:Bool}:xx T agg size (.q τ xs idx off)=qq xs[idx]? fun x=>qY agg size x off:=by
 simp only [xx];cases xs[idx]? <;>rfl
@[go_sem] theorem qFG {n:Nat} {cs:List V} {off:Nat}:qY true n (.a cs) off=if off=0∧cs.length=n then some (.a cs)else if off+n≤cs.length then some (.a ((cs.drop off).take n))else none:=by
 unfold qY
 simp only [V.cells,V.isA,if_true]
 by_cases h:off=0∧cs.length=n
 ·simp only [h.1,h.2,and_self,if_true]
 ·rw [if_neg h,if_neg (fun h'=>h ⟨h'.1,h'.2.1⟩)];by_cases h2:off+n≤cs.length<;>simp only [h2,if_true,if_false]
@[go_sem] theorem qFH {n:Nat} {cs:List V} {off:Nat}:qY false n (.a cs) off=cs[off]? :=(rfl)
@[go_sem] theorem qFA {n:Nat}:qY false n (I a) 0=some (I a):=(rfl)
@[go_sem] theorem qFC {n:Nat}:qY false n (S x) 0=some (S x):=(rfl)
@[go_sem] theorem qFz {n:Nat} {p:Bool}:qY false n (B p) 0=some (B p):=(rfl)
@[go_sem] theorem qFE {n:Nat}:qY false n (U8 a) 0=some (U8 a):=(rfl)
@[go_sem] theorem qFJ {n:Nat} {τ:Bool} {xs:List V}:qY false n (.i τ xs) 0=some (.i τ xs):=(rfl)
@[go_sem] theorem qFN {n:Nat} {k:Key} {lo len:Nat}:qY false n (.s k lo len) 0=some (.s k lo len):=(rfl)
@[go_sem] theorem qFM {n e:Nat} {xs:List V}:qY false n (.o e xs) 0=some (.o e xs):=(rfl)
@[go_sem] theorem qFL {n e:Nat}:qY false n (.n e) 0=some (.n e):=(rfl)
@[go_sem] theorem qFI {n:Nat} {fn:Fn} {xs ys:List V}:qY false n (.f fn xs ys) 0=some (.f fn xs ys):=(rfl)
def stO(T:Mem) (k:Key) (ob:Option Ob) (idx off:Nat) (y:V):Option Mem:=
 match ob with
 |some ob=>match ob.2[idx]? with
  |some x=>match QX x off y with
   |some x'=>some ((k,ob.1,ob.2.set idx x')::qB T k)
   |none=>none
  |none=>none
 |none=>none
@[go_sem] theorem qKH {k:Key} {idx off:Nat} {y:V}:QY T (.p k idx off) y=stO T k (qu T k) idx off y:=(rfl)
@[go_sem] theorem qKF {k:Key} {idx off e:Nat} {xs:List V} {y:V}:stO T k (some (e,xs)) idx off y=qq xs[idx]? fun x=>qq (QX x off y) fun x'=>some ((k,e,xs.set idx x')::qB T k):=by
 simp only [stO]
 cases xs[idx]? with
 |none=>rfl
 |some x=>simp only [qq];cases QX x off y<;>rfl
attribute [go_sem] QX
@[go_sem] theorem qDv {z:V} {zs:List V}:(z::zs)[0]? =some z:=(rfl)
@[go_sem] theorem qDw {z:V} {zs:List V} {n:Nat}:(z::zs)[n+1]? =zs[n]? :=by simp
@[go_sem] theorem qKz {z z':V} {zs:List V}:(z::zs).set 0 z'=z'::zs:=(rfl)
@[go_sem] theorem qKA {z z':V} {zs:List V} {n:Nat}:(z::zs).set (n+1) z'=z::zs.set n z':=(rfl)
attribute [go_sem] List.length_cons List.length_nil List.take_zero List.take_succ_cons List.drop_zero List.drop_succ_cons List.nil_append List.cons_append List.append_nil List.length_append
def ixO(k:Key) (lo len e:Nat) (i:Int) (ob:Option Ob):Option V:=
 match ob with
 |some ob=>if ob.1=e∧lo+len≤ob.2.length then (zV i len).map fun j=> .p k (lo+j) 0 else none
 |none=>none
@[go_sem] theorem qy1 {k:Key} {lo len e:Nat} {i:Int}:kS T e (.s k lo len) i=ixO k lo len e i (qu T k):=(rfl)
theorem xL {k:Key} {len e:Nat} {xs:List V} {i:Nat} (h:i < len) (hl:len≤xs.length):ixO k 0 len e (i:Int) (some (e,xs))=some (.p k i 0):=by
 simp only [ixO,zV]
 rw [if_pos ⟨trivial,by omega⟩,if_pos ⟨by omega,by omega⟩]
 simp
theorem q8 {τ:Bool} {xs:List V} {e:Nat} {i:Nat} {z:V} (h:xs[i]? =some z) (hz:z.cells.length=e):kS T e (.i τ xs) (i:Int)=some (.q τ xs i 0):=by
 have hl:i < xs.length:=(List.getElem?_eq_some_iff.1 h).1
 simp only [kS,zV]
 rw [if_pos ⟨by omega,by omega⟩]
 simp only [Int.toNat_natCast,h,Option.getD_some,hz,if_true]
def elO(e lo len:Nat) (ob:Option Ob):Option (List V):=
 match ob with
 |some ob=>if ob.1=e∧lo+len≤ob.2.length then some ((ob.2.drop lo).take len)else none
 |none=>none
@[go_sem] theorem qDz {k:Key} {lo len e:Nat}:kX T e (.s k lo len)=elO e lo len (qu T k):=(rfl)
@[go_sem] theorem qDu {e e' lo len:Nat} {xs:List V}:elO e lo len (some (e',xs))=if e'=e∧lo+len≤xs.length then some ((xs.drop lo).take len)else none:=(rfl)
@[go_sem] theorem qDx {e:Nat} {τ:Bool} {xs:List V}:kX T e (.i τ xs)=some xs:=(rfl)
@[go_sem] theorem qDy {e e':Nat}:kX T e (.n e')=some []:=(rfl)
def apO(e lo len:Nat) (T':Mem) (ob:Option Ob):Option (List V × Mem):=
 match ob with
 |some ob=>if ob.1=e∧lo+len≤ob.2.length then some ((ob.2.drop lo).take len,T')else none
 |none=>none
@[go_sem] theorem qy6 {e e':Nat}:j8 T e (.n e')=some ([],T):=(rfl)
@[go_sem] theorem qy7 {k:Key} {lo len e:Nat}:j8 T e (.s k lo len)=apO e lo len (qB T k) (qu T k):=(rfl)
@[go_sem] theorem qy4 {e e' lo len:Nat} {xs:List V}:apO e lo len T (some (e',xs))=if e'=e∧lo+len≤xs.length then some ((xs.drop lo).take len,T)else none:=(rfl)
def Yv {α:Type} (r:Option (List V × Mem)) (k:List V→Mem→Option α):Option α:=
 match r with
 |some (xs,T)=>k xs T
 |none=>none
@[congr] theorem qz3 {α:Type} {r r':Option (List V × Mem)} {k:List V→Mem→Option α} (h:r=r'):Yv r k=Yv r' k:=by rw [h]
@[go_sem] theorem qz4 {α:Type} {xs:List V} {k:List V→Mem→Option α}:Yv (some (xs,T)) k=k xs T:=(rfl)
@[go_sem] theorem qy5 {e:Nat} {y:V}:XX T e y=yf (kX T e y) fun ys=>zG (yc ys) (some (ys,T)) (j8 T e y):=by
 unfold XX
 cases kX T e y with
 |none=>rfl
 |some ys=>simp only [yf,zG]
@[go_sem] theorem qDZ {d e bytes:Nat} {x y:AO}:qm call ⟨σ,T⟩ (.app d e bytes x y)=qq (ev σ x) fun x=>qq (ev σ y) fun y=>Yv (XX T e y) fun ys Ty=>Yv (j8 Ty e x) fun xs T'=>
 kd (kU e ys&&decide ((xs.length+ys.length)*bytes≤lim)&&decide (xs.length+ys.length≤lim))
  (some ⟨(d,.s (d,0) 0 (xs.length+ys.length))::xt d σ,((d,0),e,qG d (xs++ys))::wT d T'⟩):=by
 simp only [qm,qi,qeh]
 cases ev σ x with
 |none=>rfl
 |some x=>cases ev σ y with
  |none=>rfl
  |some y=>
   simp only [qq]
   cases XX T e y with
   |none=>rfl
   |some q=>
    obtain ⟨ys,Ty⟩:=q
    simp only [Yv]
    cases j8 Ty e x<;>rfl
theorem qW:lim=1099511627776:=(rfl)
def qax(d:Option Nat) (k:Nat):Bool:=
 match d with
 |none=>false
 |some d=>decide (d=k)
@[go_sem] theorem qCO {k:Nat}:qax none k=false:=(rfl)
@[go_sem] theorem qCP {d k:Nat}:qax (some d) k=decide (d=k):=(rfl)
def YB {α:Type} (o:Option Nat) (x:α) (k:Nat→α):α:=
 match o with
 |none=>x
 |some d=>k d
@[congr] theorem qCQ {α:Type} {o o':Option Nat} {x:α} {k:Nat→α} (h:o=o'):YB o x k=YB o' x k:=by rw [h]
@[go_sem] theorem qCS {α:Type} {d:Nat} {x:α} {k:Nat→α}:YB (some d) x k=k d:=(rfl)
@[go_sem] theorem qCR {α:Type} {x:α} {k:Nat→α}:YB none x k=x:=(rfl)
@[go_sem] theorem qy9:zJ call [] [] st=some st:=(rfl)
@[go_sem] theorem qy8 {p:Dp} {ps:List Dp} {i:AI} {is:List AI}:zJ call (p::ps) (i::is) st=kB (xC call p i st) fun st=>zJ call ps is st:=by
 simp only [zJ];cases xC call p i st<;>rfl
@[go_sem] theorem qKG {p:Dp} {i:AI}:xC call p i ⟨σ,T⟩=kB (qm call ⟨zu σ (qQ i),xy T p.ks⟩ i) fun st'=>YB (qy i) (some ⟨σ,YJ p none st'.T T⟩)
 (fun d=>qq (qC st'.σ d) fun x=>some ⟨(d,x)::σ,YJ p (some d) st'.T T⟩):=by
 unfold xC YB
 simp only
 cases qm call ⟨zu σ (qQ i),xy T p.ks⟩ i with
 |none=>rfl
 |some st'=>
  simp only [kB]
  cases qy i with
  |none=>rfl
  |some d=>simp only;cases qC st'.σ d<;>rfl
attribute [go_sem] jO qdr qL ZH
@[go_sem] theorem qy3:zS [] []=[]:=(rfl)
@[go_sem] theorem qy2 {k:Nat} {ks:List Key} {ps:List Dp} {i:AI} {is:List AI}:zS (⟨k,ks⟩::ps) (i::is)=if k=0 then zS ps is else YB (qy i) (zS ps is) fun d=>d::zS ps is:=by
 simp only [zS];cases qy i<;>rfl
@[go_sem] theorem qIN {k:Nat} {ks:List Key} {d:Option Nat} {x:Key}:Dp.own ⟨k,ks⟩ d x=((decide (k=1)&&xr x ks)||(!decide (k=0)&&qax d x.1)):=by
 have h1: ∀ ks:List Key,ks.contains x=xr x ks:=by
  intro ks
  induction ks with
  |nil=>rfl
  |cons u r ih=>
   simp only [List.contains_cons,xr,ih]
   by_cases h:u=x
   ·subst h;simp
   ·have:(x==u)=false:=by simpa using fun h'=>h h'.symm
    simp [h,this]
 simp only [Dp.own,h1]
 have h2:(d==some x.1)=qax d x.1:=by
  cases d with
  |none=>rfl
  |some d=>simp only [qax];by_cases h:d=x.1<;>simp [h]
 rw [h2]
 have h3:(k==1)=decide (k=1):=by rw [Bool.eq_iff_iff];simp
 have h4:(k != 0)= !decide (k=0):=by rw [Bool.eq_iff_iff];simp
 rw [h3,h4]
@[go_sem] theorem qLo:xE [] st=st:=(rfl)
@[go_sem] theorem qKS {n:Nat}:qR (.t n)=[n]:=(rfl)
@[go_sem] theorem qKR {z:V}:qR (.c z)=[]:=(rfl)
@[go_sem] theorem qKP:Qt none=[]:=(rfl)
@[go_sem] theorem qKQ {z:AO}:Qt (some z)=qR z:=(rfl)
@[go_sem] theorem qDc {d:Nat} {x:AO}:qy (.mv d x)=some d:=(rfl)
@[go_sem] theorem qLc {d:Nat} {x:AO}:qQ (.mv d x)=qR x:=(rfl)
@[go_sem] theorem qDg {d:Nat} {x:AO} {y:AO} {z:AO}:qy (.pick d x y z)=some d:=(rfl)
@[go_sem] theorem qLg {d:Nat} {x:AO} {y:AO} {z:AO}:qQ (.pick d x y z)=qR x++(qR y++qR z):=(rfl)
@[go_sem] theorem qDe {d:Nat} {x:AO}:qy (.new d x)=some d:=(rfl)
@[go_sem] theorem qLe {d:Nat} {x:AO}:qQ (.new d x)=qR x:=(rfl)
@[go_sem] theorem qCV {d:Nat} {v:V} {bs:List (Nat × Nat × AO)}:qy (.build d v bs)=some d:=(rfl)
@[go_sem] theorem qKV {d:Nat} {v:V} {bs:List (Nat × Nat × AO)}:qQ (.build d v bs)=qdr bs:=(rfl)
@[go_sem] theorem qDb {d:Nat} {e:Nat} {xs:List AO}:qy (.mks d e xs)=some d:=(rfl)
@[go_sem] theorem qLb {d:Nat} {e:Nat} {xs:List AO}:qQ (.mks d e xs)=jO xs:=(rfl)
@[go_sem] theorem qDa {d:Nat} {e:Nat} {v:V} {n:Nat} {x:AO} {y:AO}:qy (.mk d e v n x y)=some d:=(rfl)
@[go_sem] theorem qLa {d:Nat} {e:Nat} {v:V} {n:Nat} {x:AO} {y:AO}:qQ (.mk d e v n x y)=qR x++qR y:=(rfl)
@[go_sem] theorem qC7 {d:Nat} {p:Bool} {n:Nat} {x:AO}:qy (.ld d p n x)=some d:=(rfl)
@[go_sem] theorem qK7 {d:Nat} {p:Bool} {n:Nat} {x:AO}:qQ (.ld d p n x)=qR x:=(rfl)
@[go_sem] theorem qC8 {d:Nat} {p:Bool} {n:Nat} {x:AO}:qy (.ldq d p n x)=some d:=(rfl)
@[go_sem] theorem qK8 {d:Nat} {p:Bool} {n:Nat} {x:AO}:qQ (.ldq d p n x)=qR x:=(rfl)
@[go_sem] theorem qDf {d:Nat} {x:AO}:qy (.nilc d x)=some d:=(rfl)
@[go_sem] theorem qLf {d:Nat} {x:AO}:qQ (.nilc d x)=qR x:=(rfl)
@[go_sem] theorem qCU {d:Nat} {op:BinOp} {x:AO} {y:AO}:qy (.bin d op x y)=some d:=(rfl)
@[go_sem] theorem qKU {d:Nat} {op:BinOp} {x:AO} {y:AO}:qQ (.bin d op x y)=qR x++qR y:=(rfl)
@[go_sem] theorem qCY {d:Nat} {n:Nat} {p:Bool} {x:AO} {y:AO}:qy (.eqs d n p x y)=some d:=(rfl)
@[go_sem] theorem qKY {d:Nat} {n:Nat} {p:Bool} {x:AO} {y:AO}:qQ (.eqs d n p x y)=qR x++qR y:=(rfl)
@[go_sem] theorem qDm {d:Nat} {uo:UnOp} {x:AO}:qy (.un d uo x)=some d:=(rfl)
@[go_sem] theorem qLm {d:Nat} {uo:UnOp} {x:AO}:qQ (.un d uo x)=qR x:=(rfl)
@[go_sem] theorem qDh {d:Nat} {e:Nat} {x:AO} {ox:Option AO} {oy:Option AO}:qy (.sl d e x ox oy)=some d:=(rfl)
@[go_sem] theorem qLh {d:Nat} {e:Nat} {x:AO} {ox:Option AO} {oy:Option AO}:qQ (.sl d e x ox oy)=qR x++(Qt ox++Qt oy):=(rfl)
@[go_sem] theorem qDj {d:Nat} {x:AO} {ox:Option AO} {oy:Option AO}:qy (.ssl d x ox oy)=some d:=(rfl)
@[go_sem] theorem qLj {d:Nat} {x:AO} {ox:Option AO} {oy:Option AO}:qQ (.ssl d x ox oy)=qR x++(Qt ox++Qt oy):=(rfl)
@[go_sem] theorem qDi {d:Nat} {x:AO}:qy (.slen d x)=some d:=(rfl)
@[go_sem] theorem qLi {d:Nat} {x:AO}:qQ (.slen d x)=qR x:=(rfl)
@[go_sem] theorem qC0 {d:Nat} {x:AO} {n:Nat}:qy (.fa d x n)=some d:=(rfl)
@[go_sem] theorem qK0 {d:Nat} {x:AO} {n:Nat}:qQ (.fa d x n)=qR x:=(rfl)
@[go_sem] theorem qC1 {d:Nat} {p:Bool} {n:Nat} {x:AO} {m:Nat}:qy (.fld d p n x m)=some d:=(rfl)
@[go_sem] theorem qK1 {d:Nat} {p:Bool} {n:Nat} {x:AO} {m:Nat}:qQ (.fld d p n x m)=qR x:=(rfl)
@[go_sem] theorem qC4 {d:Nat} {e:Nat} {x:AO} {y:AO}:qy (.ia d e x y)=some d:=(rfl)
@[go_sem] theorem qK4 {d:Nat} {e:Nat} {x:AO} {y:AO}:qQ (.ia d e x y)=qR x++qR y:=(rfl)
@[go_sem] theorem qC6 {d:Nat} {x:AO} {y:AO}:qy (.ix d x y)=some d:=(rfl)
@[go_sem] theorem qK6 {d:Nat} {x:AO} {y:AO}:qQ (.ix d x y)=qR x++qR y:=(rfl)
@[go_sem] theorem qCZ {d:Nat} {x:AO} {n:Nat}:qy (.ext d x n)=some d:=(rfl)
@[go_sem] theorem qKZ {d:Nat} {x:AO} {n:Nat}:qQ (.ext d x n)=qR x:=(rfl)
@[go_sem] theorem qC2 {d:Nat} {fn:Fn} {xs:List AO} {ys:List AO}:qy (.fun d fn xs ys)=some d:=(rfl)
@[go_sem] theorem qK2 {d:Nat} {fn:Fn} {xs:List AO} {ys:List AO}:qQ (.fun d fn xs ys)=jO xs++jO ys:=(rfl)
@[go_sem] theorem qCT {d:Nat} {e:Nat} {n:Nat} {x:AO} {y:AO}:qy (.app d e n x y)=some d:=(rfl)
@[go_sem] theorem qKT {d:Nat} {e:Nat} {n:Nat} {x:AO} {y:AO}:qQ (.app d e n x y)=qR x++qR y:=(rfl)
@[go_sem] theorem qC9 {d:Nat} {x:AO}:qy (.len d x)=some d:=(rfl)
@[go_sem] theorem qK9 {d:Nat} {x:AO}:qQ (.len d x)=qR x:=(rfl)
@[go_sem] theorem qDd {d:Nat} {p:Bool} {xs:List AO}:qy (.mx d p xs)=some d:=(rfl)
@[go_sem] theorem qLd {d:Nat} {p:Bool} {xs:List AO}:qQ (.mx d p xs)=jO xs:=(rfl)
@[go_sem] theorem qC5 {d:Nat} {ik:IntKind} {x:AO}:qy (.int d ik x)=some d:=(rfl)
@[go_sem] theorem qK5 {d:Nat} {ik:IntKind} {x:AO}:qQ (.int d ik x)=qR x:=(rfl)
@[go_sem] theorem qDl {d:Nat} {x:AO}:qy (.str d x)=some d:=(rfl)
@[go_sem] theorem qLl {d:Nat} {x:AO}:qQ (.str d x)=qR x:=(rfl)
@[go_sem] theorem qCW {d:Nat} {x:AO}:qy (.byt d x)=some d:=(rfl)
@[go_sem] theorem qKW {d:Nat} {x:AO}:qQ (.byt d x)=qR x:=(rfl)
@[go_sem] theorem qDk {n:Nat} {x y:AO}:qy (.st n x y)=none:=(rfl)
@[go_sem] theorem qLk {n:Nat} {x y:AO}:qQ (.st n x y)=qR x++qR y:=(rfl)
@[go_sem] theorem qCX {o:Option Nat} {x:AO} {xs:List AO} {m:Md}:qy (.call o x xs m)=o:=(rfl)
@[go_sem] theorem qKX {o:Option Nat} {x:AO} {xs:List AO} {m:Md}:qQ (.call o x xs m)=qR x++jO xs:=(rfl)
@[go_sem] theorem qC3 {n:Nat} {p:Bool} {o:Option Nat} {i:AI}:qy (.gd n p o i)=o:=(rfl)
@[go_sem] theorem qK3 {n:Nat} {p:Bool} {o:Option Nat} {i:AI}:qQ (.gd n p o i)=n::qQ i:=(rfl)
@[go_sem] theorem qGb {k:Nat} {ks:List Key} {d:Option Nat} {T':Mem}:YJ ⟨k,ks⟩ d T' T=if k=0 then T else qL (Dp.own ⟨k,ks⟩ d) T'++qL (fun x=> !Dp.own ⟨k,ks⟩ d x) T:=(rfl)
@[go_sem] theorem qLn {ds:List Nat} {d:Nat}:xE (d::ds) ⟨σ,T⟩=xE ds ⟨xt d σ,wT d T⟩:=(rfl)
def qcV(n:Nat) (σ:Sl) (T:Mem):St:=ZA n (yZ σ) σ (YU (yZ σ) (xq σ++xn T (yZ σ)) T)
@[go_sem] theorem qJa {ls:List Nat} {ks:List Key}:xR ls ks ⟨σ,T⟩=qcV (qas ks) (zu σ ls) T:=(rfl)
@[go_sem] theorem qAi:qas []=0:=(rfl)
@[go_sem] theorem qAh {n m:Nat} {r:List Key}:qas ((n,m)::r)=n:=(rfl)
theorem qj0: ∀ (ks:List Key),yS [] ks=[]
 |[]=>rfl
 |k::ks=>by simp only [yS,qu,qj0 ks]
theorem qhs(bx:List Key): ∀ (ks:List Key),Qd bx ks []=[]
 |[]=>rfl
 |k::ks=>by
  have:Yy [] k=[]:=rfl
  simp only [Qd,this,ite_self,qhs bx ks]
@[go_sem] theorem qI9 {n:Nat}:qcV n σ []=ZA n (yZ σ) σ []:=by
 simp only [qcV,YU,qhs,qj0]
@[go_sem] theorem qI8 {n:Nat} {ob:Key × Ob}:qcV n σ (ob::T)=ZA n (yZ σ) σ (YU (yZ σ) (xq σ++xn (ob::T) (yZ σ)) (ob::T)):=(rfl)
@[go_sem] theorem qKB {bx k0:List Key}:YU bx k0 T=yS (Qd bx k0 T) k0:=(rfl)
@[go_sem] theorem qBD {bx:List Key}:Qd bx [] T=T:=(rfl)
@[go_sem] theorem qBC {bx ks:List Key} {k:Key}:Qd bx (k::ks) T=Qd bx ks (zG (xr k bx) T (Yy T k)):=(rfl)
def qda(T:Mem) (k:Key) (ob:Option Ob):Mem:=
 match ob with
 |none=>T
 |some ob=>zG (qE ob.2) T ((k,ob.1,(qA (zh 30) (qB T k) ob.2).1)::(qA (zh 30) (qB T k) ob.2).2)
@[go_sem] theorem qBB {k:Key}:Yy T k=qda T k (qu T k):=by
 unfold Yy qda zG;cases qu T k<;>rfl
@[go_sem] theorem qKo {k:Key}:qda T k none=T:=(rfl)
@[go_sem] theorem qKp {k:Key} {ob:Ob}:qda T k (some ob)=zG (qE ob.2) T ((k,ob.1,(qA (zh 30) (qB T k) ob.2).1)::(qA (zh 30) (qB T k) ob.2).2):=(rfl)
@[go_sem] theorem qBA {m:Nat} {x:V}:zh m T x=zG (clE x) (x,T) (qx m T x):=(rfl)
theorem qi8(m:Nat): ∀ (xs ys:List V) (T:Mem),qA (zh m) T (xs++ys)=((qA (zh m) T xs).1++(qA (zh m) (qA (zh m) T xs).2 ys).1,(qA (zh m) (qA (zh m) T xs).2 ys).2)
 |[],ys,T=>rfl
 |x::xs,ys,T=>by simp only [List.cons_append,qA,qi8 m xs ys]
theorem jK(m:Nat) (T:Mem): ∀ (xs:List V),qE xs=true→qA (zh m) T xs=(xs,T)
 |[],_=>rfl
 |x::xs,h=>by
  simp only [qE,Bool.and_eq_true]at h
  have:zh m T x=(x,T):=by unfold zh;rw [if_pos h.1]
  simp only [qA,this,jK m T xs h.2]
attribute [go_sem] qi8
def qen(n:Nat) (bx:List Key) (σ:Sl) (T:Mem):St:=⟨Qp (kF n (xq σ++xn T bx)) σ,jk (kF n (xq σ++xn T bx)) (yS T (xq σ++xn T bx))⟩
@[go_sem] theorem qmt {n:Nat} {bx:List Key}:ZA n bx σ T=qen n bx (xM σ) (kH σ++y5 bx T):=(rfl)
def qhf(n:Nat) (kk:List Key) (σ:Sl) (T:Mem):St:=⟨Qp (kF n kk) σ,jk (kF n kk) (yS T kk)⟩
@[go_sem] theorem qAL {n:Nat} {bx:List Key}:qen n bx σ T=qhf n (xq σ++xn T bx) σ T:=(rfl)
@[go_sem] theorem qAM {n:Nat} {kk:List Key}:qhf n kk σ T=⟨Qp (kF n kk) σ,jk (kF n kk) (yS T kk)⟩:=(rfl)
@[go_sem] theorem qyp:NB=200000:=(rfl)
@[go_sem] theorem qvt:CN=100000:=(rfl)
attribute [go_sem] xM kH xn kF ZE Qp zQ zT
@[go_sem] theorem qAN {n:Nat} {σ:Sl}:ZA n [] σ []=qen n [] (xM σ) (kH σ):=by rw [qmt];simp only [y5,List.append_nil]
section nm
variable {t i j d e n lo len:Nat} {k k':Key} {x:V} {xs:List V} {bx tb:List Key} {r:Sl} {M:Mem} {τ nm:Bool} {u:Int} {l:List UInt8} {fn:Fn} {ys:List V}
@[go_sem] theorem qAD:yZ []=[]:=(rfl)
def yY(x:V) (r:List Key):List Key:=match x with| .p k _ _=>k::r|_=>r
@[go_sem] theorem qAC:yZ ((t,x)::r)=yY x (yZ r):=by cases x<;>rfl
@[go_sem] theorem qAx {r:List Key}:yY (.p k i j) r=k::r:=(rfl)
@[go_sem] theorem qAz {r:List Key}:yY (.s k i j) r=r:=(rfl)
@[go_sem] theorem qAn {r:List Key}:yY (I u) r=r:=(rfl)
@[go_sem] theorem qAl {b:Bool} {r:List Key}:yY (B b) r=r:=(rfl)
@[go_sem] theorem qAo {r:List Key}:yY (S l) r=r:=(rfl)
@[go_sem] theorem qAq {r:List Key}:yY (U8 u) r=r:=(rfl)
@[go_sem] theorem qAp {r:List Key}:yY (U32 u) r=r:=(rfl)
@[go_sem] theorem qAu {r:List Key}:yY (.i τ xs) r=r:=(rfl)
@[go_sem] theorem qAy {r:List Key}:yY (.q τ xs i j) r=r:=(rfl)
@[go_sem] theorem qAw {r:List Key}:yY (.o e xs) r=r:=(rfl)
@[go_sem] theorem qAv {r:List Key}:yY (.n e) r=r:=(rfl)
@[go_sem] theorem qAr {r:List Key}:yY (.a xs) r=r:=(rfl)
@[go_sem] theorem qAA {r:List Key}:yY (.t xs) r=r:=(rfl)
@[go_sem] theorem qAt {r:List Key}:yY (.f fn xs ys) r=r:=(rfl)
@[go_sem] theorem qAs {r:List Key}:yY .d r=r:=(rfl)
@[go_sem] theorem qAB {r:List Key}:yY yo r=r:=(rfl)
@[go_sem] theorem qAm {g:Nat} {r:List Key}:yY (Fc g) r=r:=(rfl)
@[go_sem] theorem qCB:qey (some (e,[x]))=xi x:=(rfl)
@[go_sem] theorem qCA:qey none=[]:=(rfl)
@[go_sem] theorem qGt:qO d i nm (I u)=I u:=(rfl)
@[go_sem] theorem qGr {b:Bool}:qO d i nm (B b)=B b:=(rfl)
@[go_sem] theorem qGu:qO d i nm (S l)=S l:=(rfl)
@[go_sem] theorem qGw:qO d i nm (U8 u)=U8 u:=(rfl)
@[go_sem] theorem qGv:qO d i nm (U32 u)=U32 u:=(rfl)
@[go_sem] theorem qGK:qO d i nm yo=yo:=(rfl)
@[go_sem] theorem qGs {g:Nat}:qO d i nm (Fc g)=Fc g:=(rfl)
@[go_sem] theorem qGB:qO d i nm (.i τ xs)= .i τ xs:=(rfl)
@[go_sem] theorem qGH:qO d i nm (.q τ xs lo len)= .q τ xs lo len:=(rfl)
@[go_sem] theorem qGF:qO d i nm (.o e xs)= .o e xs:=(rfl)
@[go_sem] theorem qGy:qO d i nm (.b x)= .b x:=(rfl)
@[go_sem] theorem qGz:qO d i nm .d= .d:=(rfl)
@[go_sem] theorem qGD:qO d i true (.n e)= .s (d,i) 0 0:=(rfl)
@[go_sem] theorem qGE:qO d i false (.n e)= .n e:=(rfl)
@[go_sem] theorem qGG:qO d i nm (.p k lo len)=if NB≤k.1 then .d else .p k lo len:=(rfl)
@[go_sem] theorem qGI:qO d i nm (.s k lo len)=if NB≤k.1 then .d else .s k lo len:=(rfl)
@[go_sem] theorem qGA:qO d i nm (.f fn xs ys)= .f fn (zQ d i false xs) (zQ d i false ys):=(rfl)
@[go_sem] theorem qGx:qO d i nm (.a xs)= .a (zQ d i nm xs):=(rfl)
@[go_sem] theorem qGJ:qO d i nm (.t xs)= .t (zQ d i false xs):=(rfl)
def xN(d i:Nat) (x:V):Mem:=match x with| .n e=>[((d,i),e,[])]|_=>[]
@[go_sem] theorem qGg:Qk d i []=[]:=(rfl)
@[go_sem] theorem qGf:Qk d i (x::xs)=xN d i x++Qk d (i+1) xs:=by cases x<;>rfl
@[go_sem] theorem qGV:xN d i (.n e)=[((d,i),e,[])]:=(rfl)
@[go_sem] theorem qGN:xN d i (I u)=[]:=(rfl)
@[go_sem] theorem qGM {b:Bool}:xN d i (B b)=[]:=(rfl)
@[go_sem] theorem qGO:xN d i (S l)=[]:=(rfl)
@[go_sem] theorem qGQ:xN d i (U8 u)=[]:=(rfl)
@[go_sem] theorem qGP:xN d i (U32 u)=[]:=(rfl)
@[go_sem] theorem qGU:xN d i (.i τ xs)=[]:=(rfl)
@[go_sem] theorem qGW:xN d i (.o e xs)=[]:=(rfl)
@[go_sem] theorem qGZ:xN d i (.s k lo len)=[]:=(rfl)
@[go_sem] theorem qGX:xN d i (.p k lo len)=[]:=(rfl)
@[go_sem] theorem qGY:xN d i (.q τ xs lo len)=[]:=(rfl)
@[go_sem] theorem qGR:xN d i (.b x)=[]:=(rfl)
@[go_sem] theorem qGT:xN d i (.f fn xs ys)=[]:=(rfl)
@[go_sem] theorem qGS:xN d i .d=[]:=(rfl)
@[go_sem] theorem qG2:yl d i (I u)=[]:=(rfl)
@[go_sem] theorem qG0 {b:Bool}:yl d i (B b)=[]:=(rfl)
@[go_sem] theorem qG3:yl d i (S l)=[]:=(rfl)
@[go_sem] theorem qG5:yl d i (U8 u)=[]:=(rfl)
@[go_sem] theorem qG4:yl d i (U32 u)=[]:=(rfl)
@[go_sem] theorem qHh:yl d i yo=[]:=(rfl)
@[go_sem] theorem qG1 {g:Nat}:yl d i (Fc g)=[]:=(rfl)
@[go_sem] theorem qHa:yl d i (.i τ xs)=[]:=(rfl)
@[go_sem] theorem qHc:yl d i (.o e xs)=[]:=(rfl)
@[go_sem] theorem qHf:yl d i (.s k lo len)=[]:=(rfl)
@[go_sem] theorem qHd:yl d i (.p k lo len)=[]:=(rfl)
@[go_sem] theorem qHe:yl d i (.q τ xs lo len)=[]:=(rfl)
@[go_sem] theorem qG7:yl d i (.b x)=[]:=(rfl)
@[go_sem] theorem qG9:yl d i (.f fn xs ys)=[]:=(rfl)
@[go_sem] theorem qHg:yl d i (.t xs)=[]:=(rfl)
@[go_sem] theorem qG8:yl d i .d=[]:=(rfl)
@[go_sem] theorem qHb:yl d i (.n e)=[((d,i),e,[])]:=(rfl)
@[go_sem] theorem qG6:yl d i (.a xs)=Qk d i xs:=(rfl)
def qev(xs:List V):List V:=zG (qE xs) xs (zQ 0 0 false xs)
@[go_sem] theorem qB3:qev xs=zG (qE xs) xs (zQ 0 0 false xs):=(rfl)
@[go_sem] theorem qGn:kG d i true [x]=[qO d i true x]:=(rfl)
@[go_sem] theorem qGo:kG d i false xs=qev xs:=by
 unfold kG qev zG
 split
 ·simp only [Bool.false_eq_true,if_false,qE,Bool.and_true,zQ]
 ·rfl
@[go_sem] theorem qGl:YK d i true [x]=yl d i x:=(rfl)
@[go_sem] theorem qGm:YK d i false xs=[]:=by unfold YK;split<;>rfl
@[go_sem] theorem qGq:y5 bx []=[]:=(rfl)
@[go_sem] theorem qGp {ob:Ob}:y5 bx ((k,ob)::M)=if NB≤k.1 then y5 bx M else YK (2*NB+k.1) (10*k.2) (xr k bx) ob.2++(k,ob.1,kG (2*NB+k.1) (10*k.2) (xr k bx) ob.2)::y5 bx M:=(rfl)
def qc5(o:Option Nat) (k:Key):Option Key:=match o with|some i=>some (CN,i)|none=>if k.1=CN then none else some k
@[go_sem] theorem qJe:xA tb k=qc5 (ZE k 0 tb) k:=by unfold xA qc5;cases ZE k 0 tb<;>rfl
@[go_sem] theorem qJd:qc5 (some i) k=some (CN,i):=(rfl)
@[go_sem] theorem qJc:qc5 none k=if k.1=CN then none else some k:=(rfl)
def sOf(o:Option Key) (a b:Nat):V:=match o with|some k=> .s k a b|none=> .d
def pOf(o:Option Key) (a b:Nat):V:=match o with|some k=> .p k a b|none=> .d
@[go_sem] theorem qKu:sOf (some k) i j= .s k i j:=(rfl)
@[go_sem] theorem qIR:pOf (some k) i j= .p k i j:=(rfl)
@[go_sem] theorem qKt:sOf none i j= .d:=(rfl)
@[go_sem] theorem qIQ:pOf none i j= .d:=(rfl)
@[go_sem] theorem qJz:qU tb (.s k i j)=sOf (xA tb k) i j:=by simp only [qU,sOf];cases xA tb k<;>rfl
@[go_sem] theorem qJx:qU tb (.p k i j)=pOf (xA tb k) i j:=by simp only [qU,pOf];cases xA tb k<;>rfl
@[go_sem] theorem qJl:qU tb (I u)=I u:=(rfl)
@[go_sem] theorem qJj {b:Bool}:qU tb (B b)=B b:=(rfl)
@[go_sem] theorem qJm:qU tb (S l)=S l:=(rfl)
@[go_sem] theorem qJo:qU tb (U8 u)=U8 u:=(rfl)
@[go_sem] theorem qJn:qU tb (U32 u)=U32 u:=(rfl)
@[go_sem] theorem qJB:qU tb yo=yo:=(rfl)
@[go_sem] theorem qJk {g:Nat}:qU tb (Fc g)=Fc g:=(rfl)
@[go_sem] theorem qJt:qU tb (.i τ xs)= .i τ xs:=(rfl)
@[go_sem] theorem qJy:qU tb (.q τ xs i j)= .q τ xs i j:=(rfl)
@[go_sem] theorem qJw:qU tb (.o e xs)= .o e xs:=(rfl)
@[go_sem] theorem qJq:qU tb (.b x)= .b x:=(rfl)
@[go_sem] theorem qJv:qU tb (.n e)= .n e:=(rfl)
@[go_sem] theorem qJr:qU tb .d= .d:=(rfl)
@[go_sem] theorem qJs:qU tb (.f fn xs ys)= .f fn (zT tb xs) (zT tb ys):=(rfl)
@[go_sem] theorem qJp:qU tb (.a xs)= .a (zT tb xs):=(rfl)
@[go_sem] theorem qJA:qU tb (.t xs)= .t (zT tb xs):=(rfl)
def qc6(o:Option Key) (e:Nat) (xs:List V) (r:Mem):Mem:=match o with|some k=>(k,e,xs)::r|none=>r
@[go_sem] theorem qJg {r:Mem}:qc6 (some k) e xs r=(k,e,xs)::r:=(rfl)
@[go_sem] theorem qJf {r:Mem}:qc6 none e xs r=r:=(rfl)
@[go_sem] theorem qJi:jk tb []=[]:=(rfl)
@[go_sem] theorem qJh {ob:Ob}:jk tb ((k,ob)::M)=qc6 (xA tb k) ob.1 (zG (qE ob.2) ob.2 (zT tb ob.2)) (jk tb M):=by
 obtain ⟨e,xs⟩:=ob
 simp only [jk,qc6,zG]
 cases xA tb k<;>rfl
end nm
attribute [go_sem] xi X2 xq xr qfl qkU List.reverse_cons List.reverse_nil
@[go_sem] theorem qCE {n:Int}:xi (I n)=[]:=(rfl)
@[go_sem] theorem qCC {b:Bool}:xi (B b)=[]:=(rfl)
@[go_sem] theorem qCF {l:List UInt8}:xi (S l)=[]:=(rfl)
@[go_sem] theorem qCH {n:Int}:xi (U8 n)=[]:=(rfl)
@[go_sem] theorem qCG {n:Int}:xi (U32 n)=[]:=(rfl)
@[go_sem] theorem qCD {g:Nat}:xi (Fc g)=[]:=(rfl)
@[go_sem] theorem qCI:xi yo=[]:=(rfl)
def qc9(T:Mem) (k:Key) (ob:Option Ob):Mem:=
 match ob with
 |none=>T
 |some ob=>zG (qE ob.2) (kK k ob (qB T k)) T
@[go_sem] theorem qKn {k:Key}:qfV T k=qc9 T k (qu T k):=by
 unfold qfV qc9 zG;cases qu T k<;>rfl
@[go_sem] theorem qKl {k:Key}:qc9 T k none=T:=(rfl)
@[go_sem] theorem qKm {k:Key} {ob:Ob}:qc9 T k (some ob)=zG (qE ob.2) (kK k ob (qB T k)) T:=(rfl)
def qcR(d:Nat) (k:Key) (i:Nat) (σ:Sl) (T:Mem) (ob:Option Ob):St:=
 match ob with
 |some ob=>(match ob.2[i]? with
  |some x=>⟨σ,(qP d 0 x).2.2++((k,ob.1,ob.2.set i (qP d 0 x).1)::qB T k)⟩
  |none=>⟨σ,T⟩)
 |none=>⟨σ,T⟩
def qjL(d:Nat) (k:Key) (i:Nat) (σ:Sl) (T:Mem) (ob:Ob) (x:Option V):St:=
 match x with
 |some x=>⟨σ,(qP d 0 x).2.2++((k,ob.1,ob.2.set i (qP d 0 x).1)::qB T k)⟩
 |none=>⟨σ,T⟩
def qaz(d:Nat) (v:Option V):List (Nat × Key × Nat):=
 match v with
 |some (.p k idx _)=>[(d,k,idx)]
 |_=>[]
def X3(d:Nat) (v w:Option V):List (Nat × Key × Nat):=
 match v with
 |some (.p k idx _)=>[(d,k,idx)]
 |some (.s k lo _)=>match w with
  |some (.v (.int _ n))=>[(d,k,lo+n.toNat)]
  |_=>[]
 |_=>[]
@[congr] theorem qDs {d:Nat} {v v':Option V} (h:v=v'):qaz d v=qaz d v':=by rw [h]
@[congr] theorem qDn {d:Nat} {v v' w w':Option V} (h:v=v') (h':w=w'):X3 d v w=X3 d v' w':=by rw [h,h']
@[go_sem] theorem qDq {d r:Nat}:QL σ d r none=qaz d (qC σ r):=by
 unfold QL qaz
 cases qC σ r with
 |none=>rfl
 |some v=>cases v<;>rfl
@[go_sem] theorem qDr {d r i:Nat}:QL σ d r (some i)=X3 d (qC σ r) (qC σ i):=by
 unfold QL X3
 cases qC σ r with
 |none=>rfl
 |some v=>cases v<;>rfl
@[go_sem] theorem qDt {d a b:Nat} {k:Key}:qaz d (some (.p k a b))=[(d,k,a)]:=(rfl)
@[go_sem] theorem qDo {d a b:Nat} {k:Key} {w:Option V}:X3 d (some (.p k a b)) w=[(d,k,a)]:=(rfl)
@[go_sem] theorem qDp {d a b:Nat} {k:Key} {n:Int}:X3 d (some (.s k a b)) (some (I n))=[(d,k,a+n.toNat)]:=(rfl)
@[go_sem] theorem qHX:ZI [] st=st:=(rfl)
@[go_sem] theorem qHW {d r:Nat} {i:Option Nat} {os:List (Nat × Nat × Option Nat)}:ZI ((d,r,i)::os) ⟨σ,T⟩=ZI os (Ql (QL σ d r i) ⟨σ,T⟩):=(rfl)
@[go_sem] theorem qID:Ql [] st=st:=(rfl)
@[go_sem] theorem qIC {d i:Nat} {k:Key} {r:List (Nat × Key × Nat)}:Ql ((d,k,i)::r) ⟨σ,T⟩=Ql r (Kk d k i ⟨xt d σ,wT d T⟩):=(rfl)
@[go_sem] theorem qIG {d i:Nat} {k:Key}:Kk d k i ⟨σ,T⟩=qcR d k i σ T (qu T k):=by
 unfold Kk qcR;simp only;cases qu T k<;>rfl
@[go_sem] theorem qIF {d i:Nat} {k:Key} {ob:Ob}:qcR d k i σ T (some ob)=qjL d k i σ T ob ob.2[i]? :=(rfl)
@[go_sem] theorem qIE {d i:Nat} {k:Key}:qcR d k i σ T none=⟨σ,T⟩:=(rfl)
@[go_sem] theorem qIH {d i:Nat} {k:Key} {ob:Ob} {x:V}:qjL d k i σ T ob (some x)=⟨σ,(qP d 0 x).2.2++((k,ob.1,ob.2.set i (qP d 0 x).1)::qB T k)⟩:=(rfl)
structure Lp where
 ls:List Nat
 ks:List Key
 body:AC
def lpC(l:Lp):AC:= .loop l.ls l.ks l.body
noncomputable def lw(prog:Nat→Option AE) (l:Lp) (s:St):Option (AX × St):=kA (xw prog l.body s) fun st'=>xw prog (lpC l) st'
@[go_sem] theorem qu1 {l:Lp}:xw prog (lpC l) st=lw prog l (xR l.ls l.ks st):=by
 unfold lw lpC;exact qu0
theorem qn(l:Lp) (s:St):lw prog l s=kA (xw prog l.body s) fun st'=>lw prog l (xR l.ls l.ks st'):=by
 unfold lw
 congr 1
 funext st'
 rw [qu1];rfl
def qc7(T:Mem) (k:Key) (agg:Bool) (size:Nat) (ob:Option Ob):Option (V × Mem):=
 match ob with
 |some (_,[x])=>(qY agg size x 0).bind fun y=>if x.cells.length=y.cells.length then some (y,qB T k)else none
 |_=>none
def qar {α:Type} (r:Option (V × Mem)) (k:V→Mem→Option α):Option α:=
 match r with
 |some (x,T)=>k x T
 |none=>none
@[congr] theorem qz5 {α:Type} {r r':Option (V × Mem)} {k:V→Mem→Option α} (h:r=r'):qar r k=qar r' k:=by rw [h]
@[go_sem] theorem qz6 {α:Type} {z:V} {k:V→Mem→Option α}:qar (some (z,T)) k=k z T:=(rfl)
@[go_sem] theorem qKj {t:Nat}:Qq ⟨σ,T⟩ (.tmp t)=qq (qC σ t) fun x=>some (x,T):=by
 simp only [Qq];cases qC σ t<;>rfl
def qfv(x:V) (k:Key→Option (V × Mem)):Option (V × Mem):=
 match x with
 | .p k' 0 0=>k k'
 |_=>none
@[go_sem] theorem qJb {k':Key} {k:Key→Option (V × Mem)}:qfv (.p k' 0 0) k=k k':=(rfl)
@[go_sem] theorem qKi {t size:Nat} {agg:Bool}:Qq ⟨σ,T⟩ (.cell t agg size)=qq (qC σ t) fun x=>qfv x fun k=>qc7 T k agg size (qu T k):=by
 simp only [Qq]
 cases qC σ t with
 |none=>rfl
 |some x=>
  cases x<;>first|rfl|skip
  rename_i k idx off
  cases idx with
  |succ=>rfl
  |zero=>cases off with
   |succ=>rfl
   |zero=>
    simp only [qq,qfv,qc7]
    cases qu T k with
    |none=>rfl
    |some ob=>obtain ⟨e,xs⟩:=ob;rcases xs with _|⟨x,_|⟨y,r⟩⟩<;>rfl
@[go_sem] theorem qKf {k:Key} {agg:Bool} {e size:Nat} {z:V}:qc7 T k agg size (some (e,[z]))=qq (qY agg size z 0) fun y=>if z.cells.length=y.cells.length then some (y,qB T k)else none:=by
 simp only [qc7];cases qY agg size z 0<;>rfl
@[go_sem] theorem qKh:kq σ T []=some ([],T):=(rfl)
@[go_sem] theorem qKg {r:AR} {rs:List AR}:kq σ T (r::rs)=qar (Qq ⟨σ,T⟩ r) fun x T'=>Yv (kq σ T' rs) fun xs T''=>some (x::xs,T''):=by
 simp only [kq]
 cases Qq ⟨σ,T⟩ r with
 |none=>rfl
 |some xT=>obtain ⟨x,T'⟩:=xT;simp only [qar];cases kq σ T' rs<;>rfl
@[go_sem] theorem qHD {z:V}:je [z]=z:=(rfl)
@[go_sem] theorem qHE {z z':V} {zs:List V}:je (z::z'::zs)= .t (z::z'::zs):=(rfl)
@[go_sem] theorem qHC:je []= .t []:=(rfl)
attribute [go_sem] za xa qmp Option.some_beq_none Option.some_beq_some Option.none_beq_some
attribute [go_sem] Bool.true_and Bool.and_true Bool.false_and Bool.and_false Bool.not_true Bool.not_false Bool.or_true Bool.true_or Bool.or_false Bool.false_or if_true if_false
 decide_true decide_false decide_eq_true_eq ne_eq not_true_eq_false not_false_eq_true and_self and_true true_and and_false false_and beq_self_eq_true Bool.not_eq_eq_eq_not Bool.false_eq_true decide_not ite_not Bool.not_not
 eq_self Prod.mk.injEq List.contains_nil List.contains_cons Option.isNone_none Option.isNone_some
end
end Go.Vm
namespace Go.Vm
def bkP(k:Key) (i o n:Nat) (x:V) (ob:Option Ob):Mem:=
 match ob with
 |some ob=>if i=0∧o=0∧ob.1=n then [(k,n,[x])]else []
 |none=>[]
@[go_sem] theorem qzh {T:Mem} {k:Key} {i o:Nat} {x:V}:xg T (.p k i o) (.b x)=bkP k i o x.cells.length x (qu T k):=by simp only [xg,bkP];cases qu T k<;>rfl
@[go_sem] theorem qAg {k:Key} {i o n:Nat} {x:V} {e:Nat} {zs:List V}:bkP k i o n x (some (e,zs))=if i=0∧o=0∧e=n then [(k,n,[x])]else []:=(rfl)
end Go.Vm
namespace Go.Vm
section
variable {prog:Nat→Option AE} {st:St} {σ:Sl} {T:Mem} {call:Call} {d j e lo:Nat} {k:Key} {es:List (Int × Int)} {τ:Bool} {n u:Int} {o:Option Bool} {tb:List Key} {nm:Bool}
def xO {α:Type} (x:V) (g:Int→Option α):Option α:=
 match x with
 | .v (.int .i64 n)=>g n
 |_=>none
@[go_sem] theorem qHB {α:Type} {g:Int→Option α}:xO (I n) g=g n:=(rfl)
def Qa {α:Type} (r:Option (List (Int × Int))) (g:List (Int × Int)→Option α):Option α:=
 match r with
 |some es=>g es
 |none=>none
@[congr] theorem qzN {α:Type} {r r':Option (List (Int × Int))} {g:List (Int × Int)→Option α} (h:r=r'):Qa r g=Qa r' g:=by rw [h]
@[go_sem] theorem qzO {α:Type} {g:List (Int × Int)→Option α}:Qa (some es) g=g es:=(rfl)
def qhM(ob:Option Ob):Option (List (Int × Int)):=
 match ob with
 |some (_,[.w _ es])=>some es
 |_=>none
@[go_sem] theorem qDH:qhM (some (e,[.w o es]))=some es:=(rfl)
@[go_sem] theorem qDF:y4 T (.m k)=qhM (qu T k):=(rfl)
@[go_sem] theorem qDG:y4 T (.w (some τ) es)=some es:=(rfl)
def qle(T:Mem) (k:Key) (ob:Option Ob) (es:List (Int × Int)):Option Mem:=
 match ob with
 |some _=>some ((k,0,[.w (some true) es])::qB T k)
 |none=>none
@[go_sem] theorem qKy {ob:Ob}:qle T k (some ob) es=some ((k,0,[.w (some true) es])::qB T k):=(rfl)
@[go_sem] theorem qKx:jm T (.m k) es=qle T k (qu T k) es:=(rfl)
@[go_sem] theorem qEl:qm call ⟨σ,T⟩ (.mkm d)=some ⟨(d,.m (d,0))::xt d σ,((d,0),0,[.w (some true) []])::wT d T⟩:=(rfl)
@[go_sem] theorem qEn {m k v:AO}:qm call ⟨σ,T⟩ (.mset m k v)=qq (ev σ m) fun m=>qq (ev σ k) fun k=>qq (ev σ v) fun v=>xO k fun k=>xO v fun v=>Qa (y4 T m) fun es=>QI (jm T m (ym k v es)) fun T'=>some ⟨σ,T'⟩:=by
 simp only [qm,qi]
 cases ev σ m with
 |none=>rfl
 |some m=>
 cases ev σ k with
 |none=>rfl
 |some k=>
 cases ev σ v with
 |none=>simp only [qq]
 |some v=>
 simp only [qq]
 split
 ·rename_i h1 h2 h3
  simp only [Option.some.injEq]at h1 h2 h3;subst h1;subst h2;subst h3
  simp only [xO]
  cases y4 T m with
  |none=>rfl
  |some es=>simp only [Qa];cases jm T m _<;>rfl
 ·rename_i h
  unfold xO
  split
  ·split
   ·exact absurd rfl (h _ _ _ rfl rfl)
   ·rfl
  ·rfl
@[go_sem] theorem qEj {m k:AO}:qm call ⟨σ,T⟩ (.mget d m k)=qq (ev σ m) fun m=>qq (ev σ k) fun k=>xO k fun k=>Qa (y4 T m) fun es=>some ⟨(d,I ((zm k es).getD 0))::σ,T⟩:=by
 simp only [qm,qi]
 cases ev σ m with
 |none=>rfl
 |some m=>
 cases ev σ k with
 |none=>rfl
 |some k=>
 simp only [qq]
 split
 ·rename_i h1 h2
  simp only [Option.some.injEq]at h1 h2;subst h1;subst h2
  simp only [xO]
  cases y4 T m<;>rfl
 ·rename_i h
  unfold xO
  split
  ·exact absurd rfl (h _ _ rfl)
  ·rfl
@[go_sem] theorem qEh {m k:AO}:qm call ⟨σ,T⟩ (.men d m k)=qq (ev σ m) fun m=>qq (ev σ k) fun k=>xO k fun k=>Qa (y4 T m) fun es=>QI (jm T m (ym k ((zm k es).getD 0) es)) fun T'=>some ⟨(d,.t [I ((zm k es).getD 0),I (zi k es)])::σ,T'⟩:=by
 simp only [qm,qi]
 cases ev σ m with
 |none=>rfl
 |some m=>
 cases ev σ k with
 |none=>rfl
 |some k=>
 simp only [qq]
 split
 ·rename_i h1 h2
  simp only [Option.some.injEq]at h1 h2;subst h1;subst h2
  simp only [xO]
  cases y4 T m with
  |none=>rfl
  |some es=>simp only [Qa];cases jm T m _<;>rfl
 ·rename_i h
  unfold xO
  split
  ·exact absurd rfl (h _ _ rfl)
  ·rfl
def qaG {α:Type} (i:Option Nat) (g:Nat→Option α):Option α:=
 match i with
 |some i=>g i
 |none=>none
@[congr] theorem qEG {α:Type} {i i':Option Nat} {g:Nat→Option α} (h:i=i'):qaG i g=qaG i' g:=by rw [h]
@[go_sem] theorem qEH {α:Type} {i:Nat} {g:Nat→Option α}:qaG (some i) g=g i:=(rfl)
@[go_sem] theorem qEi {m k v:AO}:qm call ⟨σ,T⟩ (.mes m k v)=qq (ev σ m) fun m=>qq (ev σ k) fun k=>qq (ev σ v) fun v=>xO k fun s=>xO v fun v=>Qa (y4 T m) fun es=>qaG (zV s es.length) fun i=>QI (jm T m (es.modify i fun e=>(e.1,v))) fun T'=>some ⟨σ,T'⟩:=by
 simp only [qm,qi]
 cases ev σ m with
 |none=>rfl
 |some m=>
 cases ev σ k with
 |none=>rfl
 |some k=>
 cases ev σ v with
 |none=>simp only [qq]
 |some v=>
 simp only [qq]
 split
 ·rename_i h1 h2 h3
  simp only [Option.some.injEq]at h1 h2 h3;subst h1;subst h2;subst h3
  simp only [xO]
  cases y4 T m with
  |none=>rfl
  |some es=>
   simp only [Qa]
   cases zV _ es.length with
   |none=>rfl
   |some i=>simp only [qaG];cases jm T m _<;>rfl
 ·rename_i h
  unfold xO
  split
  ·split
   ·exact absurd rfl (h _ _ _ rfl rfl)
   ·rfl
  ·rfl
theorem qjg(k v w:Int): ∀ (es:List (Int × Int)),(ym k w es).modify (zi k es) (fun e=>(e.1,v))=ym k v es
 |[]=>rfl
 |(a,b)::r=>by
  simp only [ym,zi]
  split
  ·rfl
  ·simp only [List.modify_succ_cons,qjg k v w r]
theorem qj2(k w:Int): ∀ (es:List (Int × Int)),zi k es < (ym k w es).length
 |[]=>by simp [ym,zi]
 |(a,b)::r=>by
  simp only [ym,zi]
  split
  ·simp
  ·have:=qj2 k w r;simp only [List.length_cons];omega
theorem qnd(k w:Int) (es:List (Int × Int)):zV (zi k es:Int) (ym k w es).length=some (zi k es):=by
 have:=qj2 k w es
 unfold zV
 rw [if_pos ⟨by omega,by omega⟩];simp
attribute [go_sem] qjg qnd
@[go_sem] theorem qyL:qi call ⟨σ,T⟩ (.mkm d)=qm call ⟨σ,T⟩ (.mkm d):=(rfl)
@[go_sem] theorem qyN {m k v:AO}:qi call ⟨σ,T⟩ (.mset m k v)=qm call ⟨σ,T⟩ (.mset m k v):=(rfl)
@[go_sem] theorem qyJ {m k:AO}:qi call ⟨σ,T⟩ (.mget d m k)=qm call ⟨σ,T⟩ (.mget d m k):=(rfl)
@[go_sem] theorem qyH {m k:AO}:qi call ⟨σ,T⟩ (.men d m k)=qm call ⟨σ,T⟩ (.men d m k):=(rfl)
@[go_sem] theorem qyI {m k v:AO}:qi call ⟨σ,T⟩ (.mes m k v)=qm call ⟨σ,T⟩ (.mes m k v):=(rfl)
@[go_sem] theorem qA3:(V.m k).cells=[V.m k]:=(rfl)
@[go_sem] theorem qBb:(V.w o es).cells=[V.w o es]:=(rfl)
@[go_sem] theorem qHP:(V.m k).one=true:=(rfl)
@[go_sem] theorem qHV:(V.w o es).one=true:=(rfl)
@[go_sem] theorem qEX:(V.m k).isA=false:=(rfl)
@[go_sem] theorem qE1:(V.w o es).isA=false:=(rfl)
@[go_sem] theorem qIw:zj d j (.m k)=(.m k,j,[]):=(rfl)
@[go_sem] theorem qIA:zj d j (.w none es)=(.m (d,j),j+1,[((d,j),0,[.w (some true) es])]):=(rfl)
@[go_sem] theorem qIB:zj d j (.w (some τ) es)=(.w (some τ) es,j,[]):=(rfl)
def mK(T':Mem) (ob:Option Ob) (T:Mem):V × Mem:=
 match ob with
 |some (_,[.w _ es])=>(.w none es,T')
 |_=>(.d,T)
@[go_sem] theorem qFW {T':Mem}:mK T' (some (e,[.w o es])) T=(.w none es,T'):=(rfl)
@[go_sem] theorem qBO {m:Nat}:qx (m+1) T (.m k)=mK (qB T k) (qu T k) T:=(rfl)
@[go_sem] theorem qBV {m:Nat}:qx (m+1) T (.w o es)=(.w o es,T):=(rfl)
@[go_sem] theorem qGC {i:Nat}:qO d i nm (.m k)=if NB≤k.1 then .d else .m k:=(rfl)
@[go_sem] theorem qGL {i:Nat}:qO d i nm (.w o es)= .w o es:=(rfl)
def mOf(o:Option Key):V:=match o with|some k=> .m k|none=> .d
@[congr] theorem qFX {o o':Option Key} (h:o=o'):mOf o=mOf o':=by rw [h]
@[go_sem] theorem qFY:mOf (some k)= .m k:=(rfl)
@[go_sem] theorem qJu:qU tb (.m k)=mOf (xA tb k):=by simp only [qU,mOf];cases xA tb k<;>rfl
@[go_sem] theorem qJC:qU tb (.w o es)= .w o es:=(rfl)
@[go_sem] theorem qFK {n:Nat}:qY false n (.m k) 0=some (.m k):=(rfl)
@[go_sem] theorem qFO {n:Nat}:qY false n (.w o es) 0=some (.w o es):=(rfl)
end
end Go.Vm
namespace Go.Vm
abbrev Str:=List UInt8
theorem kE {α:Type} {l:List α} {i:Nat} {x:α} (h:l[i]? =some x):l.drop i=x::l.drop (i+1):=by
 obtain ⟨hl,rfl⟩:=List.getElem?_eq_some_iff.1 h
 exact List.drop_eq_getElem_cons hl
theorem yh {α:Type} {l:List α} {i:Nat} (h:i < l.length): ∃ x,l[i]? =some x:=⟨_,List.getElem?_eq_getElem h⟩
def RL {α:Type} (R:α→V→Prop):List α→List V→Prop
 |[],vs=>vs=[]
 |t::ts,vs=> ∃ v vs',vs=v::vs'∧R t v∧RL R ts vs'
section
variable {α:Type} {R R':α→V→Prop}
theorem yp: ∀ {ts:List α} {vs:List V},RL R ts vs→vs.length=ts.length
 |[],vs,h=>by simp only [RL]at h;simp [h]
 |t::ts,vs,h=>by
  simp only [RL]at h
  obtain ⟨v,vs',rfl,-,h⟩:=h
  simp [yp h]
theorem Zu: ∀ {ts:List α} {vs:List V} {i:Nat} {t:α},RL R ts vs→ts[i]? =some t→ ∃ v,vs[i]? =some v∧R t v
 |[],vs,i,t,h,ht=>by simp at ht
 |t'::ts,vs,i,t,h,ht=>by
  simp only [RL]at h
  obtain ⟨v,vs',rfl,h1,h2⟩:=h
  cases i with
  |zero=>simp at ht;subst ht;exact ⟨v,rfl,h1⟩
  |succ i=>simpa using Zu h2 (by simpa using ht)
theorem qd8 {f:α→V} (h: ∀ t,R t (f t)): ∀ (ts:List α),RL R ts (ts.map f)
 |[]=>rfl
 |t::ts=>by simp only [RL,List.map_cons];exact ⟨_,_,rfl,h t,qd8 h ts⟩
end
def RI(n:Int) (v:V):Prop:=v=I n
def RS(s:Str) (v:V):Prop:=v=S s
mutual
theorem qix(d:Nat): ∀ (x:V),clB x=true→qN d x=x
 | .v _,_| .q ..,_| .i ..,_| .o ..,_| .b _,_| .n _,_| .w ..,_=>rfl
 | .f fn first caps,h=>by
   simp only [clB,Bool.and_eq_true]at h
   simp only [qN,qcs d first h.1,qcs d caps h.2]
 | .p ..,h| .s ..,h| .a _,h| .t _,h| .m _,h| .d,h=>by simp [clB]at h
theorem qcs(d:Nat): ∀ (xs:List V),xp xs=true→qG d xs=xs
 |[],_=>rfl
 |x::xs,h=>by
  simp only [xp,Bool.and_eq_true]at h
  simp only [qG,qix d x h.1,qcs d xs h.2]
end
theorem qeZ(d:Nat) (x:V) (h:clE x=true):qN d x=x:=by
 cases x
 case a cs=>simp only [clE]at h;simp only [qN,qcs d cs h]
 all_goals exact qix d _ h
theorem qcr(d:Nat): ∀ (xs:List V),qE xs=true→qG d xs=xs
 |[],_=>rfl
 |x::xs,h=>by
  simp only [qE,Bool.and_eq_true]at h
  simp only [qG,qeZ d x h.1,qcr d xs h.2]
theorem qho: ∀ (xs ys:List V),qE (xs++ys)=(qE xs&&qE ys)
 |[],ys=>by simp [qE]
 |x::xs,ys=>by simp only [List.cons_append,qE,qho xs ys,Bool.and_assoc]
theorem qeX(d:Nat): ∀ (xs ys:List V),qG d (xs++ys)=qG d xs++qG d ys
 |[],ys=>rfl
 |x::xs,ys=>by simp only [List.cons_append,qG,qeX d xs ys]
theorem qhu(τ:Bool): ∀ (xs ys:List V),q9 τ (xs++ys)=q9 τ xs++q9 τ ys
 |[],ys=>rfl
 |x::xs,ys=>by simp only [List.cons_append,q9,qhu τ xs ys]
theorem qav(n:Nat) (z:V) (h:clE z=true):qE (List.replicate n z)=true:=by
 induction n with
 |zero=>rfl
 |succ n ih=>simp only [List.replicate_succ,qE,h,ih,Bool.and_self]
theorem qcq(d n:Nat) (z:V) (h:clE z=true):qG d (List.replicate n z)=List.replicate n z:=qcr d _ (qav n z h)
section
variable {α:Type} {f:α→V}
theorem Qc(h: ∀ x,clE (f x)=true): ∀ (l:List α),qE (l.map f)=true
 |[]=>rfl
 |x::l=>by simp only [List.map_cons,qE,h x,Qc h l,Bool.and_self]
theorem ZF(h: ∀ x,clE (f x)=true) (d:Nat) (l:List α):qG d (l.map f)=l.map f:=qcr d _ (Qc h l)
theorem QK {g:α→V} {τ:Bool} (h: ∀ x,zd τ (f x)=g x): ∀ (l:List α),q9 τ (l.map f)=l.map g
 |[]=>rfl
 |x::l=>by simp only [List.map_cons,q9,h x,QK h l]
theorem ki(h: ∀ x,ze (f x)=true): ∀ (l:List α),zo (l.map f)=true
 |[]=>rfl
 |x::l=>by simp only [List.map_cons,zo,h x,ki h l,Bool.and_self]
theorem qao {e:Nat} (h: ∀ x,yC (f x).cells=true∧(f x).cells.length=e): ∀ (l:List α),kU e (l.map f)=true
 |[]=>rfl
 |x::l=>by simp only [List.map_cons,kU,(h x).1,(h x).2,qao h l,beq_self_eq_true,Bool.and_self]
theorem qbh(h: ∀ x,zb (f x)=true): ∀ (l:List α),yc (l.map f)=true
 |[]=>rfl
 |x::l=>by simp only [List.map_cons,yc,h x,qbh h l,Bool.and_self]
theorem kp(k:Key) (ob:Ob): ∀ (xs ys:List V),qE xs=true→zB k ob (xs++ys)=(zB k ob ys).map (xs++ ·)
 |[],ys,_=>by simp
 |x::xs,ys,h=>by
  simp only [qE,Bool.and_eq_true]at h
  have hC: ∀ (c:V),clB c=true→yG k ob c=none:=by intro c hc;cases c<;>first|rfl|(simp [clB]at hc)
  have hCs: ∀ (cs:List V),xp cs=true→xS k ob cs=none:=by
   intro cs
   induction cs with
   |nil=>intro _;rfl
   |cons c cs ih=>
    intro h
    simp only [xp,Bool.and_eq_true]at h
    simp only [xS,hC c h.1,ih h.2,Option.map_none]
  have hE:xU k ob x=none:=by
   cases x
   case a cs=>simp only [clE]at h;simp only [xU,hCs cs h.1,Option.map_none]
   all_goals exact hC _ h.1
  simp only [List.cons_append,zB,hE,kp k ob xs ys h.2]
  cases zB k ob ys<;>rfl
end
@[go_sem] theorem qhl(l:List Int):qE (l.map I)=true:=Qc (fun _=>rfl) l
@[go_sem] theorem qhm(l:List Str):qE (l.map S)=true:=Qc (fun _=>rfl) l
@[go_sem] theorem qE8(d:Nat) (l:List Int):qG d (l.map I)=l.map I:=ZF (fun _=>rfl) d l
@[go_sem] theorem qE9(d:Nat) (l:List Str):qG d (l.map S)=l.map S:=ZF (fun _=>rfl) d l
@[go_sem] theorem qB4(τ:Bool) (l:List Int):q9 τ (l.map I)=l.map I:=QK (fun _=>rfl) l
@[go_sem] theorem qB5(τ:Bool) (l:List Str):q9 τ (l.map S)=l.map S:=QK (fun _=>rfl) l
@[go_sem] theorem qHj(l:List Int):zo (l.map I)=true:=ki (fun _=>rfl) l
@[go_sem] theorem qHk(l:List Str):zo (l.map S)=true:=ki (fun _=>rfl) l
attribute [go_sem] qho qeX qhu qav qcq
@[go_sem] theorem qmw(n:Nat) (l:Str):qE (List.replicate n (S l))=true:=qav n _ rfl
@[go_sem] theorem qBg(n:Nat) (i:Int):qE (List.replicate n (I i))=true:=qav n _ rfl
@[go_sem] theorem qFg(d n:Nat) (l:Str):qG d (List.replicate n (S l))=List.replicate n (S l):=qcq d n _ rfl
@[go_sem] theorem qFf(d n:Nat) (i:Int):qG d (List.replicate n (I i))=List.replicate n (I i):=qcq d n _ rfl
attribute [go_sem] List.length_map List.length_replicate Nat.zero_add Nat.add_zero Nat.le_refl List.take_length
@[go_sem] theorem qF9 {α:Type} {f:α→V} {l:List α} {x:α}:l.map f++[f x]=(l++[x]).map f:=by simp
@[go_sem] theorem qKL {α:Type} {f:α→V} {l:List α} {x:α}:((l++[x]).map f).take (l.length+1)=(l++[x]).map f:=by
 apply List.take_of_length_le;simp
@[go_sem] theorem qKK {α:Type} {f:α→V} {l:List α}:(l.map f).take l.length=l.map f:=by
 rw [← List.length_map (f:=f),List.take_length]
theorem ZM(k:Key) (ob:Ob) (xs:List V) (h:qE xs=true):zB k ob xs=none:=by
 have:=kp k ob xs [] h
 rw [List.append_nil]at this
 rw [this];rfl
@[go_sem] theorem qFZ(m:Nat) (T:Mem) (l:List Int):qA (zh m) T (l.map I)=(l.map I,T):=jK m T _ (qhl l)
@[go_sem] theorem qF0(m:Nat) (T:Mem) (l:List Str):qA (zh m) T (l.map S)=(l.map S,T):=jK m T _ (qhm l)
@[go_sem] theorem qF7(m n:Nat) (T:Mem) (z:V) (h:clE z=true):qA (zh m) T (List.replicate n z)=(List.replicate n z,T):=jK m T _ (qav n z h)
@[go_sem] theorem qF8(m n:Nat) (T:Mem) (l:Str):qA (zh m) T (List.replicate n (S l))=(List.replicate n (S l),T):=jK m T _ (qmw n l)
@[go_sem] theorem qJU(k:Key) (ob:Ob) (l:List Int):zB k ob (l.map I)=none:=ZM k ob _ (qhl l)
@[go_sem] theorem qJV(k:Key) (ob:Ob) (l:List Str):zB k ob (l.map S)=none:=ZM k ob _ (qhm l)
section lit
variable {k:Key} {lo len e:Nat} {xs:List V}
theorem qir {i:Nat} (h:i < len) (hl:lo+len≤xs.length):ixO k lo len e (i:Int) (some (e,xs))=some (.p k (lo+i) 0):=by
 simp only [ixO,zV]
 rw [if_pos ⟨trivial,hl⟩,if_pos ⟨by omega,by omega⟩]
 simp
@[go_sem] theorem qE5:ixO k lo len e 0 (some (e,xs))=if 1≤len∧lo+len≤xs.length then some (.p k (lo+0) 0)else none:=by
 split
 ·rename_i h;exact qir (i:=0) h.1 h.2
 ·rename_i h
  simp only [ixO,zV]
  split
  ·rename_i h2;rw [if_neg (by omega)];rfl
  ·rfl
@[go_sem] theorem qE6:ixO k lo len e 1 (some (e,xs))=if 2≤len∧lo+len≤xs.length then some (.p k (lo+1) 0)else none:=by
 split
 ·rename_i h;exact qir (i:=1) h.1 h.2
 ·rename_i h
  simp only [ixO,zV]
  split
  ·rename_i h2;rw [if_neg (by omega)];rfl
  ·rfl
@[go_sem] theorem qyZ {T:Mem} {τ:Bool} {x:V}:kS T e (.i τ (x::xs)) 0=if x.cells.length=e then some (.q τ (x::xs) 0 0)else none:=by
 have h0:zV 0 (x::xs).length=some 0:=by
  unfold zV;rw [if_pos ⟨by omega,by simp only [List.length_cons];omega⟩];rfl
 simp only [kS,h0];rfl
@[go_sem] theorem qy0 {T:Mem} {τ:Bool} {x y:V}:kS T e (.i τ (x::y::xs)) 1=if y.cells.length=e then some (.q τ (x::y::xs) 1 0)else none:=by
 have h0:zV 1 (x::y::xs).length=some 1:=by
  unfold zV;rw [if_pos ⟨by omega,by simp only [List.length_cons];omega⟩];rfl
 simp only [kS,h0];rfl
end lit
section rep
variable {k:Key} {ob:Ob} {k':Key} {e:Nat} {xs:List V} {T:Mem}
def Ku(k:Key) (ob:Ob) (r:Option (List V)) (k':Key) (e:Nat) (xs:List V) (T:Mem):Mem:=
 match r with
 |some xs'=>(k',e,xs')::T
 |none=>(k',e,xs)::kK k ob T
@[congr] theorem qJ4 {r r':Option (List V)} (h:r=r'):Ku k ob r k' e xs T=Ku k ob r' k' e xs T:=by rw [h]
@[go_sem] theorem qKe:kK k ob []=[]:=(rfl)
@[go_sem] theorem qKd:kK k ob ((k',e,xs)::T)=Ku k ob (zB k ob xs) k' e xs T:=by
 simp only [kK,Ku];cases zB k ob xs<;>rfl
@[go_sem] theorem qJ6 {xs':List V}:Ku k ob (some xs') k' e xs T=(k',e,xs')::T:=(rfl)
@[go_sem] theorem qJ5:Ku k ob none k' e xs T=(k',e,xs)::kK k ob T:=(rfl)
def Kw(k:Key) (ob:Ob) (r:Option V) (x:V) (xs:List V):Option (List V):=
 match r with
 |some x'=>some (x'::xs)
 |none=>yf (zB k ob xs) fun ys=>some (x::ys)
def Kv(k:Key) (ob:Ob) (r:Option V) (x:V) (xs:List V):Option (List V):=
 match r with
 |some x'=>some (x'::xs)
 |none=>yf (xS k ob xs) fun ys=>some (x::ys)
@[congr] theorem qKa {r r':Option V} {x:V} (h:r=r'):Kw k ob r x xs=Kw k ob r' x xs:=by rw [h]
@[congr] theorem qJ7 {r r':Option V} {x:V} (h:r=r'):Kv k ob r x xs=Kv k ob r' x xs:=by rw [h]
@[go_sem] theorem qKc {x x':V}:Kw k ob (some x') x xs=some (x'::xs):=(rfl)
@[go_sem] theorem qKb {x:V}:Kw k ob none x xs=yf (zB k ob xs) fun ys=>some (x::ys):=(rfl)
@[go_sem] theorem qJ9 {x x':V}:Kv k ob (some x') x xs=some (x'::xs):=(rfl)
@[go_sem] theorem qJ8 {x:V}:Kv k ob none x xs=yf (xS k ob xs) fun ys=>some (x::ys):=(rfl)
@[go_sem] theorem qJ3:zB k ob []=none:=(rfl)
@[go_sem] theorem qJX {x:V}:zB k ob (x::xs)=Kw k ob (xU k ob x) x xs:=by
 simp only [zB,Kw]
 cases xU k ob x with
 |some y=>rfl
 |none=>simp only;cases zB k ob xs<;>rfl
@[go_sem] theorem qJN:xS k ob []=none:=(rfl)
@[go_sem] theorem qJM {x:V}:xS k ob (x::xs)=Kv k ob (yG k ob x) x xs:=by
 simp only [xS,Kv]
 cases yG k ob x with
 |some y=>rfl
 |none=>simp only;cases xS k ob xs<;>rfl
@[go_sem] theorem qJR:xU k ob (.a xs)=yf (xS k ob xs) fun ys=>some (.a ys):=by
 simp only [xU];cases xS k ob xs<;>rfl
@[go_sem] theorem qJT {lo len:Nat}:xU k ob (.s k' lo len)=yG k ob (.s k' lo len):=(rfl)
@[go_sem] theorem qJS {lo len:Nat}:xU k ob (.p k' lo len)=yG k ob (.p k' lo len):=(rfl)
@[go_sem] theorem qJL {lo len:Nat} {zs:List V}:yG k (e,zs) (.s k' lo len)=if k'=k∧lo=0∧len=zs.length then some (.o e zs)else none:=(rfl)
@[go_sem] theorem qJK {i o:Nat} {z:V}:yG k (e,[z]) (.p k' i o)=if k'=k∧i=0∧o=0 then some (.b z)else none:=(rfl)
@[go_sem] theorem qJE {n:Int}:yG k ob (I n)=none:=(rfl)
@[go_sem] theorem qJF {l:Str}:yG k ob (S l)=none:=(rfl)
@[go_sem] theorem qJD {b:Bool}:yG k ob (B b)=none:=(rfl)
@[go_sem] theorem qJG {n:Int}:yG k ob (U8 n)=none:=(rfl)
@[go_sem] theorem qJH {τ:Bool}:yG k ob (.i τ xs)=none:=(rfl)
@[go_sem] theorem qJJ:yG k ob (.o e xs)=none:=(rfl)
@[go_sem] theorem qJI:yG k ob (.n e)=none:=(rfl)
@[go_sem] theorem qJP {n:Int}:xU k ob (I n)=none:=(rfl)
@[go_sem] theorem qJQ {l:Str}:xU k ob (S l)=none:=(rfl)
@[go_sem] theorem qJO {b:Bool}:xU k ob (B b)=none:=(rfl)
end rep
inductive Tm where
 |mk (kind:Int) (name:Str) (num:Int) (kids:List Tm)
def Tm.kind:Tm→Int| .mk k _ _ _=>k
def Tm.name:Tm→Str| .mk _ s _ _=>s
def Tm.num:Tm→Int| .mk _ _ n _=>n
def Tm.kids:Tm→List Tm| .mk _ _ _ ks=>ks
noncomputable instance:DecidableEq Tm:=fun a b=>Classical.propDecidable (a=b)
section
variable {k n:Int} {s:Str} {ks:List Tm}
@[go_sem] theorem xc:(Tm.mk k s n ks).kind=k:=(rfl)
@[go_sem] theorem xd:(Tm.mk k s n ks).name=s:=(rfl)
@[go_sem] theorem xf:(Tm.mk k s n ks).num=n:=(rfl)
@[go_sem] theorem yJ:(Tm.mk k s n ks).kids=ks:=(rfl)
end
theorem qb1 {P:Tm→Prop} (h: ∀ k s n ks,(∀ t ∈ ks,P t)→P (.mk k s n ks)) (t:Tm):P t:=
 Tm.rec (motive_1:=P) (motive_2:=fun ks=> ∀ t ∈ ks,P t) (fun k s n ks ih=>h k s n ks ih) (fun t ht=>by cases ht)
  (fun x xs hx hxs t ht=>by
   rcases List.mem_cons.1 ht with rfl|ht
   ·exact hx
   ·exact hxs t ht) t
mutual
def BT:Tm→V→Prop
 | .mk k s n ks,v=> ∃ τ vs,v= .a [I k,S s,I n,.i τ vs]∧BTs ks vs
def BTs:List Tm→List V→Prop
 |[],vs=>vs=[]
 |t::ts,vs=> ∃ v vs',vs=v::vs'∧BT t v∧BTs ts vs'
end
theorem qgs: ∀ (ts:List Tm) (vs:List V),BTs ts vs↔RL BT ts vs
 |[],vs=>by simp only [BTs,RL]
 |t::ts,vs=>by simp only [BTs,RL,qgs ts]
theorem qgr {k n:Int} {s:Str} {ks:List Tm} {v:V}:BT (.mk k s n ks) v↔ ∃ τ vs,v= .a [I k,S s,I n,.i τ vs]∧RL BT ks vs:=by
 simp only [BT,qgs]
theorem kN {t:Tm} {v:V} (h:BT t v): ∃ τ vs,v= .a [I t.kind,S t.name,I t.num,.i τ vs]∧RL BT t.kids vs:=by
 cases t;exact qgr.1 h
theorem qds {t:Tm} {v:V} (h:BT t v):v.cells.length=4:=by
 obtain ⟨τ,vs,rfl,-⟩:=kN h;rfl
mutual
def oT:Tm→V
 | .mk k s n ks=> .a [I k,S s,I n,.o 4 (oTs ks)]
def oTs:List Tm→List V
 |[]=>[]
 |t::ts=>oT t::oTs ts
end
mutual
def iT(τ:Bool):Tm→V
 | .mk k s n ks=> .a [I k,S s,I n,.i τ (iTs τ ks)]
def iTs(τ:Bool):List Tm→List V
 |[]=>[]
 |t::ts=>iT τ t::iTs τ ts
end
theorem qjC: ∀ (ts:List Tm),oTs ts=ts.map oT
 |[]=>rfl
 |t::ts=>by simp only [oTs,List.map_cons,qjC ts]
theorem qh9(τ:Bool): ∀ (ts:List Tm),iTs τ ts=ts.map (iT τ)
 |[]=>rfl
 |t::ts=>by simp only [iTs,List.map_cons,qh9 τ ts]
theorem qp(t:Tm):oT t= .a [I t.kind,S t.name,I t.num,.o 4 (t.kids.map oT)]:=by cases t;simp only [oT,qjC];rfl
theorem yt(τ:Bool) (t:Tm):iT τ t= .a [I t.kind,S t.name,I t.num,.i τ (t.kids.map (iT τ))]:=by cases t;simp only [iT,qh9];rfl
theorem Zd(τ:Bool): ∀ (t:Tm),BT t (iT τ t):=by
 refine qb1 ?_
 intro k s n ks ih
 rw [yt]
 refine qgr.2 ⟨τ,_,rfl, ?_⟩
 simp only [yJ]
 induction ks with
 |nil=>rfl
 |cons t ts ih'=>exact ⟨_,_,rfl,ih t (by simp),ih' fun u hu=>ih u (by simp [hu])⟩
mutual
theorem qex(τ:Bool): ∀ (t:Tm),zd τ (oT t)=iT τ t
 | .mk k s n ks=>by simp only [oT,iT,zd,q9,qmF,qmG,qhv τ ks]
theorem qhv(τ:Bool): ∀ (ts:List Tm),q9 τ (oTs ts)=iTs τ ts
 |[]=>rfl
 |t::ts=>by simp only [oTs,iTs,q9,qex τ t,qhv τ ts]
end
mutual
theorem qff: ∀ (t:Tm),ze (oT t)=true
 | .mk k s n ks=>by simp only [oT,ze,zo,qjr,qjs,qjq ks,Bool.and_self]
theorem qjq: ∀ (ts:List Tm),zo (oTs ts)=true
 |[]=>rfl
 |t::ts=>by simp only [oTs,zo,qff t,qjq ts,Bool.and_self]
end
mutual
theorem qfe: ∀ (t:Tm),ze (iT false t)=true
 | .mk k s n ks=>by simp only [iT,ze,zo,qjr,qjs,qjp ks,Bool.and_self,Bool.not_false]
theorem qjp: ∀ (ts:List Tm),zo (iTs false ts)=true
 |[]=>rfl
 |t::ts=>by simp only [iTs,zo,qfe t,qjp ts,Bool.and_self]
end
theorem qau(t:Tm):clE (oT t)=true:=by rw [qp];rfl
theorem qmv(τ:Bool) (t:Tm):clE (iT τ t)=true:=by rw [yt];rfl
@[go_sem] theorem qLL(τ:Bool) (t:Tm):zb (iT τ t)=true:=by rw [yt];rfl
@[go_sem] theorem qB0(m:Nat) (T:Mem) (τ:Bool) (t:Tm):qx (m+2) T (iT τ t)=(iT τ t,T):=by rw [yt];rfl
@[go_sem] theorem qCl(τ τ':Bool) (t:Tm):zd τ (iT τ' t)=iT τ' t:=by rw [yt];rfl
@[go_sem] theorem qFt(d:Nat) (τ:Bool) (t:Tm):qN d (iT τ t)=iT τ t:=qeZ d _ (by rw [yt];rfl)
@[go_sem] theorem qCN(τ:Bool) (t:Tm):xi (iT τ t)=[]:=by rw [yt];rfl
@[go_sem] theorem qEW(τ:Bool) (t:Tm):(iT τ t).isA=true:=by rw [yt];rfl
@[go_sem] theorem qA2(τ:Bool) (t:Tm):(iT τ t).cells=[I t.kind,S t.name,I t.num,.i τ (t.kids.map (iT τ))]:=by rw [yt];rfl
@[go_sem] theorem qFT(τ:Bool) (t:Tm):qY true 4 (iT τ t) 0=some (iT τ t):=by rw [yt];rfl
attribute [go_sem] qex qff qfe qau qmv
@[go_sem] theorem qCb(τ:Bool) (ts:List Tm):q9 τ (ts.map oT)=ts.map (iT τ):=QK (qex τ) ts
@[go_sem] theorem qHq(ts:List Tm):zo (ts.map oT)=true:=ki qff ts
@[go_sem] theorem qHr(ts:List Tm):zo (ts.map (iT false))=true:=ki qfe ts
@[go_sem] theorem x6(ts:List Tm):qE (ts.map oT)=true:=Qc qau ts
@[go_sem] theorem qFe(d:Nat) (ts:List Tm):qG d (ts.map oT)=ts.map oT:=ZF qau d ts
@[go_sem] theorem qF6(m:Nat) (T:Mem) (l:List Tm):qA (zh m) T (l.map oT)=(l.map oT,T):=jK m T _ (x6 l)
@[go_sem] theorem qJ2(k:Key) (ob:Ob) (l:List Tm):zB k ob (l.map oT)=none:=ZM k ob _ (x6 l)
@[go_sem] theorem qFn(d:Nat) (t:Tm):qN d (oT t)=oT t:=qeZ d _ (qau t)
@[go_sem] theorem qHF(t:Tm):yC (oT t).cells=true:=by rw [qp];rfl
@[go_sem] theorem qA6(t:Tm):(oT t).cells.length=4:=by rw [qp];rfl
def Lm:Nat:=16777216
def inI(n:Int):Prop:= -9223372036854775808≤n∧n < 9223372036854775808
mutual
def WT:Tm→Prop
 | .mk k s n ks=>inI k∧s.length≤Lm∧inI n∧ks.length≤Lm∧WTs ks
def WTs:List Tm→Prop
 |[]=>True
 |t::ts=>WT t∧WTs ts
end
theorem qgH: ∀ {ts:List Tm} {t:Tm},WTs ts→t ∈ ts→WT t
 |x::xs,t,h,ht=>by
  simp only [WTs]at h
  rcases List.mem_cons.1 ht with rfl|ht
  ·exact h.1
  ·exact qgH h.2 ht
theorem qgI: ∀ {ts:List Tm},(∀ t ∈ ts,WT t)→WTs ts
 |[],_=>trivial
 |t::ts,h=>⟨h t (by simp),qgI fun u hu=>h u (by simp [hu])⟩
theorem qgG {t:Tm} (h:WT t):t.name.length≤Lm:=by cases t;exact h.2.1
theorem qb2 {t:Tm} (h:WT t):t.kids.length≤Lm:=by cases t;exact h.2.2.2.1
theorem qeb {t:Tm} (h:WT t): ∀ u ∈ t.kids,WT u:=by cases t;exact fun u hu=>qgH h.2.2.2.2 hu
theorem qal {k n:Int} {s:Str} {ks:List Tm} (h1:inI k) (h2:s.length≤Lm) (h3:inI n) (h4:ks.length≤Lm) (h5: ∀ u ∈ ks,WT u):WT (.mk k s n ks):=⟨h1,h2,h3,h4,qgI h5⟩
mutual
def nT:Tm→Nat
 | .mk _ _ _ ks=>nTs ks+1
def nTs:List Tm→Nat
 |[]=>0
 |t::ts=>nT t+nTs ts
end
theorem qaO(t:Tm):1≤nT t:=by cases t;simp only [nT];omega
def wTm(t:Tm):Prop:=WT t∧nT t≤Lm
end Go.Vm
namespace Go.Vm
section
variable {α:Type} {f:α→V} {z x:V}
theorem qs5(ts:List α) (i m:Nat) (h:i≤ts.length):((ts.take i).map f++List.replicate (m+1) z)[i]? =some z:=by
 rw [List.getElem?_append_right (by simp;omega)]
 simp [Nat.min_eq_left h]
theorem qs8(ts:List α) (i m:Nat) (h:i≤ts.length):((ts.take i).map f++List.replicate (m+1) z).set i x=(ts.take i).map f++x::List.replicate m z:=by
 rw [List.set_append_right _ _ (by simp;omega)]
 simp [Nat.min_eq_left h,List.replicate_succ]
theorem qfX {ts:List α} {i:Nat} {t:α} (h:ts[i]? =some t) (zs:List V):(ts.take i).map f++f t::zs=(ts.take (i+1)).map f++zs:=by
 rw [List.take_succ_eq_append_getElem (List.getElem?_eq_some_iff.1 h).1]
 simp [(List.getElem?_eq_some_iff.1 h).2]
theorem X0(xs:List V) (y:V) (zs:List V) (i:Nat) (h:xs.length=i):(xs++y::zs)[i]? =some y:=by
 subst h;simp
theorem X1(xs:List V) (y y':V) (zs:List V) (i:Nat) (h:xs.length=i):(xs++y::zs).set i y'=xs++y'::zs:=by
 subst h;simp
theorem qs6(ts:List α) (i m n:Nat) (h:i+m=n) (hn:ts.length=n):((ts.take i).map f++List.replicate m z).length=n:=by
 simp;omega
end
end Go.Vm
namespace Go.Vm
theorem Qg {β:Type} (ts:List β) (P:Nat→List β→Prop) (hlim:ts.length < 2^62) (h0:P ts.length [])
 (hs: ∀ i t r,ts[i]? =some t→i < ts.length→(i:Int) < ts.length→w64 ((i:Int)+1)=((i+1:Nat):Int)→i+(r.length+1)=ts.length→t ∈ ts→(∀ u ∈ r,u ∈ ts)→P (i+1) r→P i (t::r)):P 0 ts:=by
 have key: ∀ m i,i+m=ts.length→P i (ts.drop i):=by
  intro m
  induction m with
  |zero=>
   intro i hi
   obtain rfl:i=ts.length:=by omega
   rw [List.drop_length];exact h0
  |succ m ih=>
   intro i hi
   obtain ⟨t,ht⟩:=yh (l:=ts) (i:=i) (by omega)
   rw [kE ht]
   refine hs i t _ ht (by omega) (by omega) (by rw [qj]<;>omega) (by rw [List.length_drop];omega) (List.mem_of_getElem? ht) (fun u hu=>List.mem_of_mem_drop hu) (ih (i+1) (by omega))
 have:=key ts.length 0 (by omega)
 simpa using this
theorem qt2(l:List Tm) (t:Tm):l.map oT++[.a [I t.kind,S t.name,I t.num,.o 4 (t.kids.map oT)]]=(l++[t]).map oT:=by
 rw [List.map_append,List.map_cons,List.map_nil,qp]
theorem qqx(a:Int):(a < a)=False:=eq_false (Int.lt_irrefl a)
attribute [go_sem] qt2 qqx Int.natCast_zero
end Go.Vm
set_option maxRecDepth 100000
namespace Go.Vm
def Jx(f e:Nat):AC:=
       (.seq
        (.seq
         (.reg [.mv 11 (.t 5),
          .mv 12 (.t 0),
          .len 13 (.t 12),
          .bin 14 .lss (.t 11) (.t 13)])
        (.keep [0,1,5,14]
         (.cond (.t 14)
          .skip
          (.keep []
           (.exit 0)))))
       (.keep [0,1,5]
        (.seq
         (.block 1
          (.seq
           (.dreg [⟨0,[]⟩,⟨0,[]⟩,⟨0,[(0,0),(0,1),(0,2),(0,3),(100000,0),(100000,1),(100000,2),(100000,3),(100000,4),(100000,5)]⟩,⟨0,[(0,0),(0,1),(0,2),(0,3),(100000,0),(100000,1),(100000,2),(100000,3),(100000,4),(100000,5)]⟩,⟨0,[]⟩,⟨0,[]⟩,⟨0,[(1,0),(1,1),(1,2),(1,3),(100000,0),(100000,1),(100000,2),(100000,3),(100000,4),(100000,5)]⟩,⟨0,[(1,0),(1,1),(1,2),(1,3),(100000,0),(100000,1),(100000,2),(100000,3),(100000,4),(100000,5)]⟩,⟨2,[(0,0),(0,1),(0,2),(0,3),(1,0),(1,1),(1,2),(1,3),(20,0),(24,0),(100000,0),(100000,1),(100000,2),(100000,3),(100000,4),(100000,5)]⟩,⟨0,[]⟩]
            [.mv 17 (.t 0),
             .mv 18 (.t 5),
             .ia 19 e (.t 17) (.t 18),
             .ldq 20 true e (.t 19),
             .mv 21 (.t 1),
             .mv 22 (.t 5),
             .ia 23 e (.t 21) (.t 22),
             .ldq 24 true e (.t 23),
             .call (some 25) (.c (Fc f)) [(.t 20),(.t 24)] (.ro true),
             .un 26 .not (.t 25)])
          (.keep [0,1,5,26]
           (.cond (.t 26)
            (.seq
             (.reg [.mv 4 (.c (B false))])
            (.keep [4]
             .ret))
            .skip))))
        (.keep [0,1,5]
         (.reg [.mv 15 (.t 5),
          .bin 16 .add (.t 15) (.c (I 1)),
          .mv 5 (.t 16)])))))
def XI(f e:Nat):Lp:=⟨[0,1,5],[(2,0)],Jx f e⟩
@[go_sem] theorem qvS {f e:Nat}:(XI f e).ls=[0,1,5]:=rfl
@[go_sem] theorem qvR {f e:Nat}:(XI f e).ks=[(2,0)]:=rfl
@[go_sem] theorem qvQ {f e:Nat}:(XI f e).body=Jx f e:=rfl
def qbM(f e:Nat):AF where
 nargs:=2
 ntmps:=27
 res:=[.tmp 4]
 body:=
  (.seq
   (.reg [.mv 4 (.c (B false))])
  (.seq
   (.seq
    (.reg [.mv 6 (.t 0),
     .len 7 (.t 6),
     .mv 8 (.t 1),
     .len 9 (.t 8),
     .bin 10 .neq (.t 7) (.t 9)])
   (.keep [0,1,10]
    (.cond (.t 10)
     (.seq
      (.reg [.mv 4 (.c (B false))])
     (.keep [4]
      .ret))
     .skip)))
  (.keep [0,1]
   (.seq
    (.seq
     (.reg [.mv 5 (.c (I 0))])
    (.block 0
     (lpC (XI f e))))
   (.keep []
    (.seq
     (.reg [.mv 4 (.c (B true))])
    (.keep [4]
     .ret)))))))
def Jy(f e:Nat):AC:=
 (.seq
  (.seq
   (.reg [.mv 12 (.t 5),
    .mv 13 (.t 0),
    .len 14 (.t 13),
    .bin 15 .lss (.t 12) (.t 14)])
  (.keep [0,1,5,15]
   (.cond (.t 15)
    .skip
    (.keep [1]
     (.exit 0)))))
 (.keep [0,1,5]
  (.seq
   (.block 1
    (.seq
     (.reg [.mv 18 (.t 0),
      .mv 19 (.t 5),
      .ia 20 e (.t 18) (.t 19),
      .ld 21 true e (.t 20),
      .mv 22 (.t 1),
      .call (some 23) (.c (Fc f)) [(.t 21),(.t 22)] (.ro false),
      .mv 1 (.t 23)])
    (.keep [0,1,5]
     (.seq
      (.reg [.mv 24 (.t 1),
       .bin 25 .lss (.t 24) (.c (I 0))])
     (.cond (.t 25)
      (.seq
       (.reg [.mv 4 (.c (I (-1)))])
      (.keep [4]
       .ret))
      .skip)))))
  (.keep [0,1,5]
   (.reg [.mv 16 (.t 5),
    .bin 17 .add (.t 16) (.c (I 1)),
    .mv 5 (.t 17)])))))
def Zi(f e:Nat):Lp:=⟨[0,1,5],[(2,0)],Jy f e⟩
@[go_sem] theorem qvV {f e:Nat}:(Zi f e).ls=[0,1,5]:=rfl
@[go_sem] theorem qvU {f e:Nat}:(Zi f e).ks=[(2,0)]:=rfl
@[go_sem] theorem qvT {f e:Nat}:(Zi f e).body=Jy f e:=rfl
def qbN(f e:Nat):AF where
 nargs:=2
 ntmps:=27
 res:=[.tmp 4]
 body:=
  (.seq
   (.reg [.mv 4 (.c (I 0))])
  (.seq
   (.reg [.mv 6 (.t 1),
    .mv 7 (.t 0),
    .len 8 (.t 7),
    .bin 9 .sub (.t 6) (.t 8),
    .mv 1 (.t 9)])
  (.keep [0,1]
   (.seq
    (.seq
     (.reg [.mv 10 (.t 1),
      .bin 11 .lss (.t 10) (.c (I 0))])
    (.cond (.t 11)
     (.seq
      (.reg [.mv 4 (.c (I (-1)))])
     (.keep [4]
      .ret))
     .skip))
   (.keep [0,1]
    (.seq
     (.seq
      (.reg [.mv 5 (.c (I 0))])
     (.block 0
      (lpC (Zi f e))))
    (.keep [1]
     (.seq
      (.reg [.mv 26 (.t 1),
       .mv 4 (.t 26)])
     (.keep [4]
      .ret)))))))))
def qgv(f e b:Nat) (z:V):AC:=
 (.seq
  (.seq
   (.reg [.mv 8 (.t 4),
    .mv 9 (.t 0),
    .len 10 (.t 9),
    .bin 11 .lss (.t 8) (.t 10)])
  (.keep [0,3,4,11]
   (.cond (.t 11)
    .skip
    (.keep [3]
     (.exit 0)))))
 (.keep [0,3,4]
  (.seq
   (.block 1
    (.reg [.mv 14 (.t 3),
     .mv 15 (.t 4),
     .mv 16 (.t 0),
     .mv 17 (.t 4),
     .ia 18 e (.t 16) (.t 17),
     .ld 19 true e (.t 18),
     .call (some 20) (.c (Fc f)) [(.t 19)] (.ro false),
     .ia 21 e (.t 14) (.t 15),
     .st e (.t 21) (.t 20)]))
  (.keep [0,3,4]
   (.reg [.mv 12 (.t 4),
    .bin 13 .add (.t 12) (.c (I 1)),
    .mv 4 (.t 13)])))))
def qbO(f e b:Nat) (z:V):Lp:=⟨[0,3,4],[(1,0)],qgv f e b z⟩
@[go_sem] theorem qvY {f e b:Nat} {z:V}:(qbO f e b z).ls=[0,3,4]:=rfl
@[go_sem] theorem qvX {f e b:Nat} {z:V}:(qbO f e b z).ks=[(1,0)]:=rfl
@[go_sem] theorem qvW {f e b:Nat} {z:V}:(qbO f e b z).body=qgv f e b z:=rfl
def qvP(f e b:Nat) (z:V):AF where
 nargs:=1
 ntmps:=23
 res:=[.tmp 2]
 body:=
  (.seq
   (.reg [.mv 2 (.c (.n e))])
  (.seq
   (.reg [.mv 5 (.t 0),
    .len 6 (.t 5),
    .mk 7 e z b (.t 6) (.t 6),
    .mv 3 (.t 7)])
  (.keep [0,3]
   (.seq
    (.seq
     (.reg [.mv 4 (.c (I 0))])
    (.block 0
     (lpC (qbO f e b z))))
   (.keep [3]
    (.seq
     (.reg [.mv 22 (.t 3),
      .mv 2 (.t 22)])
    (.keep [2]
     .ret)))))))
end Go.Vm
namespace Go.Vm
def qci:V→Bool
 | .v _=>true
 | .i _ _=>true
 |_=>false
def ZD:List V→Bool
 |[]=>true
 |c::cs=>qci c&&ZD cs
def Yn(e:Nat) (v:V):Prop:= ∃ cs,v= .a cs∧cs.length=e∧ZD cs=true
theorem qaC(m:Nat) (T:Mem): ∀ (cs:List V),ZD cs=true→qA (qx (m+1)) T cs=(cs,T)
 |[],_=>rfl
 |c::cs,h=>by
  simp only [ZD,Bool.and_eq_true]at h
  have h1:qx (m+1) T c=(c,T):=by cases c<;>first|rfl|(simp [qci]at h)
  simp only [qA,h1,qaC m T cs h.2]
theorem qaD(τ:Bool): ∀ (cs:List V),ZD cs=true→q9 τ cs=cs
 |[],_=>rfl
 |c::cs,h=>by
  simp only [ZD,Bool.and_eq_true]at h
  have h1:zd τ c=c:=by cases c<;>first|rfl|(simp [qci]at h)
  simp only [q9,h1,qaD τ cs h.2]
theorem qaE: ∀ (cs:List V),ZD cs=true→yc cs=true
 |[],_=>rfl
 |c::cs,h=>by
  simp only [ZD,Bool.and_eq_true]at h
  have h1:zb c=true:=by cases c<;>first|rfl|(simp [qci]at h)
  simp only [yc,h1,qaE cs h.2,Bool.and_self]
theorem Yn.cells {e:Nat} {v:V} (h:Yn e v):v.cells.length=e:=by obtain ⟨cs,rfl,h,-⟩:=h;exact h
section
variable {prog:Nat→Option AE} {α:Type} {R:α→V→Prop}
noncomputable local instance:DecidableEq α:=fun a b=>Classical.propDecidable (a=b)
theorem qm2(f e:Nat) (hR: ∀ t v,R t v→Yn e v) (τ τ':Bool) (vs vs':List V) (ts ts':List α) (hl:ts'.length=ts.length) (hv:RL R ts vs) (hv':RL R ts' vs') (hlim:ts.length≤Lm)
 (hc: ∀ t ∈ ts,∀ t' v v',R t v→R t' v'→cr prog f [v,v']=some (B (decide (t=t')))):
 lw prog (XI f e) ⟨[(0,.i τ vs),(1,.i τ' vs'),(5,I 0)],[]⟩=if ts=ts' then some (.exit 0,⟨[],[]⟩)else some (.ret,⟨[(4,B false)],[]⟩):=by
 have hn:=yp hv
 refine Qg ts (fun i r=>lw prog (XI f e) ⟨[(0,.i τ vs),(1,.i τ' vs'),(5,I i)],[]⟩=if r=ts'.drop i then some (.exit 0,⟨[],[]⟩)else some (.ret,⟨[(4,B false)],[]⟩)) (by unfold Lm at hlim;omega) ?_ ?_
 ·rw [List.drop_eq_nil_of_le (by omega),if_pos rfl,qn]
  simp only [go_sem,qa,qb,qc,qd,qe,qf,reduceCtorEq,Jx,hn]
 ·intro i t r ht hi hlt e1 hir hm hr ih
  obtain ⟨t',ht'⟩:=yh (l:=ts') (i:=i) (by omega)
  obtain ⟨v,g,hb⟩:=Zu hv ht
  obtain ⟨v',g',hb'⟩:=Zu hv' ht'
  have hcc:=hc t hm t' v v' hb hb'
  have a1:=q8 (τ:=τ) (T:=[]) g (hR _ _ hb).cells
  have a2:=q8 (τ:=τ') (T:=[]) g' (hR _ _ hb').cells
  obtain ⟨cs,rfl,hcl,hfl⟩:=hR _ _ hb
  obtain ⟨cs',rfl,hcl',hfl'⟩:=hR _ _ hb'
  rw [kE ht',qn]
  by_cases he:t=t'
  ·subst he
   have:(t::r=t::ts'.drop (i+1))=(r=ts'.drop (i+1)):=by simp
   simp only [this]
   rw [← ih]
   simp only [go_sem,qa,qb,qc,qd,qe,qf,reduceCtorEq,Jx,hn,hlt,a1,a2,g,g',hcc,e1,hcl,hcl',qaC,qaD,qaE,hfl,hfl']
  ·rw [if_neg (fun h=>he (by cases h;rfl))]
   simp only [go_sem,qa,qb,qc,qd,qe,qf,reduceCtorEq,Jx,hn,hlt,a1,a2,g,g',hcc,e1,hcl,hcl',qaC,qaD,qaE,hfl,hfl',he]
theorem qm3(fS f e:Nat) (hp:prog fS=some (.fn (qbM f e))) (hR: ∀ t v,R t v→Yn e v) (τ τ':Bool) (vs vs':List V) (ts ts':List α) (hv:RL R ts vs) (hv':RL R ts' vs') (hw:ts.length≤Lm)
 (hc: ∀ t ∈ ts,∀ t' v v',R t v→R t' v'→cr prog f [v,v']=some (B (decide (t=t')))):
 cr prog fS [.i τ vs,.i τ' vs']=some (B (decide (ts=ts'))):=by
 rw [qv hp rfl]
 by_cases hl:ts'.length=ts.length
 ·have h:=qm2 f e hR τ τ' vs vs' ts ts' hl hv hv' hw hc
  by_cases he:ts=ts'
  ·rw [if_pos he]at h
   simp only [go_sem,qa,qb,qc,qd,qe,qf,reduceCtorEq,qbM,yp hv,yp hv',hl,h,he]
  ·rw [if_neg he]at h
   simp only [go_sem,qa,qb,qc,qd,qe,qf,reduceCtorEq,qbM,yp hv,yp hv',hl,h,he]
 ·have he: ¬ ts=ts':=fun h=>hl (by rw [h])
  have hne: ¬ (ts.length:Int)=ts'.length:=by omega
  simp only [go_sem,qa,qb,qc,qd,qe,qf,reduceCtorEq,qbM,yp hv,yp hv',hne,he]
theorem quF(f e:Nat) (hR: ∀ t v,R t v→Yn e v) (τ:Bool) (vs:List V) (ts:List α) (hv:RL R ts vs) (hlim:ts.length≤Lm)
 (hc: ∀ t ∈ ts,∀ v left,R t v→ ∃ m,cr prog f [v,I left]=some (I m)): ∀ left,
 (∃ r,lw prog (Zi f e) ⟨[(0,.i τ vs),(1,I left),(5,I 0)],[]⟩=some (.exit 0,⟨[(1,I r)],[]⟩))∨
 lw prog (Zi f e) ⟨[(0,.i τ vs),(1,I left),(5,I 0)],[]⟩=some (.ret,⟨[(4,I (-1))],[]⟩):=by
 have hn:=yp hv
 refine Qg ts (fun i r=> ∀ left,(∃ r,lw prog (Zi f e) ⟨[(0,.i τ vs),(1,I left),(5,I i)],[]⟩=some (.exit 0,⟨[(1,I r)],[]⟩))∨
  lw prog (Zi f e) ⟨[(0,.i τ vs),(1,I left),(5,I i)],[]⟩=some (.ret,⟨[(4,I (-1))],[]⟩)) (by unfold Lm at hlim;omega) ?_ ?_
 ·intro left
  refine .inl ⟨left, ?_⟩
  rw [qn]
  simp only [go_sem,qa,qb,qc,qd,qe,qf,reduceCtorEq,Jy,hn]
 ·intro i t r ht hi hlt e1 hir hm hr ih left
  obtain ⟨v,g,hb⟩:=Zu hv ht
  obtain ⟨l',hcc⟩:=hc t hm v left hb
  have a1:=q8 (τ:=τ) (T:=[]) g (hR _ _ hb).cells
  obtain ⟨cs,rfl,hcl,hfl⟩:=hR _ _ hb
  rw [qn]
  by_cases hneg:l' < 0
  ·right;simp only [go_sem,qa,qb,qc,qd,qe,qf,reduceCtorEq,Jy,hn,hlt,a1,g,hcc,e1,hcl,qaC,qaD,qaE,hfl,hneg]
  ·have:=ih l'
   simp only [go_sem,qa,qb,qc,qd,qe,qf,reduceCtorEq,Jy,hn,hlt,a1,g,hcc,e1,hcl,qaC,qaD,qaE,hfl,hneg]
   exact this
theorem quG(fS f e:Nat) (hp:prog fS=some (.fn (qbN f e))) (hR: ∀ t v,R t v→Yn e v) (τ:Bool) (vs:List V) (ts:List α) (hv:RL R ts vs) (hw:ts.length≤Lm)
 (hc: ∀ t ∈ ts,∀ v left,R t v→ ∃ m,cr prog f [v,I left]=some (I m)) (left:Int):
 ∃ m,cr prog fS [.i τ vs,I left]=some (I m):=by
 rw [qv hp rfl]
 by_cases hneg:w64 (left - ts.length) < 0
 ·simp only [go_sem,qa,qb,qc,qd,qe,qf,reduceCtorEq,qbN,yp hv,hneg]
  exact ⟨_,rfl⟩
 ·rcases quF f e hR τ vs ts hv hw hc (w64 (left - ts.length))with ⟨r,h⟩|h
  ·simp only [go_sem,qa,qb,qc,qd,qe,qf,reduceCtorEq,qbN,yp hv,hneg,h]
   exact ⟨_,rfl⟩
  ·simp only [go_sem,qa,qb,qc,qd,qe,qf,reduceCtorEq,qbN,yp hv,hneg,h]
   exact ⟨_,rfl⟩
end
end Go.Vm
namespace Go.Vm
def wS(s:Str):Prop:=s.length≤Lm
structure Cl where
 head:Tm
 body:Tm
 file:Str
noncomputable instance:DecidableEq Cl:=fun a b=>Classical.propDecidable (a=b)
def bCl(x:Cl) (v:V):Prop:= ∃ τ0 vs0 τ1 vs1,v= .a [I x.head.kind,S x.head.name,I x.head.num,.i τ0 vs0,I x.body.kind,S x.body.name,I x.body.num,.i τ1 vs1,S x.file]∧RL BT x.head.kids vs0∧RL BT x.body.kids vs1
def oCl(x:Cl):V:= .a [I x.head.kind,S x.head.name,I x.head.num,.o 4 (x.head.kids.map oT),I x.body.kind,S x.body.name,I x.body.num,.o 4 (x.body.kids.map oT),S x.file]
def iCl(τ:Bool) (x:Cl):V:= .a [I x.head.kind,S x.head.name,I x.head.num,.i τ (x.head.kids.map (iT τ)),I x.body.kind,S x.body.name,I x.body.num,.i τ (x.body.kids.map (iT τ)),S x.file]
def wCl(x:Cl):Prop:=wTm x.head∧wTm x.body∧wS x.file
theorem qhx(τ:Bool) (x:Cl):zd τ (oCl x)=iCl τ x:=by simp only [oCl,iCl,go_sem]
theorem qjx(x:Cl):ze (oCl x)=true:=by simp only [oCl,go_sem]
theorem qjt(x:Cl):ze (iCl false x)=true:=by simp only [iCl,go_sem]
@[go_sem] theorem qLH(τ:Bool) (x:Cl):zb (iCl τ x)=true:=rfl
@[go_sem] theorem qBW(m:Nat) (T:Mem) (τ:Bool) (x:Cl):qx (m+2) T (iCl τ x)=(iCl τ x,T):=rfl
@[go_sem] theorem qCh(τ τ':Bool) (x:Cl):zd τ (iCl τ' x)=iCl τ' x:=rfl
@[go_sem] theorem qFp(d:Nat) (τ:Bool) (x:Cl):qN d (iCl τ x)=iCl τ x:=rfl
@[go_sem] theorem qCJ(τ:Bool) (x:Cl):xi (iCl τ x)=[]:=rfl
@[go_sem] theorem qES(τ:Bool) (x:Cl):(iCl τ x).isA=true:=rfl
@[go_sem] theorem qFP(τ:Bool) (x:Cl):qY true 9 (iCl τ x) 0=some (iCl τ x):=rfl
@[go_sem] theorem qAY(τ:Bool) (x:Cl):(iCl τ x).cells=[I x.head.kind,S x.head.name,I x.head.num,.i τ (x.head.kids.map (iT τ)),I x.body.kind,S x.body.name,I x.body.num,.i τ (x.body.kids.map (iT τ)),S x.file]:=rfl
@[go_sem] theorem qhh(x:Cl):clE (oCl x)=true:=rfl
@[go_sem] theorem qBc(τ:Bool) (x:Cl):clE (iCl τ x)=true:=rfl
attribute [go_sem] qhx qjx qjt
@[go_sem] theorem qB7(τ:Bool) (l:List Cl):q9 τ (l.map oCl)=l.map (iCl τ):=QK (qhx τ) l
@[go_sem] theorem qHm(l:List Cl):zo (l.map oCl)=true:=ki qjx l
@[go_sem] theorem qHs(l:List Cl):zo (l.map (iCl false))=true:=ki qjt l
@[go_sem] theorem qhp(l:List Cl):qE (l.map oCl)=true:=Qc qhh l
@[go_sem] theorem qF2(m:Nat) (T:Mem) (l:List Cl):qA (zh m) T (l.map oCl)=(l.map oCl,T):=jK m T _ (qhp l)
@[go_sem] theorem qJY(k:Key) (ob:Ob) (l:List Cl):zB k ob (l.map oCl)=none:=ZM k ob _ (qhp l)
@[go_sem] theorem qFb(d:Nat) (l:List Cl):qG d (l.map oCl)=l.map oCl:=ZF qhh d l
structure Db where
 clauses:List Cl
 opn:List Str
noncomputable instance:DecidableEq Db:=fun a b=>Classical.propDecidable (a=b)
def bDb(x:Db) (v:V):Prop:= ∃ τ0 vs0 τ1,v= .a [.i τ0 vs0,.i τ1 (x.opn.map S)]∧RL bCl x.clauses vs0
def oDb(x:Db):V:= .a [.o 9 (x.clauses.map oCl),.o 1 (x.opn.map S)]
def iDb(τ:Bool) (x:Db):V:= .a [.i τ (x.clauses.map (iCl τ)),.i τ (x.opn.map S)]
def wDb(x:Db):Prop:=(x.clauses.length≤Lm∧ ∀ y ∈ x.clauses,wCl y)∧(x.opn.length≤Lm∧ ∀ y ∈ x.opn,wS y)
theorem qhy(τ:Bool) (x:Db):zd τ (oDb x)=iDb τ x:=by simp only [oDb,iDb,go_sem]
theorem qjy(x:Db):ze (oDb x)=true:=by simp only [oDb,go_sem]
theorem qju(x:Db):ze (iDb false x)=true:=by simp only [iDb,go_sem]
@[go_sem] theorem qLI(τ:Bool) (x:Db):zb (iDb τ x)=true:=rfl
@[go_sem] theorem qBX(m:Nat) (T:Mem) (τ:Bool) (x:Db):qx (m+2) T (iDb τ x)=(iDb τ x,T):=rfl
@[go_sem] theorem qCi(τ τ':Bool) (x:Db):zd τ (iDb τ' x)=iDb τ' x:=rfl
@[go_sem] theorem qFq(d:Nat) (τ:Bool) (x:Db):qN d (iDb τ x)=iDb τ x:=rfl
@[go_sem] theorem qCK(τ:Bool) (x:Db):xi (iDb τ x)=[]:=rfl
@[go_sem] theorem qET(τ:Bool) (x:Db):(iDb τ x).isA=true:=rfl
@[go_sem] theorem qFQ(τ:Bool) (x:Db):qY true 2 (iDb τ x) 0=some (iDb τ x):=rfl
@[go_sem] theorem qAZ(τ:Bool) (x:Db):(iDb τ x).cells=[.i τ (x.clauses.map (iCl τ)),.i τ (x.opn.map S)]:=rfl
@[go_sem] theorem qhi(x:Db):clE (oDb x)=true:=rfl
@[go_sem] theorem qBd(τ:Bool) (x:Db):clE (iDb τ x)=true:=rfl
attribute [go_sem] qhy qjy qju
@[go_sem] theorem qB8(τ:Bool) (l:List Db):q9 τ (l.map oDb)=l.map (iDb τ):=QK (qhy τ) l
@[go_sem] theorem qHn(l:List Db):zo (l.map oDb)=true:=ki qjy l
@[go_sem] theorem qHt(l:List Db):zo (l.map (iDb false))=true:=ki qju l
@[go_sem] theorem qhq(l:List Db):qE (l.map oDb)=true:=Qc qhi l
@[go_sem] theorem qF3(m:Nat) (T:Mem) (l:List Db):qA (zh m) T (l.map oDb)=(l.map oDb,T):=jK m T _ (qhq l)
@[go_sem] theorem qJZ(k:Key) (ob:Ob) (l:List Db):zB k ob (l.map oDb)=none:=ZM k ob _ (qhq l)
@[go_sem] theorem qFc(d:Nat) (l:List Db):qG d (l.map oDb)=l.map oDb:=ZF qhi d l
structure Fl where
 name:Str
 text:Str
noncomputable instance:DecidableEq Fl:=fun a b=>Classical.propDecidable (a=b)
def bFl(x:Fl) (v:V):Prop:=v= .a [S x.name,S x.text]
def oFl(x:Fl):V:= .a [S x.name,S x.text]
def iFl(τ:Bool) (x:Fl):V:= .a [S x.name,S x.text]
def wFl(x:Fl):Prop:=wS x.name∧wS x.text
theorem qgY(τ:Bool) (x:Fl):bFl x (iFl τ x):=rfl
theorem qhz(τ:Bool) (x:Fl):zd τ (oFl x)=iFl τ x:=by simp only [oFl,iFl,go_sem]
theorem qjz(x:Fl):ze (oFl x)=true:=by simp only [oFl,go_sem]
theorem qjv(x:Fl):ze (iFl false x)=true:=by simp only [iFl,go_sem]
theorem qd6(x:Fl) (v:V) (h:bFl x v):Yn 2 v:=by
 obtain rfl:=h;exact ⟨_,rfl,rfl,rfl⟩
@[go_sem] theorem qLJ(τ:Bool) (x:Fl):zb (iFl τ x)=true:=rfl
@[go_sem] theorem qBY(m:Nat) (T:Mem) (τ:Bool) (x:Fl):qx (m+2) T (iFl τ x)=(iFl τ x,T):=rfl
@[go_sem] theorem qCj(τ τ':Bool) (x:Fl):zd τ (iFl τ' x)=iFl τ' x:=rfl
@[go_sem] theorem qFr(d:Nat) (τ:Bool) (x:Fl):qN d (iFl τ x)=iFl τ x:=rfl
@[go_sem] theorem qCL(τ:Bool) (x:Fl):xi (iFl τ x)=[]:=rfl
@[go_sem] theorem qEU(τ:Bool) (x:Fl):(iFl τ x).isA=true:=rfl
@[go_sem] theorem qFR(τ:Bool) (x:Fl):qY true 2 (iFl τ x) 0=some (iFl τ x):=rfl
@[go_sem] theorem qA0(τ:Bool) (x:Fl):(iFl τ x).cells=[S x.name,S x.text]:=rfl
@[go_sem] theorem qhj(x:Fl):clE (oFl x)=true:=rfl
@[go_sem] theorem qBe(τ:Bool) (x:Fl):clE (iFl τ x)=true:=rfl
attribute [go_sem] qhz qjz qjv
@[go_sem] theorem qB9(τ:Bool) (l:List Fl):q9 τ (l.map oFl)=l.map (iFl τ):=QK (qhz τ) l
@[go_sem] theorem qHo(l:List Fl):zo (l.map oFl)=true:=ki qjz l
@[go_sem] theorem qHu(l:List Fl):zo (l.map (iFl false))=true:=ki qjv l
@[go_sem] theorem qeq(l:List Fl):qE (l.map oFl)=true:=Qc qhj l
@[go_sem] theorem qF4(m:Nat) (T:Mem) (l:List Fl):qA (zh m) T (l.map oFl)=(l.map oFl,T):=jK m T _ (qeq l)
@[go_sem] theorem qJ0(k:Key) (ob:Ob) (l:List Fl):zB k ob (l.map oFl)=none:=ZM k ob _ (qeq l)
@[go_sem] theorem qnF(d:Nat) (l:List Fl):qG d (l.map oFl)=l.map oFl:=ZF qhj d l
structure Se where
 files:List Fl
 db:Db
 lines:List Str
 out:Str
noncomputable instance:DecidableEq Se:=fun a b=>Classical.propDecidable (a=b)
def bSe(x:Se) (v:V):Prop:= ∃ τ0 vs0 τ1 vs1 τ2 τ3,v= .a [.i τ0 vs0,.i τ1 vs1,.i τ2 (x.db.opn.map S),.i τ3 (x.lines.map S),S x.out]∧RL bFl x.files vs0∧RL bCl x.db.clauses vs1
def oSe(x:Se):V:= .a [.o 2 (x.files.map oFl),.o 9 (x.db.clauses.map oCl),.o 1 (x.db.opn.map S),.o 1 (x.lines.map S),S x.out]
def iSe(τ:Bool) (x:Se):V:= .a [.i τ (x.files.map (iFl τ)),.i τ (x.db.clauses.map (iCl τ)),.i τ (x.db.opn.map S),.i τ (x.lines.map S),S x.out]
def wSe(x:Se):Prop:=(x.files.length≤Lm∧ ∀ y ∈ x.files,wFl y)∧wDb x.db∧(x.lines.length≤Lm∧ ∀ y ∈ x.lines,wS y)∧wS x.out
theorem qhA(τ:Bool) (x:Se):zd τ (oSe x)=iSe τ x:=by simp only [oSe,iSe,go_sem]
theorem qjA(x:Se):ze (oSe x)=true:=by simp only [oSe,go_sem]
theorem qjw(x:Se):ze (iSe false x)=true:=by simp only [iSe,go_sem]
@[go_sem] theorem qLK(τ:Bool) (x:Se):zb (iSe τ x)=true:=rfl
@[go_sem] theorem qBZ(m:Nat) (T:Mem) (τ:Bool) (x:Se):qx (m+2) T (iSe τ x)=(iSe τ x,T):=rfl
@[go_sem] theorem qCk(τ τ':Bool) (x:Se):zd τ (iSe τ' x)=iSe τ' x:=rfl
@[go_sem] theorem qFs(d:Nat) (τ:Bool) (x:Se):qN d (iSe τ x)=iSe τ x:=rfl
@[go_sem] theorem qCM(τ:Bool) (x:Se):xi (iSe τ x)=[]:=rfl
@[go_sem] theorem qEV(τ:Bool) (x:Se):(iSe τ x).isA=true:=rfl
@[go_sem] theorem qFS(τ:Bool) (x:Se):qY true 5 (iSe τ x) 0=some (iSe τ x):=rfl
@[go_sem] theorem qA1(τ:Bool) (x:Se):(iSe τ x).cells=[.i τ (x.files.map (iFl τ)),.i τ (x.db.clauses.map (iCl τ)),.i τ (x.db.opn.map S),.i τ (x.lines.map S),S x.out]:=rfl
@[go_sem] theorem qhk(x:Se):clE (oSe x)=true:=rfl
@[go_sem] theorem qBf(τ:Bool) (x:Se):clE (iSe τ x)=true:=rfl
attribute [go_sem] qhA qjA qjw
@[go_sem] theorem qCa(τ:Bool) (l:List Se):q9 τ (l.map oSe)=l.map (iSe τ):=QK (qhA τ) l
@[go_sem] theorem qHp(l:List Se):zo (l.map oSe)=true:=ki qjA l
@[go_sem] theorem qHv(l:List Se):zo (l.map (iSe false))=true:=ki qjw l
@[go_sem] theorem qhr(l:List Se):qE (l.map oSe)=true:=Qc qhk l
@[go_sem] theorem qF5(m:Nat) (T:Mem) (l:List Se):qA (zh m) T (l.map oSe)=(l.map oSe,T):=jK m T _ (qhr l)
@[go_sem] theorem qJ1(k:Key) (ob:Ob) (l:List Se):zB k ob (l.map oSe)=none:=ZM k ob _ (qhr l)
@[go_sem] theorem qFd(d:Nat) (l:List Se):qG d (l.map oSe)=l.map oSe:=ZF qhk d l
end Go.Vm
set_option linter.unusedSectionVars false
namespace Go.Vm
open Go.RowKit (Below)
def yO(P:Program) (e:TypeId) (zs:List V):V:=
 match P.underlying e with
 |some (.struct _)=> .a zs
 |_=>zs.headD .d
mutual
def Shp(P:Program):Nat→TypeId→List V→Prop
 |0,_,_=>False
 |n+1,t,xs=>match P.underlying t with
  |some .bool=> ∃ b,xs=[B b]
  |some (.int k)=> ∃ m,xs=[.v (.int k m)]∧(Lit.int k m).wf=true
  |some .string=> ∃ l,xs=[S l]
  |some (.slice e)=> ∃ ys:List V,xs=[.i false ys]∧ ∀ y ∈ ys,∃ zs,Shp P n e zs∧y=yO P e zs
  |some (.struct fs)=> ∃ parts:List (List V),xs=parts.flatten∧kQ P n (fs.toList.map (·.type)) parts
  |_=>False
def kQ(P:Program):Nat→List TypeId→List (List V)→Prop
 |_,[],[]=>True
 |n,t::ts,p::ps=>Shp P n t p∧kQ P n ts ps
 |_,_,_=>False
end
mutual
def xo:V→Nat
 | .v (.string s)=>s.size+1
 | .i _ xs=>zf xs+1
 | .o _ xs=>zf xs+1
 | .a xs=>zf xs
 |_=>1
def zf:List V→Nat
 |[]=>0
 |x::xs=>xo x+zf xs
end
theorem qel: ∀ (xs ys:List V),zf (xs++ys)=zf xs+zf ys
 |[],ys=>by simp [zf]
 |x::xs,ys=>by simp [zf,qel xs ys,Nat.add_assoc]
mutual
def yg {H:Type}:DataW H→Nat
 | .lit (.string bytes)=>bytes.length+1
 | .lit _=>1
 | .nil=>1
 | .ptr d=>yg d+1
 | .slice elems spare=>kD elems+kD spare+1
 | .agg parts=>kD parts+1
 |_=>1
def kD {H:Type}:List (DataW H)→Nat
 |[]=>0
 |d::r=>yg d+kD r
end
def qcM(P:Program):Nat→List Field→Bool
 |_,[]=>true
 |n,f::fs=>decide (f.offset=n)&&qcM P (n+P.cellsOf f.type) fs
def qaF(P:Program):List Field→Nat
 |[]=>0
 |f::fs=>P.cellsOf f.type+qaF P fs
def YM(P:Program) (S:List TypeId) (t:TypeId):Bool:=
 match P.underlying t with
 |some .bool|some (.int _)|some .string=>decide (P.cellsOf t=1)
 |some (.slice e)=>decide (P.cellsOf t=1)&&S.contains e&&decide (0 < P.cellsOf e)
 |some (.struct fs)=>qcM P 0 fs.toList&&decide (qaF P fs.toList=P.cellsOf t)&&fs.toList.all fun f=>S.contains f.type
 |_=>false
def ka(w:World):Env:={w,I:=fun _ b=>b < w.heap.size,μ:=fun _=>none}
def yu(P:Program) (t:TypeId):Bool:=match P.underlying t with|some (.struct _)=>true|_=>false
def ZQ(P:Program) (t:TypeId) (cs:List Value):Value:=
 match P.underlying t with
 |some (.struct _)=> .agg cs.toArray
 |_=>cs.headD undef
section
variable {H:Type} {enc:TypeId × Value→H} {P:Program} {w:World} {St:List TypeId}
theorem qhg {a:Addr} {n:Nat} {cs:List Value} (h:w.cells? 0 a n=some cs) (hn:0 < n):
 a.spot=none∧ ∃ cells T fz,w.heap[a.block]? =some (.cells cells T fz)∧cs=seg cells a.off n∧a.off+n≤cells.size∧a.block < w.heap.size:=by
 unfold World.cells? at h
 rw [if_pos (Nat.zero_le _)]at h
 have hl:cs.length=n:=by simpa using mapM_some_length h
 have hg: ∀ i,i < n→w.cell? (a.add i)=cs[i]? :=fun i hi=>mapM_some_get h i i (by simp [hi])
 have h0:=hg 0 hn
 have hc0:cs[0]? =some cs[0]:=List.getElem?_eq_getElem (by omega)
 rw [hc0]at h0
 simp only [Addr.add,if_true,World.cell?]at h0
 split at h0
 case h_2=>cases h0
 rename_i cells T fz hw
 split at h0
 ·cases h0
 rename_i hsp
 have hsp':a.spot=none:=by simpa using hsp
 refine ⟨hsp',cells,T,fz,hw, ?_, ?_,(Array.getElem?_eq_some_iff.1 hw).1⟩
 ·apply List.ext_getElem?
  intro i
  by_cases hi:i < n
  ·have:=hg i hi
   rw [← this]
   have e1:(a.add i).block=a.block∧(a.add i).off=a.off+i∧(a.add i).spot=none:=by
    unfold Addr.add
    split
    ·subst i;exact ⟨rfl,rfl,hsp'⟩
    ·exact ⟨rfl,rfl,rfl⟩
   simp only [World.cell?,e1.1,hw,e1.2.1,e1.2.2]
   simp only [seg,List.getElem?_take,hi,if_true,List.getElem?_drop,Array.getElem?_toList]
   simp
  ·rw [List.getElem?_eq_none (by omega)]
   simp [seg,List.getElem?_take,hi]
 ·have h1:=hg (n - 1) (by omega)
  have e1:(a.add (n - 1)).block=a.block∧(a.add (n - 1)).off=a.off+(n - 1)∧(a.add (n - 1)).spot=none:=by
   unfold Addr.add
   split
   ·rename_i h;rw [h];exact ⟨rfl,rfl,hsp'⟩
   ·exact ⟨rfl,rfl,rfl⟩
  simp only [World.cell?,e1.1,hw,e1.2.1,e1.2.2]at h1
  have hcn:cs[n - 1]? =some cs[n - 1]:=List.getElem?_eq_getElem (by omega)
  rw [hcn]at h1
  have:a.off+(n - 1) < cells.size:=by
   simp only [Option.isSome_none,Bool.false_eq_true,if_false]at h1
   exact (Array.getElem?_eq_some_iff.1 h1).1
  omega
theorem qmZ:(ka w).cl=ka w:=rfl
theorem qkQ {t:TypeId} {xs:List V} {cs:List Value} (h:qk (ka w) xs cs c0) (hst:yu P t=true∨(xs.length=1∧ya cs)):
 Rel (ka w) (yO P t xs) (ZQ P t cs) c0∧(ya cs→(yO P t xs).cells.length=xs.length∨(yO P t xs).isA=true):=by
 unfold yO ZQ
 unfold yu at hst
 split at hst
 ·rename_i fs hu
  refine ⟨?_,fun _=> .inr ?_⟩
  ·simp only [Rel];exact ⟨cs.toArray,rfl,by simpa using h⟩
  ·rfl
 ·rename_i hns
  rcases hst with hst|⟨hst,hon⟩
  ·cases hst
  match xs,hst with
  |[x],_=>
   obtain ⟨y,rfl,hr⟩:=qa2 h
   refine ⟨by simpa using hr,fun _=> ?_⟩
   by_cases hx:(V.isA x)=true
   ·exact .inr (by simpa using hx)
   ·left
    cases x<;>first|rfl|exact absurd rfl hx
def Rd(P:Program) (w:World) (H:Type) (enc:TypeId × Value→H) (n:Nat) (t:TypeId) (cs:List Value) (d:DataW H):Prop:=
 ∃ xs,qk (ka w) xs cs c0∧Shp P n t xs∧zf xs≤yg d∧cs.length=P.cellsOf t∧ya cs∧(yu P t=false→ ∃ x,xs=[x]∧x.isA=false)
theorem qqS(s:ByteArray):ya [Value.string s]:=by intro z hz;simp at hz;subst hz;rfl
theorem qmb(s:ByteArray):V.v (.string s)=S s.data.toList:=by simp [S]
theorem qhP {n:Nat} (IH: ∀ t cs d ps,t ∈ St→DataW.trod enc P w 0 (fun _=>true) true n t cs=some (d,ps)→Rd P w H enc n t cs d) (cs:List Value):
 ∀ (fs:List Field) (off:Nat) (xs:List (DataW H × List MemPlace)),qcM P off fs=true→off+qaF P fs=cs.length→(fs.all fun f=>St.contains f.type)=true→
  xs.length=fs.length→(∀ (i:Nat) (f:Field),fs[i]? =some f→DataW.trod enc P w 0 (fun _=>true) true n f.type ((cs.drop f.offset).take (P.cellsOf f.type))=xs[i]?)→
  ∃ parts,qk (ka w) parts.flatten (cs.drop off) c0∧kQ P n (fs.map (·.type)) parts∧zf parts.flatten≤kD (xs.map (·.1))∧ya (cs.drop off)
 |[],off,xs,_,hs,_,hl,_=>by
  have:xs=[]:=by simpa using hl
  subst this
  have hd:cs.drop off=[]:=List.drop_eq_nil_of_le (by simp only [qaF]at hs;omega)
  rw [hd]
  exact ⟨[],by simp [qk],by simp [kQ],by simp [zf],by intro z hz;cases hz⟩
 |f::fs,off,[],_,_,_,hl,_=>by simp at hl
 |f::fs,off,x::xs,ho,hs,ha,hl,hg=>by
  simp only [qcM,Bool.and_eq_true,decide_eq_true_eq]at ho
  simp only [List.all_cons,Bool.and_eq_true]at ha
  simp only [qaF]at hs
  have h0:=hg 0 f rfl
  rw [ho.1]at h0
  simp only [List.getElem?_cons_zero]at h0
  obtain ⟨ys,hr,hsh,hb,hlen,hon,-⟩:=IH f.type _ x.1 x.2 (by simpa using ha.1) h0
  obtain ⟨parts,hr',hsh',hb',hon'⟩:=qhP IH cs fs (off+P.cellsOf f.type) xs ho.2 (by omega) ha.2 (by simpa using hl) (fun i f' hf'=>by simpa using hg (i+1) f' (by simpa using hf'))
  have hsplit:cs.drop off=(cs.drop off).take (P.cellsOf f.type)++cs.drop (off+P.cellsOf f.type):=by
   rw [← List.drop_drop,List.take_append_drop]
  refine ⟨ys::parts, ?_, ?_, ?_, ?_⟩
  ·rw [hsplit,List.flatten_cons]
   have:=jg hr hr'
   rwa [Zz]at this
  ·simp only [List.map_cons,kQ];exact ⟨hsh,hsh'⟩
  ·simp only [List.flatten_cons,qel,List.map_cons,kD];omega
  ·rw [hsplit]
   intro z hz
   rcases List.mem_append.1 hz with h|h
   ·exact hon z h
   ·exact hon' z h
theorem qhI {n e:Nat} (he:e ∈ St) (hpos:0 < P.cellsOf e) (IH: ∀ t cs d ps,t ∈ St→DataW.trod enc P w 0 (fun _=>true) true n t cs=some (d,ps)→Rd P w H enc n t cs d)
 (a:Addr) (cells:Array Value):
 ∀ (elems:List (DataW H × List MemPlace)) (off:Nat),(∀ i,i < elems.length→((w.cells? 0 ⟨a.block,a.off+(off+i)*P.cellsOf e,none⟩ (P.cellsOf e)).bind (DataW.trod enc P w 0 (fun _=>true) true n e))=elems[i]?)→
  (∃ T fz,w.heap[a.block]? =some (.cells cells T fz))→
  ∃ ys,ys.length=elems.length∧ql (ka w) (P.cellsOf e) ys (seg cells (a.off+off*P.cellsOf e) (elems.length*P.cellsOf e)) c0∧(∀ y ∈ ys,∃ zs,Shp P n e zs∧y=yO P e zs)∧zf ys≤kD (elems.map (·.1))
 |[],off,_,_=>⟨[],rfl,by simp [ql,seg],by simp,by simp [zf]⟩
 |x::elems,off,hg,hw=>by
  have h0:=hg 0 (by simp)
  simp only [Nat.add_zero,List.getElem?_cons_zero,Option.bind_eq_some_iff]at h0
  obtain ⟨cs,hcs,hx⟩:=h0
  obtain ⟨xs,hr,hsh,hb,hlen,hon,hns⟩:=IH e cs x.1 x.2 he hx
  obtain ⟨ys,hyl,hyr,hys,hyb⟩:=qhI he hpos IH a cells elems (off+1) (fun i hi=>by
   have:=hg (i+1) (by simp;omega)
   rw [show off+1+i=off+(i+1)by omega];simpa using this) hw
  obtain ⟨T,fz,hw'⟩:=hw
  obtain ⟨-,cells',T',fz',hw'',hseg,hle,-⟩:=qhg hcs hpos
  simp only [hw']at hw''
  obtain ⟨rfl,rfl,rfl⟩:cells=cells'∧T=T'∧fz=fz':=by simpa using hw''
  have hst:yu P e=true∨(xs.length=1∧ya cs):=by
   cases hi:yu P e
   ·obtain ⟨x',hx',-⟩:=hns hi;exact .inr ⟨by simp [hx'],hon⟩
   ·exact .inl rfl
  have hrel:=(qkQ (P:=P) (t:=e) hr hst).1
  have hlx:=yU hr
  have hval:(ZQ P e cs).cells.toList=cs∧(yO P e xs).cells.length=P.cellsOf e∧xo (yO P e xs)≤zf xs:=by
   unfold ZQ yO
   cases hi:yu P e
   ·obtain ⟨x',rfl,hxa⟩:=hns hi
    obtain ⟨y,rfl,hr1⟩:=qa2 hr
    have hy:y.oneCell=true:=hon y (by simp)
    unfold yu at hi
    split at hi
    ·cases hi
    ·rename_i hq
     refine ⟨?_, ?_, ?_⟩
     ·simp only [List.headD_cons];cases y<;>first|rfl|(simp [Value.oneCell]at hy)
     ·simp only [List.headD_cons];rw [← hlen,List.length_singleton];cases x'<;>first|rfl|(simp [V.isA]at hxa)
     ·simp [zf]
   ·unfold yu at hi
    split at hi
    ·refine ⟨by simp [Value.cells], ?_, ?_⟩
     ·simp only [V.cells];omega
     ·simp [xo]
    ·cases hi
  refine ⟨yO P e xs::ys,by simp [hyl], ?_, ?_, ?_⟩
  ·simp only [ql]
   refine ⟨ZQ P e cs,seg cells (a.off+(off+1)*P.cellsOf e) (elems.length*P.cellsOf e),c0,c0, ?_, ?_,hval.2.1, ?_,hrel,hyr,rfl⟩
   ·rw [hval.1,hseg]
    simp only [seg,List.length_cons]
    have e1:(elems.length+1)*P.cellsOf e=P.cellsOf e+elems.length*P.cellsOf e:=by rw [Nat.add_mul];omega
    have e2:a.off+(off+1)*P.cellsOf e=a.off+off*P.cellsOf e+P.cellsOf e:=by rw [Nat.add_mul];omega
    rw [e1,List.take_add,e2,List.drop_drop]
   ·have hq:(ZQ P e cs).cells.size=cs.length:=by rw [← Array.length_toList,hval.1]
    rw [hq,hlen]
   ·rw [hval.1];exact hon
  ·intro y hy
   rcases List.mem_cons.1 hy with rfl|hy
   ·exact ⟨xs,hsh,rfl⟩
   ·exact hys y hy
  ·simp only [zf,List.map_cons,kD];have:=hval.2.2;omega
theorem qlO(hS: ∀ t ∈ St,YM P St t=true): ∀ (n:Nat) (t:TypeId) (cs:List Value) (d:DataW H) (ps:List MemPlace),t ∈ St→
 DataW.trod enc P w 0 (fun _=>true) true n t cs=some (d,ps)→Rd P w H enc n t cs d
 |0,t,cs,d,ps,_,h=>by simp [DataW.trod]at h
 |n+1,t,cs,d,ps,ht,h=>by
  have IH:=qlO hS n
  have hok:=hS t ht
  unfold YM at hok
  split at hok
  ·rename_i hu
   obtain ⟨b,rfl,hx⟩:=DataW.trod_bool hu h
   refine ⟨[B b], ?_, ?_, ?_, ?_, ?_,fun _=>⟨_,rfl,rfl⟩⟩
   ·exact yD (by simp [B,Rel,yz])
   ·simp only [Shp,hu];exact ⟨b,rfl⟩
   ·simp only [Prod.mk.injEq]at hx;rw [hx.1];simp [zf,xo,B,yg]
   ·simpa using (of_decide_eq_true hok).symm
   ·intro z hz;simp at hz;subst hz;rfl
  ·rename_i k hu
   obtain ⟨m,rfl,hx,hwf⟩:=DataW.trod_int hu h
   refine ⟨[.v (.int k m)], ?_, ?_, ?_, ?_, ?_,fun _=>⟨_,rfl,rfl⟩⟩
   ·exact yD (by simp [Rel,yz])
   ·simp only [Shp,hu];exact ⟨m,rfl,hwf⟩
   ·simp only [Prod.mk.injEq]at hx;rw [hx.1];simp [zf,xo,yg]
   ·simpa using (of_decide_eq_true hok).symm
   ·intro z hz;simp at hz;subst hz;rfl
  ·rename_i hu
   obtain ⟨s,rfl,hx,-⟩:=DataW.trod_string hu h
   refine ⟨[.v (.string s)], ?_, ?_, ?_, ?_, ?_,fun _=>⟨_,rfl,rfl⟩⟩
   ·exact yD (by simp [Rel,yz])
   ·simp only [Shp,hu];exact ⟨s.data.toList,by rw [qmb]⟩
   ·simp only [Prod.mk.injEq]at hx;rw [hx.1];show s.data.size+1+0≤s.data.toList.length+1;simp
   ·simpa using (of_decide_eq_true hok).symm
   ·exact qqS s
  ·rename_i e hu
   simp only [Bool.and_eq_true,decide_eq_true_eq,List.contains_iff_mem]at hok
   obtain ⟨⟨hc1,heS⟩,hpos⟩:=hok
   rcases DataW.trod_slice hu h with ⟨rfl,hx⟩|⟨a,len,cap,elems,rest,m,hm,rfl,hx,-,hle,-,hel,hg,-,-⟩
   ·refine ⟨[.i false []], ?_, ?_, ?_, ?_, ?_,fun _=>⟨_,rfl,rfl⟩⟩
    ·exact yD (by simp only [Rel];exact ⟨by trivial,none,0,rfl,Nat.le_refl _,.inl trivial⟩)
    ·simp only [Shp,hu];exact ⟨[],rfl,by simp⟩
    ·simp only [Prod.mk.injEq]at hx;rw [hx.1];simp [zf,xo,yg]
    ·simpa using hc1.symm
    ·intro z hz;simp at hz;subst hz;rfl
   ·have hmn:m=n:=by omega
    subst hmn
    by_cases hz:len=0
    ·subst hz
     refine ⟨[.i false []], ?_, ?_, ?_, ?_, ?_,fun _=>⟨_,rfl,rfl⟩⟩
     ·exact yD (by simp only [Rel];exact ⟨by trivial,some a,cap,rfl,Nat.zero_le _,.inl trivial⟩)
     ·simp only [Shp,hu];exact ⟨[],rfl,by simp⟩
     ·simp only [Prod.mk.injEq]at hx;rw [hx.1];simp [zf,xo,yg]
     ·simpa using hc1.symm
     ·intro z hz;simp at hz;subst hz;rfl
    ·have h0:=hg 0 (by omega)
     have he0:elems[0]? =some elems[0]:=List.getElem?_eq_getElem (by omega)
     rw [he0,Option.bind_eq_some_iff]at h0
     obtain ⟨cs0,hcs0,-⟩:=h0
     have ha0:a.add (0*P.cellsOf e)=a:=by simp [Addr.add]
     rw [ha0]at hcs0
     obtain ⟨hsp,cells,T,fz,hw,-,-,hlt⟩:=qhg hcs0 hpos
     have ha:a=⟨a.block,a.off,none⟩:=by obtain ⟨b,o,s⟩:=a;simp only at hsp;subst hsp;rfl
     obtain ⟨ys,hyl,hyr,hys,hyb⟩:=qhI heS hpos IH a cells elems 0 (fun i hi=>by
      have:=hg i (by omega)
      rw [← this]
      congr 2
      rw [Nat.zero_add]
      unfold Addr.add
      split
      ·rename_i hq;rw [hq,Nat.add_zero];exact ha.symm
      ·rfl) ⟨T,fz,hw⟩
     simp only [Nat.zero_mul,Nat.add_zero]at hyr
     refine ⟨[.i false ys], ?_, ?_, ?_, ?_, ?_,fun _=>⟨_,rfl,rfl⟩⟩
     ·refine yD ?_
      simp only [Rel]
      refine ⟨by trivial,some a,cap,by rw [hyl,hel],by omega,.inr ⟨a.block,a.off,P.cellsOf e,cells,T,fz,by rw [← ha],hlt,hw, ?_⟩⟩
      rw [hyl];exact hyr
     ·simp only [Shp,hu];exact ⟨ys,rfl,hys⟩
     ·simp only [Prod.mk.injEq]at hx;rw [hx.1];simp only [zf,xo,yg];omega
     ·simpa using hc1.symm
     ·intro z hz;simp at hz;subst hz;rfl
  ·rename_i fs hu
   simp only [Bool.and_eq_true,decide_eq_true_eq]at hok
   obtain ⟨xs,m,hm,hx,hlen,hxl,hg⟩:=DataW.trod_struct hu h
   have hmn:m=n:=by omega
   subst hmn
   obtain ⟨parts,h1,h2,h3,h4⟩:=qhP IH cs fs.toList 0 xs hok.1.1 (by rw [hlen, ← hok.1.2];omega) hok.2 (by simpa using hxl) (fun i f hf=>hg i f (by simpa using hf))
   refine ⟨parts.flatten,by simpa using h1, ?_, ?_,hlen,by simpa using h4,fun hi=> ?_⟩
   ·simp only [Shp,hu];exact ⟨parts,rfl,h2⟩
   ·simp only [Prod.mk.injEq]at hx;rw [hx.1];simp only [yg];omega
   ·unfold yu at hi;rw [hu]at hi;cases hi
  ·cases hok
theorem qso {f:Func} {s:ChangeSpec} {apart kb handsOn:Bool} {W W':World} {args:Array Value} {v:Value} {ds gs:List (DataW H)} {before pa pv:List MemPlace}
 (hW:DataW.Whole enc P f.params.toList s.vars apart W args.toList ds gs before)
 (hres: ∀ (b:Nat) (sp:Nat→Bool) (hd:Bool),DataW.TrodAll enc P W' b sp hd f.resultTypes.toList (v.resultList f.resultTypes.size) (s.fn H (ds++gs)).results [])
 (hargs: ∀ sp:Nat→Bool,(∀ p ∈ before,sp p.block=true)→DataW.TrodAll enc P W' 0 sp true f.params.toList args.toList (s.fn H (ds++gs)).args pa)
 (hvars: ∀ sp:Nat→Bool,(∀ p ∈ before,sp p.block=true)→DataW.TrodVars enc P W' sp s.vars (s.fn H (ds++gs)).vars pv)
 (hps:before=pa++pv) (hk:W.keptBut W' (· ∈ before)):
 s.post enc P f apart kb handsOn false W args v W':=by
 have yi: ∀ p ∈ before,(fun b=>decide (b < W.heap.size)) p.block=true:=fun p hp=>by simpa using hW.lt p hp
 refine ⟨ds,gs,before,[],pa,pv,hW,hres _ _ _,hargs _ yi,hvars _ yi,World.keptBut_mono (fun p hp=>⟨hp, ?_⟩) hk,fun h=>by cases h⟩
 rw [hps,List.mem_append]at hp
 exact Or.inr hp
theorem qmk {W W':World} (h:Below W.heap.size W W') (may:MemPlace→Prop):W.keptBut W' may:=by
 refine ⟨h.os,h.output,fun i hi=> ?_⟩
 rw [h.block i hi]
 have hx:W.heap[i]? =some W.heap[i]:=Array.getElem?_eq_getElem hi
 rw [hx]
 cases W.heap[i]with
 |cells c t fr=>exact ⟨rfl,rfl,rfl,fun _ _=>rfl⟩
 |map es clock=>exact .inr ⟨rfl,rfl⟩
 |_=>first|rfl|trivial
theorem qlN(hl:laidOutB P=true) {W W':World} (hb:Below W.heap.size W W'): ∀ {ts:List TypeId} {vs:List Value} {ds:List (DataW H)} {ps:List MemPlace},(ts.all fun t=>P.readableRec t&&decide (t < P.types.size))=true→
 DataW.TrodAll enc P W 0 (fun _=>true) true ts vs ds ps→(∀ p ∈ ps,p.block < W.heap.size)→ ∀ sp:Nat→Bool,(∀ p ∈ ps,sp p.block=true)→DataW.TrodAll enc P W' 0 sp true ts vs ds ps
 |[],[],[],ps,_,h,_,_,_=>h
 |t::ts,v::vs,d::ds,ps,hr,h,hlt,sp,hsp=>by
  simp only [List.all_cons,Bool.and_eq_true,decide_eq_true_eq]at hr
  obtain ⟨p,q,h1,h2,rfl⟩:=h
  refine ⟨p,q, ?_, ?_,rfl⟩
  ·exact WideElems.Trod_stays hl hr.1.1 hr.1.2 h1 (fun x hx=>hb.same (hlt x (List.mem_append_left _ hx))) (fun x hx=>hsp x (List.mem_append_left _ hx))
  ·exact qlN hl hb hr.2 h2 (fun x hx=>hlt x (List.mem_append_right _ hx)) sp (fun x hx=>hsp x (List.mem_append_right _ hx))
 |[],_::_,_,_,_,h,_,_,_=>h.elim
 |[],[],_::_,_,_,h,_,_,_=>h.elim
 |_::_,[],_,_,_,h,_,_,_=>h.elim
 |_::_,_::_,[],_,_,h,_,_,_=>h.elim
section
variable [Lay]
def qd7(w:World):Prop:=(∀ b,Lay.B b→b < w.heap.size)∧Lay.L w
theorem qna(w:World) (h:qd7 w):Good (ka w) c0:=⟨fun _=>Nat.zero_le _,fun _ _ h=>⟨rfl,h⟩,fun _ h=>h,fun _ h=>absurd rfl h,⟨fun b hb=>h.1 b hb,h.2⟩⟩
theorem qpJ {prog:Nat→Option AE} (hK:QG P prog) {f:FuncId} {xs:List V} {vs:List Value} {outs:List V} {fn:Func} (hfn:P.funcs[f]? =some fn) (hb:fn.body.isSome=true) (hn:(fn.name== "runtime.NumGoroutine")=false)
 (h:cw prog f xs=some (B true,outs)) (hr:qk (ka w) xs vs c0) (hL:qd7 w):
 Calls P f vs.toArray w fun e w'=>e= .returned (.bool true)∧Below w.heap.size w w':=by
 obtain ⟨n,hn'⟩:=ZC.1 h
 have hc:=Yu hK n f xs (B true) outs hn' (ka w) vs c0 (by rw [qmZ];exact hr) (qna w hL)
 obtain ⟨code,hcode⟩:=Option.isSome_iff_exists.1 hb
 have hne:fn.name ≠ "runtime.NumGoroutine" :=by simpa using hn
 have hcf:(callFunc f vs.toArray).run P w= .ok (.enter f vs.toArray) w:=by
  simp [callFunc,hfn,hne,hcode]
 rw [show (ka w).w=w from rfl,hcf]at hc
 refine hc.2.mono ?_
 rintro e w' ⟨y,rfl,E',cr,co,rfl,hy,-,-,hA⟩
 refine ⟨?_,hA.os,hA.tape,hA.output,hA.size,fun b hb=>hA.frame b hb rfl⟩
 simp only [B,Rel]at hy
 rw [hy.1]
theorem qqQ {base:Nat} {t:TypeId} {v:Value} (hok:YM P St t=true) (h:Value.okWide P w .any base t v):
 (yu P t=true→ ∃ cs,v= .agg cs)∧(yu P t=false→v.cells.toList=[v]):=by
 unfold YM at hok
 unfold Value.okWide at h
 unfold yu
 cases hu:P.underlying t with
 |none=>rw [hu]at hok;cases hok
 |some u=>
  rw [hu]at hok
  simp only [hu]at h ⊢
  cases u<;>first|cases hok|skip
  all_goals first
   |(obtain ⟨cs,rfl,-⟩:=h;exact ⟨fun _=>⟨cs,rfl⟩,fun h=>(by cases h)⟩)
   |skip
  all_goals refine ⟨fun h=>(by cases h),fun _=> ?_⟩
  all_goals cases v<;>first|rfl|skip
  all_goals exfalso;unfold Cell.okWide at h;rw [hu]at h;simp only at h;unfold Cell.ok at h;rw [hu]at h;exact h
theorem qgR(hS: ∀ t ∈ St,YM P St t=true) {base:Nat} {t:TypeId} {v:Value} {d:DataW H} {ps:List MemPlace} (ht:t ∈ St) (hv:Value.okWide P w .any base t v) (h:DataW.Trod enc P w 0 (fun _=>true) true t v d ps):
 ∃ n xs,Rel (ka w) (yO P t xs) v c0∧Shp P n t xs∧zf xs≤yg d:=by
 obtain ⟨n,h⟩:=h
 obtain ⟨xs,hr,hsh,hb,hlen,hon,hx⟩:=qlO hS n t v.cells.toList d ps ht h
 refine ⟨n,xs, ?_,hsh,hb⟩
 have hst:yu P t=true∨(xs.length=1∧ya v.cells.toList):=by
  cases hi:yu P t
  ·obtain ⟨x',hx',-⟩:=hx hi;exact .inr ⟨by simp [hx'],hon⟩
  ·exact .inl rfl
 have h1:=(qkQ (P:=P) (t:=t) hr hst).1
 have hl:=qqQ (hS t ht) hv
 have:ZQ P t v.cells.toList=v:=by
  unfold ZQ
  unfold yu at hl
  split
  ·rename_i fs hu
   simp only [hu]at hl
   obtain ⟨cs,rfl⟩:=hl.1 trivial
   simp [Value.cells]
  ·rename_i hq
   have h2:v.cells.toList=[v]:=hl.2 (by
    split
    ·rename_i fs hu;exact absurd hu (hq fs)
    ·rfl)
   rw [h2];rfl
 rwa [this]at h1
theorem qpK {prog:Nat→Option AE} (hK:QG P prog) (hl:laidOutB P=true) {f:FuncId} {fn:Func} (hfn:P.funcs[f]? =some fn) (hb:fn.body.isSome=true) (hn:(fn.name== "runtime.NumGoroutine")=false)
 {tb:TypeId} (hres:fn.resultTypes= #[tb]) (htb:P.underlying tb=some .bool) (hread:(fn.params.toList.all fun t=>P.readableRec t&&decide (t < P.types.size))=true)
 {s:ChangeSpec} (hvars:s.vars=[]) {apart kb handsOn:Bool} {W:World} {args:Array Value} {ds gs:List (DataW H)} {before:List MemPlace}
 (hW:DataW.Whole enc P fn.params.toList s.vars apart W args.toList ds gs before) (hspec:gs=[]→s.fn H (ds++gs)={results:=[.lit (.bool true)],args:=ds})
 (hL:qd7 W) (hH: ∃ xs outs,qk (ka W) xs args.toList c0∧cw prog f xs=some (B true,outs)):
 Calls P f args W fun e W'=> ∃ v,e= .returned v∧s.post enc P fn apart kb handsOn false W args v W':=by
 obtain ⟨xs,outs,hr,hc⟩:=hH
 have hlt:=hW.lt
 have hW':=hW
 obtain ⟨p,q,hA,hV,rfl,hfz,hnd⟩:=hW
 rw [hvars]at hV
 obtain ⟨rfl,rfl⟩:gs=[]∧q=[]:=by
  cases gs with
  |nil=>exact ⟨rfl,hV⟩
  |cons=>exact hV.elim
 have hsp:=hspec rfl
 have hcall:=qpJ hK hfn hb hn hc hr hL
 rw [Array.toArray_toList]at hcall
 refine hcall.mono ?_
 rintro e W' ⟨rfl,hbel⟩
 refine ⟨_,rfl,qso (pa:=p) (pv:=[]) hW' ?_ ?_ ?_ rfl (qmk hbel _)⟩
 ·intro b sp hd
  rw [hsp,hres]
  exact ChangeShapes.trodAll_mk1 (RowKit.shut_bool htb true)
 ·intro sp hsp'
  rw [hsp]
  exact qlN hl hbel hread hA (fun x hx=>hlt x (by simpa using hx)) sp (fun x hx=>hsp' x (by simpa using hx))
 ·intro sp _
  rw [hsp,hvars]
  rfl
end
theorem qli {n:Nat} {t:TypeId} {ts:List TypeId} {parts:List (List V)} (h:kQ P n (t::ts) parts): ∃ p ps,parts=p::ps∧Shp P n t p∧kQ P n ts ps:=by
 cases parts with
 |nil=>simp [kQ]at h
 |cons p ps=>simp only [kQ]at h;exact ⟨p,ps,rfl,h.1,h.2⟩
theorem qtW {n:Nat} {parts:List (List V)} (h:kQ P n [] parts):parts=[]:=by
 cases parts with
 |nil=>rfl
 |cons p ps=>simp [kQ]at h
theorem qtY {n:Nat} {t:TypeId} {xs:List V} (hu:P.underlying t=some .string) (h:Shp P n t xs): ∃ l,xs=[S l]:=by
 cases n with
 |zero=>simp [Shp]at h
 |succ n=>simp only [Shp,hu]at h;exact h
theorem qtX {n:Nat} {t e:TypeId} {xs:List V} (hu:P.underlying t=some (.slice e)) (h:Shp P n t xs): ∃ m ys,n=m+1∧xs=[.i false ys]∧ ∀ y ∈ ys,∃ zs,Shp P m e zs∧y=yO P e zs:=by
 cases n with
 |zero=>simp [Shp]at h
 |succ n=>simp only [Shp,hu]at h;obtain ⟨ys,h1,h2⟩:=h;exact ⟨n,ys,rfl,h1,h2⟩
theorem qtZ {n:Nat} {t:TypeId} {fs:Array Field} {xs:List V} (hu:P.underlying t=some (.struct fs)) (h:Shp P n t xs): ∃ m parts,n=m+1∧xs=parts.flatten∧kQ P m (fs.toList.map (·.type)) parts:=by
 cases n with
 |zero=>simp [Shp]at h
 |succ n=>simp only [Shp,hu]at h;obtain ⟨ps,h1,h2⟩:=h;exact ⟨n,ps,rfl,h1,h2⟩
theorem quZ {e:TypeId} {fs:Array Field} {zs:List V} (hu:P.underlying e=some (.struct fs)):yO P e zs= .a zs:=by simp [yO,hu]
theorem quY {e:TypeId} {z:V} (hu:P.underlying e=some .string):yO P e [z]=z:=by simp [yO,hu]
theorem qms(l:List UInt8):xo (S l)=l.length+1:=by simp [S,xo,ByteArray.size]
theorem qhc: ∀ {ys:List V} {y:V},y ∈ ys→xo y≤zf ys
 |x::xs,y,h=>by
  simp only [zf]
  rcases List.mem_cons.1 h with rfl|h
  ·omega
  ·have:=qhc h;omega
theorem qhb: ∀ {ys:List V},(∀ y ∈ ys,1≤xo y)→ys.length≤zf ys
 |[],_=>Nat.zero_le _
 |x::xs,h=>by
  simp only [zf,List.length_cons]
  have:=qhb (ys:=xs) fun y hy=>h y (by simp [hy])
  have:=h x (by simp)
  omega
theorem qkZ {α:Type} {R:α→V→Prop} {W:α→Prop}: ∀ {ys:List V},(∀ y ∈ ys,∃ t,R t y∧W t)→ ∃ ts,RL R ts ys∧ ∀ t ∈ ts,W t
 |[],_=>⟨[],rfl,by simp⟩
 |y::ys,h=>by
  obtain ⟨t,h1,h2⟩:=h y (by simp)
  obtain ⟨ts,h3,h4⟩:=qkZ (ys:=ys) fun z hz=>h z (by simp [hz])
  refine ⟨t::ts,by simp only [RL];exact ⟨y,ys,rfl,h1,h3⟩,fun u hu=> ?_⟩
  rcases List.mem_cons.1 hu with rfl|hu
  ·exact h2
  ·exact h4 u hu
structure TyTerm (P:Program) (tT tS ti ts:TypeId):Prop where
 hT: ∃ fs,P.underlying tT=some (.struct fs)∧fs.toList.map (·.type)=[ti,ts,ti,tS]
 hS:P.underlying tS=some (.slice tT)
 hi:P.underlying ti=some (.int .i64)
 hs:P.underlying ts=some .string
def RdC(P:Program) (t:TypeId) {α:Type} (Rc:α→List V→Prop) (W:α→Prop):Prop:=
 ∀ n xs,Shp P n t xs→zf xs≤Lm→1≤zf xs∧ ∃ x,Rc x xs∧W x
def cI(n:Int) (xs:List V):Prop:=xs=[I n]
def cB(b:Bool) (xs:List V):Prop:=xs=[B b]
def cS(s:Str) (xs:List V):Prop:=xs=[S s]
def cA {α:Type} (R:α→V→Prop) (x:α) (xs:List V):Prop:=R x (.a xs)
def cL {α:Type} (R:α→V→Prop) (l:List α) (xs:List V):Prop:= ∃ vs,xs=[.i false vs]∧RL R l vs
def wL {α:Type} (W:α→Prop) (l:List α):Prop:=l.length≤Lm∧ ∀ x ∈ l,W x
theorem qfB {t:TypeId} (hu:P.underlying t=some .string):RdC P t cS (fun s=>s.length≤Lm):=fun n xs h hb=>by
 obtain ⟨k,rfl⟩:=qtY hu h
 simp only [zf,qms]at hb ⊢
 exact ⟨by omega,k,rfl,by omega⟩
theorem qem {e:TypeId}: ∀ (zs:List V),(yu P e=false→ ∃ z,zs=[z])→xo (yO P e zs)=zf zs:=by
 intro zs hz
 unfold yO
 unfold yu at hz
 split
 ·simp [xo]
 ·rename_i hq
  obtain ⟨z,rfl⟩:=hz (by split;(rename_i fs hu;exact absurd hu (hq fs));rfl)
  simp [zf]
theorem qsO {α:Type} {Rc:α→List V→Prop} {R:α→V→Prop} {W:α→Prop} {tl te:TypeId} (hu:P.underlying tl=some (.slice te)) (he:RdC P te Rc W) (hw: ∀ x zs,Rc x zs→R x (yO P te zs)∧(yu P te=false→ ∃ z,zs=[z])):
 RdC P tl (cL R) (wL W):=fun n xs h hb=>by
 obtain ⟨m,ys,rfl,rfl,hys⟩:=qtX hu h
 have e3:zf [V.i false ys]=zf ys+1:=by simp [xo,zf]
 rw [e3]at hb ⊢
 have hall: ∀ y ∈ ys,1≤xo y∧ ∃ t,R t y∧W t:=by
  intro y hy
  obtain ⟨zs,hz,rfl⟩:=hys y hy
  have hle:=qhc hy
  obtain ⟨x0,hx0⟩: ∃ x,Rc x zs∧W x∧1≤zf zs:=by
   by_cases hbz:zf zs≤Lm
   ·obtain ⟨h1,x,h2,h3⟩:=he m zs hz hbz;exact ⟨x,h2,h3,h1⟩
   ·exfalso
    apply hbz
    cases hst:yu P te
    ·have: ∃ z,zs=[z]:=by
      unfold yu at hst
      cases m with
      |zero=>simp [Shp]at hz
      |succ m=>
       simp only [Shp]at hz
       split at hz
       ·obtain ⟨b,rfl⟩:=hz;exact ⟨_,rfl⟩
       ·obtain ⟨b,rfl,-⟩:=hz;exact ⟨_,rfl⟩
       ·obtain ⟨b,rfl⟩:=hz;exact ⟨_,rfl⟩
       ·obtain ⟨b,rfl,-⟩:=hz;exact ⟨_,rfl⟩
       ·rename_i fs hu';rw [hu']at hst;cases hst
       ·exact hz.elim
     have:=qem (P:=P) (e:=te) zs (fun _=>this)
     omega
    ·have:=qem (P:=P) (e:=te) zs (fun h=>by rw [hst]at h;cases h)
     omega
  obtain ⟨h1,h2⟩:=hw x0 zs hx0.1
  rw [qem zs h2]
  exact ⟨hx0.2.2,x0,h1,hx0.2.1⟩
 obtain ⟨us,hr,hws⟩:=qkZ (R:=R) (W:=W) fun y hy=>(hall y hy).2
 have hlen:=qhb fun y hy=>(hall y hy).1
 have hl:=yp hr
 exact ⟨by omega,us,⟨ys,rfl,hr⟩,by omega,hws⟩
theorem quX {α:Type} {R:α→V→Prop} {te:TypeId} (hu: ∃ fs,P.underlying te=some (.struct fs)): ∀ (x:α) (zs:List V),cA R x zs→R x (yO P te zs)∧(yu P te=false→ ∃ z,zs=[z]):=fun x zs h=>by
 obtain ⟨fs,hu⟩:=hu
 rw [quZ hu]
 exact ⟨h,fun hs=>by unfold yu at hs;rw [hu]at hs;cases hs⟩
end
end Go.Vm
namespace Go.Vm
section
variable [Lay] {P:Program} {E:Env} {c:Cnt} {w':World}
structure Adds (w w':World):Prop where
 os:w'.os=w.os
 tape:w'.tape=w.tape
 output:w'.output=w.output
 size:w.heap.size≤w'.heap.size
 old: ∀ b,b < w.heap.size→w'.heap[b]? =w.heap[b]?
theorem Adds.refl(w:World):Adds w w:=⟨rfl,rfl,rfl,Nat.le_refl _,fun _ _=>rfl⟩
theorem Adds.adv(h:Adds E.w w') (hg:Good E c):Mono E {E with w:=w'} c∧Good {E with w:=w'} c∧Adv E c {E with w:=w'} c:=by
 refine ⟨⟨fun τ b hb=>⟨hb,h.old b (hg.imm τ b hb).2⟩,fun b hb=>h.old b (hg.bnd b hb),fun k l h=>h⟩,
  ⟨hg.one,fun τ b hb=>⟨(hg.imm τ b hb).1,Nat.lt_of_lt_of_le (hg.imm τ b hb).2 h.size⟩,hg.sub,fun b hb=>Nat.lt_of_lt_of_le (hg.bnd b hb) h.size,hg.lay.next (fun b hb=>hb) (fun b hb=>h.old b (hg.imm false b hb).2)⟩,
  ⟨fun b n hn=>by rw [qb9 (h.old b (qek hn))];exact hn,h.os,h.tape,h.output,h.size,fun b hb _=>h.old b hb,fun _ _ h=>h,fun b hb=> .inl hb,fun τ b hb=> .inl hb⟩⟩
theorem qsx {f:Nat} {fn:Func} {xs:List V} {r:V} {x:Value} (hfn:P.funcs[f]? =some fn) (hb:fn.body.isSome=true) (hn:(fn.name== "runtime.NumGoroutine")=false) (hr:r= .v x) (hx:yz x=false)
 (h: ∀ (E:Env) (vs:List Value),qk E.cl xs vs c0→Lay.L E.w→Calls P f vs.toArray E.w fun e w'=>e= .returned x∧Adds E.w w') (hz: ∀ (E:Env) vs c,qk E.cl xs vs c→c=c0):
 Je P f xs r xs:=by
 intro E vs c hxs hg
 have h0:=hz E vs c hxs
 subst h0
 obtain ⟨code,hcode⟩:=Option.isSome_iff_exists.1 hb
 have hne:fn.name ≠ "runtime.NumGoroutine" :=by simpa using hn
 have hcf:(callFunc f vs.toArray).run P E.w= .ok (.enter f vs.toArray) E.w:=by
  simp [callFunc,hfn,hne,hcode]
 rw [hcf]
 refine ⟨rfl,(h E vs hxs hg.lay.ll).mono ?_⟩
 rintro e w' ⟨rfl,ha⟩
 obtain ⟨hm,hg',hA⟩:=ha.adv hg
 refine ⟨x,rfl,{E with w:=w'},c0,c0,rfl, ?_,y8 hxs (hm.cl), ?_, ?_⟩
 ·subst hr;simp [Rel,hx]
 ·rw [Zz];exact hg'
 ·rw [Zz];exact hA
end
def qE4:List V→Option (V × List V)
 |[.v (.int .i64 n)]=>if -9223372036854775808≤n∧n≤9223372036854775807 then some (S (Lib.itoa n),[I n])else none
 |_=>none
theorem qhC {prog:Nat→Option AE} {f:Nat} {g:List V→Option (V × List V)} (h:prog f=some (.prim g)) (xs:List V):cw prog f xs=g xs:=by
 apply kY
 intro r
 rw [ZC]
 constructor
 ·rintro ⟨n,hn⟩
  cases n with
  |zero=>simp [qV]at hn
  |succ n=>simpa only [qV,h]using hn
 ·intro hr
  exact ⟨1,by simpa only [qV,h]using hr⟩
def qaJ:List V→Option (V × List V)
 |[.v (.string s),.v (.int .u8 c)]=>some (I (Lib.indexByte s.data.toList c.toNat.toUInt8),[.v (.string s),.v (.int .u8 c)])
 |_=>none
theorem qmH {prog:Nat→Option AE} {f:Nat} (h:prog f=some (.prim qaJ)) (s:Str) (c:Int):cr prog f [S s,U8 c]=some (I (Lib.indexByte s c.toNat.toUInt8)):=by
 unfold cr
 rw [qhC h]
 rfl
def quy:V→Option Str
 | .v (.string s)=>some s.data.toList
 |_=>none
def qlA:List V→Option (List Str)
 |[]=>some []
 |x::xs=>match quy x,qlA xs with
  |some s,some ss=>some (s::ss)
  |_,_=>none
def qE7:List V→Option (V × List V)
 |[.i τ xs,.v (.string p)]=>match qlA xs with
  |some ss=>if xs.length≤140737488355328∧(Lib.join ss p.data.toList).length≤140737488355328 then some (S (Lib.join ss p.data.toList),[.i τ xs,.v (.string p)])else none
  |none=>none
 |_=>none
def qKM:List V→Option (V × List V)
 |[.v (.string s),.v (.string p)]=>match p.data.toList with
  |[c]=>if c.toNat < 128∧s.size≤9223372036854775807 then some (S (Lib.trimB s.data.toList c),[.v (.string s),.v (.string p)])else none
  |_=>none
 |_=>none
def qKE:List V→Option (V × List V)
 |[.v (.string s),.v (.string p)]=>match p.data.toList with
  |[c]=>if s.size < 4294967281 then some (.i false ((Lib.split s.data.toList [c]).map S),[.v (.string s),.v (.string p)])else none
  |_=>none
 |_=>none
end Go.Vm
