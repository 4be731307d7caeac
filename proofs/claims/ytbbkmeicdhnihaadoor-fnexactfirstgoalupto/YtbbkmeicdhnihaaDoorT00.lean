import Derived.Calls
import Derived.Orders
import Derived.Wp
import Derived.Laws.Cells
set_option autoImplicit false
namespace Go.Vm
abbrev Key:=Nat × Nat
inductive V where
 |v (x:Value)
 |p (k:Key) (idx off:Nat)
 |s (k:Key) (lo len:Nat)
 |q (τ:Bool) (xs:List V) (idx off:Nat)
 |i (τ:Bool) (xs:List V)
 |o (e:Nat) (xs:List V)
 |n (e:Nat)
 |b (x:V)
 |f (fn:Fn) (first caps:List V)
 |a (cs:List V)
 |t (vs:List V)
 |m (k:Key)
 |w (o:Option Bool) (es:List (Int × Int))
 |d
 deriving Inhabited
def V.cells:V→List V
 | .a cs=>cs
 |x=>[x]
def V.dead:V→Bool
 | .d=>true
 |_=>false
def V.isA:V→Bool
 | .a _=>true
 |_=>false
def zM:Value→Bool
 | .agg _=>true
 |_=>false
def V.one:V→Bool
 | .v x=>x.oneCell
 | .a _| .t _| .d=>false
 |_=>true
inductive AO where
 |t (n:Nat)
 |c (x:V)
inductive Md where
 |ro (fz:Bool)
 |io (fz:Bool)
inductive AI where
 |mv (d:Nat) (x:AO)
 |pick (d:Nat) (c a b:AO)
 |new (d:Nat) (x:AO)
 |build (d:Nat) (z:V) (parts:List (Nat × Nat × AO))
 |mks (d:Nat) (e:Nat) (parts:List AO)
 |mk (d:Nat) (e:Nat) (z:V) (bytes:Nat) (len cap:AO)
 |ld (d:Nat) (agg:Bool) (size:Nat) (a:AO)
 |ldq (d:Nat) (agg:Bool) (size:Nat) (a:AO)
 |st (size:Nat) (a x:AO)
 |nilc (d:Nat) (x:AO)
 |bin (d:Nat) (op:BinOp) (x y:AO)
 |eqs (d:Nat) (k:Nat) (neg:Bool) (x y:AO)
 |un (d:Nat) (op:UnOp) (x:AO)
 |sl (d:Nat) (e:Nat) (x:AO) (lo hi:Option AO)
 |ssl (d:Nat) (x:AO) (lo hi:Option AO)
 |slen (d:Nat) (x:AO)
 |fa (d:Nat) (x:AO) (off:Nat)
 |fld (d:Nat) (agg:Bool) (size:Nat) (x:AO) (off:Nat)
 |ia (d:Nat) (e:Nat) (x i:AO)
 |ix (d:Nat) (x i:AO)
 |ext (d:Nat) (x:AO) (i:Nat)
 |fun (d:Nat) (fn:Fn) (first caps:List AO)
 |call (d:Option Nat) (f:AO) (args:List AO) (m:Md)
 |app (d:Nat) (e bytes:Nat) (x y:AO)
 |len (d:Nat) (x:AO)
 |mx (d:Nat) (max:Bool) (args:List AO)
 |cpy (d:Option Nat) (x y:AO)
 |int (d:Nat) (k:IntKind) (x:AO)
 |str (d:Nat) (x:AO)
 |byt (d:Nat) (x:AO)
 |mkm (d:Nat)
 |mset (m k v:AO)
 |mget (d:Nat) (m k:AO)
 |men (d:Nat) (m k:AO)
 |mes (m s v:AO)
 |gd (j:Nat) (want:Bool) (d:Option Nat) (i:AI)
structure Dp where
 k:Nat
 ks:List Key
inductive AC where
 |reg (is:List AI)
 |dreg (plan:List Dp) (is:List AI)
 |seq (x y:AC)
 |cond (x:AO) (thn els:AC)
 |block (id:Nat) (x:AC)
 |loop (live:List Nat) (keys:List Key) (x:AC)
 |opn (os:List (Nat × Key × Nat)) (x:AC)
 |opd (os:List (Nat × Nat × Option Nat)) (x:AC)
 |nam (ls:List Nat) (ks:List Key) (x:AC)
 |keep (ls:List Nat) (x:AC)
 |exit (id:Nat)
 |ret
 |skip
inductive AR where
 |tmp (t:Nat)
 |cell (t:Nat) (agg:Bool) (size:Nat)
structure AF where
 nargs:Nat
 ntmps:Nat
 res:List AR
 body:AC
abbrev Ob:=Nat × List V
abbrev Sl:=List (Nat × V)
abbrev Mem:=List (Key × Ob)
structure St where
 σ:Sl
 T:Mem
def qw:Sl→Nat→Option V
 |[],_=>none
 |(u,x)::r,t=>if u=t then some x else qw r t
def qp:Mem→Key→Option Ob
 |[],_=>none
 |(u,x)::r,k=>if u=k then some x else qp r k
def qy:Mem→Key→Mem
 |[],_=>[]
 |(u,x)::r,k=>if u=k then r else (u,x)::qy r k
def qfn:Mem→Key→Ob→Mem
 |[],_,_=>[]
 |(u,x)::r,k,y=>if u=k then (u,y)::r else (u,x)::qfn r k y
def St.put(st:St) (d:Nat) (x:V):St:={st with σ:=(d,x)::st.σ}
mutual
def qA(d:Nat):V→V
 | .p k idx off=>if k.1=d then .d else .p k idx off
 | .s k lo len=>if k.1=d then .d else .s k lo len
 | .f fn first caps=> .f fn (qz d first) (qz d caps)
 | .a cs=> .a (qz d cs)
 | .t vs=> .t (qz d vs)
 | .m k=>if k.1=d then .d else .m k
 |x=>x
def qz(d:Nat):List V→List V
 |[]=>[]
 |x::xs=>qA d x::qz d xs
end
def yM(d:Nat):Sl→Sl
 |[]=>[]
 |(t,x)::r=>(t,qA d x)::yM d r
def kW(d:Nat):Mem→Mem
 |[]=>[]
 |(k,e,xs)::r=>(k,e,qz d xs)::kW d r
mutual
def clB:V→Bool
 | .v _| .q .. | .i .. | .o .. | .b .. | .n _| .w .. =>true
 | .f _ first caps=>yI first&&yI caps
 |_=>false
def yI:List V→Bool
 |[]=>true
 |x::xs=>clB x&&yI xs
end
def clE:V→Bool
 | .a cs=>yI cs
 |x=>clB x
def qu:List V→Bool
 |[]=>true
 |x::xs=>clE x&&qu xs
def z8(k:Key) (ob:Ob):V→Option V
 | .s k' lo len=>if k'=k∧lo=0∧len=ob.2.length then some (.o ob.1 ob.2)else none
 | .p k' idx off=>if k'=k∧idx=0∧off=0 then (match ob.2 with|[y]=>some (.b y)|_=>none)else none
 |_=>none
def xc(k:Key) (ob:Ob):List V→Option (List V)
 |[]=>none
 |x::r=>match z8 k ob x with
  |some x'=>some (x'::r)
  |none=>(xc k ob r).map (x:: ·)
def xd(k:Key) (ob:Ob):V→Option V
 | .a cs=>(xc k ob cs).map .a
 |x=>z8 k ob x
def zD(k:Key) (ob:Ob):List V→Option (List V)
 |[]=>none
 |x::r=>match xd k ob x with
  |some x'=>some (x'::r)
  |none=>(zD k ob r).map (x:: ·)
def xL(k:Key) (ob:Ob):Mem→Mem
 |[]=>[]
 |(u,e,xs)::r=>match zD k ob xs with
  |some xs'=>(u,e,xs')::r
  |none=>(u,e,xs)::xL k ob r
def Je(T:Mem) (k:Key):Mem:=
 match qp T k with
 |none=>T
 |some ob=>if qu ob.2 then xL k ob (qy T k)else qy T k
def XH:List Key→Mem→Mem
 |[],T=>T
 |k::ks,T=>XH ks (Je T k)
def ZO(d:Nat):Mem→List Key
 |[]=>[]
 |(k,_)::r=>if k.1=d then k::ZO d r else ZO d r
def qaz(ks:List Key):Mem→List Key
 |[]=>[]
 |(k,_)::r=>if ks.contains k then qaz ks r else k::qaz ks r
def kS(d:Nat):Mem→Mem
 |[]=>[]
 |(k,x)::r=>if k.1=d then kS d r else (k,x)::kS d r
def q9(d:Nat) (st:St):St:=
 {σ:=yM d st.σ,T:=kW d (kS d (XH (ZO d st.T) st.T))}
def zl(σ:Sl):List Nat→Sl
 |[]=>[]
 |t::r=>match qw σ t with
  |some x=>(t,x)::zl σ r
  |none=>zl σ r
def yi(T:Mem):List Key→Mem
 |[]=>[]
 |k::r=>match qp T k with
  |some x=>(k,x)::yi (qy T k) r
  |none=>yi T r
mutual
def yg:V→List Key
 | .p k _ _=>[k]
 | .s k _ _=>[k]
 | .m k=>[k]
 | .f _ first caps=>j1 first++j1 caps
 | .a cs=>j1 cs
 | .t vs=>j1 vs
 |_=>[]
def j1:List V→List Key
 |[]=>[]
 |x::xs=>yg x++j1 xs
end
def yK:Sl→List Key
 |[]=>[]
 |(_,x)::r=>yg x++yK r
def yL(k:Key):List Key→Bool
 |[]=>false
 |u::r=>if u=k then true else yL k r
def qaP(ks:List Key):Mem→List Key
 |[]=>[]
 |(k,_)::r=>if yL k ks=true then qaP ks r else k::qaP ks r
def qbe(T:Mem) (k:Key):Mem:=
 match qp T k with
 |none=>T
 |some ob=>if qu ob.2 then xL k ob (qy T k)else T
def qe4:List Key→Mem→Mem
 |[],T=>T
 |k::ks,T=>qe4 ks (qbe T k)
def CN:Nat:=100000
def NB:Nat:=200000
mutual
def qI(d i:Nat) (nm:Bool):V→V
 | .p k a b=>if NB≤k.1 then .d else .p k a b
 | .s k a b=>if NB≤k.1 then .d else .s k a b
 | .m k=>if NB≤k.1 then .d else .m k
 | .f fn x y=> .f fn (zN d i false x) (zN d i false y)
 | .a cs=> .a (zN d i nm cs)
 | .t vs=> .t (zN d i false vs)
 | .n e=>if nm then .s (d,i) 0 0 else .n e
 |x=>x
def zN(d i:Nat) (nm:Bool):List V→List V
 |[]=>[]
 |x::xs=>qI d i nm x::zN d (i+1) nm xs
end
def k9(d:Nat):Nat→List V→Mem
 |_,[]=>[]
 |i,.n e::xs=>((d,i),e,[])::k9 d (i+1) xs
 |i,_::xs=>k9 d (i+1) xs
def zT(d i:Nat):V→Mem
 | .n e=>[((d,i),e,[])]
 | .a cs=>k9 d i cs
 |_=>[]
def y8:Sl→Sl
 |[]=>[]
 |(t,x)::r=>(t,qI (NB+t) 0 true x)::y8 r
def xJ:Sl→Mem
 |[]=>[]
 |(t,x)::r=>zT (NB+t) 0 x++xJ r
def xI(d i:Nat) (bx:Bool):List V→List V
 |[x]=>if bx then [qI d i true x]else (if clE x then [x]else [qI 0 0 false x])
 |xs=>if qu xs then xs else zN 0 0 false xs
def QN(d i:Nat) (bx:Bool):List V→Mem
 |[x]=>if bx then zT d i x else []
 |_=>[]
def yq(bx:List Key):Mem→Mem
 |[]=>[]
 |(k,e,xs)::r=>if NB≤k.1 then yq bx r else
  QN (2*NB+k.1) (10*k.2) (yL k bx) xs++(k,e,xI (2*NB+k.1) (10*k.2) (yL k bx) xs)::yq bx r
def j3(k:Key):Nat→List Key→Option Nat
 |_,[]=>none
 |i,u::r=>if u=k then some i else j3 k (i+1) r
def yR(tb:List Key) (k:Key):Option Key:=
 match j3 k 0 tb with
 |some i=>some (CN,i)
 |none=>if k.1=CN then none else some k
mutual
def qR(tb:List Key):V→V
 | .p k a b=>match yR tb k with|some k'=> .p k' a b|none=> .d
 | .s k a b=>match yR tb k with|some k'=> .s k' a b|none=> .d
 | .m k=>match yR tb k with|some k'=> .m k'|none=> .d
 | .f fn x y=> .f fn (zV tb x) (zV tb y)
 | .a cs=> .a (zV tb cs)
 | .t vs=> .t (zV tb vs)
 |x=>x
def zV(tb:List Key):List V→List V
 |[]=>[]
 |x::xs=>qR tb x::zV tb xs
end
def jd(tb:List Key):Sl→Sl
 |[]=>[]
 |(t,x)::r=>(t,qR tb x)::jd tb r
def x9(tb:List Key):Mem→Mem
 |[]=>[]
 |(k,e,xs)::r=>match yR tb k with
  |some k'=>(k',e,if qu xs then xs else zV tb xs)::x9 tb r
  |none=>x9 tb r
def yo:Sl→List Key
 |[]=>[]
 |(_,.p k _ _)::r=>k::yo r
 |_::r=>yo r
def qaj:Option Ob→List Key
 |some (_,[x])=>yg x
 |_=>[]
def yH(T:Mem):List Key→List Key
 |[]=>[]
 |k::r=>qaj (qp T k)++yH T r
def xG(n:Nat):List Key→List Key
 |[]=>[]
 |k::r=>if n≤k.1 then k::xG n r else xG n r
def Y5:List Key→Nat
 |(n,_)::_=>n
 |[]=>0
def jX(n:Nat) (bx:List Key) (σ:Sl) (T:Mem):St:=
 {σ:=jd (xG n (yK (y8 σ)++yH (xJ σ++yq bx T) bx)) (y8 σ),
  T:=x9 (xG n (yK (y8 σ)++yH (xJ σ++yq bx T) bx)) (yi (xJ σ++yq bx T) (yK (y8 σ)++yH (xJ σ++yq bx T) bx))}
def qx(g:Mem→V→V × Mem):Mem→List V→List V × Mem
 |T,[]=>([],T)
 |T,x::xs=>((g T x).1::(qx g (g T x).2 xs).1,(qx g (g T x).2 xs).2)
def qq:Nat→Mem→V→V × Mem
 |0,T,x=>(match x with| .a cs=> .a (cs.map fun _=> .d)|_=> .d,T)
 |n+1,T,x=>
  let es (T:Mem) (xs:List V):List V × Mem:=if qu xs then (xs,T)else qx (qq n) T xs
  match x with
  | .s k lo len=>match qp T k with
    |none=>(.d,T)
    |some ob=>if lo+len≤ob.2.length then
     (if lo=0 then (.o ob.1 (((es (qy T k) ob.2).1.drop lo).take len),(es (qy T k) ob.2).2)
     else (.o ob.1 (es (qy T k) ((ob.2.drop lo).take len)).1,(es (qy T k) ((ob.2.drop lo).take len)).2))else (.d,T)
  | .p k idx off=>match qp T k with
    |some (_,[x])=>if idx=0∧off=0 then (.b ((es (qy T k) [x]).1.headD .d),(es (qy T k) [x]).2)else (.d,T)
    |_=>(.d,T)
  | .f fn first caps=>
    let r:=qx (qq n) T first
    let r':=qx (qq n) r.2 caps
    (.f fn r.1 r'.1,r'.2)
  | .a cs=>let r:=qx (qq n) T cs;(.a r.1,r.2)
  | .t vs=>let r:=qx (qq n) T vs;(.t r.1,r.2)
  | .n e=>(.o e [],T)
  | .m k=>match qp T k with
    |some (_,[.w _ es])=>(.w none es,qy T k)
    |_=>(.d,T)
  |x=>(x,T)
def zt(n:Nat) (T:Mem) (x:V):V × Mem:=if clE x then (x,T)else qq n T x
def QA(T:Mem) (k:Key):Mem:=
 match qp T k with
 |none=>T
 |some ob=>if qu ob.2 then T else (k,ob.1,(qx (zt 30) (qy T k) ob.2).1)::(qx (zt 30) (qy T k) ob.2).2
def kR(bx:List Key):List Key→Mem→Mem
 |[],T=>T
 |k::ks,T=>kR bx ks (if yL k bx then T else QA T k)
def QZ(bx k0:List Key) (T:Mem):Mem:=yi (kR bx k0 T) k0
def xb(ls:List Nat) (ks:List Key) (st:St):St:=
 jX (Y5 ks) (yo (zl st.σ ls)) (zl st.σ ls) (QZ (yo (zl st.σ ls)) (yK (zl st.σ ls)++yH st.T (yo (zl st.σ ls))) st.T)
mutual
def qM(τ:Bool):V→V
 | .o _ xs=> .i τ (qO τ xs)
 | .n _=> .i τ []
 | .b x=> .q τ [qM τ x] 0 0
 | .f fn first caps=> .f fn (qO τ first) (qO τ caps)
 | .a cs=> .a (qO τ cs)
 | .t vs=> .t (qO τ vs)
 | .w none es=> .w (some τ) es
 |x=>x
def qO(τ:Bool):List V→List V
 |[]=>[]
 |x::xs=>qM τ x::qO τ xs
end
mutual
def qP:V→Bool
 | .q τ xs _ _=> !τ&&qW xs
 | .i τ xs=> !τ&&qW xs
 | .o _ xs=>qW xs
 | .b x=>qP x
 | .f _ first caps=>qW first&&qW caps
 | .a cs=>qW cs
 | .t vs=>qW vs
 | .w (some τ) _=> !τ
 | .v _| .d| .n _| .w none _=>true
 | .p .. | .s .. | .m _=>false
def qW:List V→Bool
 |[]=>true
 |x::xs=>qP x&&qW xs
end
mutual
def qZ:V→Bool
 | .o .. | .b _| .w none _=>false
 | .f _ first caps=>ya first&&ya caps
 | .a cs=>ya cs
 | .t vs=>ya vs
 |_=>true
def ya:List V→Bool
 |[]=>true
 |x::xs=>qZ x&&ya xs
end
def zd(d:Nat) (j:Nat):V→V × Nat × Mem
 | .o e xs=>(.s (d,j) 0 xs.length,j+1,[((d,j),e,xs)])
 | .b x=>(.p (d,j) 0 0,j+1,[((d,j),x.cells.length,[x])])
 | .w none es=>(.m (d,j),j+1,[((d,j),0,[.w (some true) es])])
 |x=>(if qZ x then x else .d,j,[])
def zb(d:Nat):Nat→List V→List V × Nat × Mem
 |j,[]=>([],j,[])
 |j,x::xs=>((zd d j x).1::(zb d (zd d j x).2.1 xs).1,(zb d (zd d j x).2.1 xs).2.1,(zd d j x).2.2++(zb d (zd d j x).2.1 xs).2.2)
def qG(d:Nat) (j:Nat):V→V × Nat × Mem
 | .a cs=>(.a (zb d j cs).1,(zb d j cs).2)
 | .f fn first caps=>(.f fn (zb d j first).1 (zb d (zb d j first).2.1 caps).1,(zb d (zb d j first).2.1 caps).2.1,(zb d j first).2.2++(zb d (zb d j first).2.1 caps).2.2)
 |x=>zd d j x
def xn(d:Nat):Nat→List V→List V × Nat × Mem
 |j,[]=>([],j,[])
 |j,x::xs=>((qG d j x).1::(xn d (qG d j x).2.1 xs).1,(xn d (qG d j x).2.1 xs).2.1,(qG d j x).2.2++(xn d (qG d j x).2.1 xs).2.2)
def zK(d:Nat):V→V × Mem
 | .t vs=>(.t (xn d 0 vs).1,(xn d 0 vs).2.2)
 |x=>((qG d 0 x).1,(qG d 0 x).2.2)
def jW(d:Nat) (x:V) (st:St):St:=
 if !qZ x then {σ:=(d,(zK d x).1)::(q9 d st).σ,T:=(zK d x).2++(q9 d st).T} else st.put d x
def ev(σ:Sl):AO→Option V
 | .t n=>qw σ n
 | .c x=>some x
def evL(σ:Sl):List AO→Option (List V)
 |[]=>some []
 |x::xs=>match ev σ x,evL σ xs with
  |some y,some ys=>some (y::ys)
  |_,_=>none
def qT(agg:Bool) (n:Nat) (x:V) (off:Nat):Option V:=
 if agg then
  if off=0∧x.cells.length=n∧x.isA then some x
  else if off+n≤x.cells.length then some (.a ((x.cells.drop off).take n))else none
 else x.cells[off]?
def zB:List V→Bool
 |[]=>true
 |x::xs=>x.one&&zB xs
def jE(x:V) (off:Nat) (y:V):Option V:=
 if off=0∧y.cells.length=x.cells.length then some y
 else if off+y.cells.length≤x.cells.length then some (.a (x.cells.take off++y.cells++x.cells.drop (off+y.cells.length)))
 else none
def _root_.Go.Sem.val? {α:Type}:Sem α→Option α
 | .pure a=>some a
 |_=>none
def lim:Nat:=1099511627776
def xV(T:Mem) (e:Nat):V→Option (List V)
 | .s k lo len=>match qp T k with
   |some ob=>if ob.1=e∧lo+len≤ob.2.length then some ((ob.2.drop lo).take len)else none
   |none=>none
 | .i _ xs=>some xs
 | .n _=>some []
 |_=>none
def Kj(c:UInt8):V:= .v (.int .u8 c.toNat)
def xD:List V→Option (List UInt8)
 |[]=>some []
 | .v (.int .u8 n)::r=>match xD r with
   |some l=>some (UInt8.ofNat n.toNat::l)
   |none=>none
 |_=>none
def jy:V→Option Nat
 | .s _ _ len=>some len
 | .i _ xs=>some xs.length
 | .n _=>some 0
 |_=>none
def zX:V:= .v (.tuple #[])
abbrev qS:=Nat→List V→Option (V × List V)
def xr(T:Mem):List V→List V
 |[]=>[]
 |x::xs=>qM true (qq 30 T x).1::xr T xs
def yw(T:Mem):V→V→Mem
 | .s k lo _,.o e xs=>match qp T k with
   |some ob=>if lo=0∧ob.1=e then [(k,e,xs)]else []
   |none=>[]
 | .p k idx off,.b x=>match qp T k with
   |some ob=>if idx=0∧off=0∧ob.1=x.cells.length then [(k,x.cells.length,[x])]else []
   |none=>[]
 |_,_=>[]
def kO(T:Mem):List V→List V→Mem
 |x::xs,y::ys=>yw T x y++kO T xs ys
 |_,_=>[]
def kr(T:Mem):V→V→Mem
 | .a cs,.a ds=>kO T cs ds
 | .f _ fs cs,.f _ gs ds=>kO T fs gs++kO T cs ds
 |x,y=>yw T x y
def jq(T:Mem):List V→List V→Mem
 |x::xs,y::ys=>kr T x y++jq T xs ys
 |_,_=>[]
def callee:V→Option (Nat × List V × List V)
 | .f (.func f) first caps=>some (f,first,caps)
 |_=>none
def xi:Option Nat→V→St→St
 |some d,x,st=>jW d x st
 |none,_,st=>st
def fzV(fz:Bool) (x:V):V:=if fz then qM false x else x
def xk(call:qS) (d:Option Nat) (g:Nat) (xs:List V) (m:Md) (st:St):Option St:=
 match m with
 | .ro fz=>
   match call g (xr st.T xs)with
   |some (r,_)=>if qP r then some (xi d (fzV fz r) st)else none
   |none=>none
 | .io fz=>
   match call g (qx (qq 30) st.T xs).1 with
   |some (r,outs)=>some (xi d (fzV fz r) {σ:=st.σ,T:=jq st.T xs outs++(qx (qq 30) st.T xs).2})
   |none=>none
def quf:V→Option Int
 | .v (.int _ n)=>some n
 |_=>none
def q6(op:BinOp):V→V→Option V
 | .v (.int k a),.v (.int k' b)=>(binOp op 0 (.int k a) (.int k' b)).val?.map .v
 | .v (.string a),.v (.string b)=>(binOp op 0 (.string a) (.string b)).val?.map .v
 |_,_=>none
def eqA:Nat→List V→List V→Option Bool
 |c,[],[]=>if c=0 then some true else none
 |c,.v (.int k a)::xs,.v (.int k' b)::ys=>if c % 4=1∧k=k' then (eqA (c / 4) xs ys).map fun r=>(a==b)&&r else none
 |c,.v (.string a)::xs,.v (.string b)::ys=>if c % 4=2 then (eqA (c / 4) xs ys).map fun r=>(a==b)&&r else none
 |c,.v (.bool a)::xs,.v (.bool b)::ys=>if c % 4=3 then (eqA (c / 4) xs ys).map fun r=>(a==b)&&r else none
 |_,_,_=>none
def eqV:Nat→V→V→Option Bool
 |0,.v (.bool a),.v (.bool b)=>some (a==b)
 |1,.v (.pointer none),.v (.pointer none)=>some true
 |1,.v (.pointer none),.p .. |1,.v (.pointer none),.q .. |1,.p ..,.v (.pointer none)|1,.q ..,.v (.pointer none)=>some false
 |2,.n _,.n _=>some true
 |2,.i _ (_::_),.n _|2,.n _,.i _ (_::_)=>some false
 |2,.s _ _ (_+1),.n _|2,.n _,.s _ _ (_+1)=>some false
 |3,.f ..,.v .nilFunc|3,.v .nilFunc,.f .. =>some false
 |3,.v .nilFunc,.v .nilFunc=>some true
 |k+4,.a xs,.a ys=>eqA k xs ys
 |_,_,_=>none
def ku(σ:Sl):List V→List (Nat × Nat × AO)→Option (List V)
 |z,[]=>some z
 |z,(off,size,x)::r=>match ev σ x with
  |some y=>if y.dead=false∧y.cells.length=size∧off+size≤z.length then ku σ (z.take off++y.cells++z.drop (off+size)) r else none
  |none=>none
def zf(k:Int):List (Int × Int)→Option Int
 |[]=>none
 |(a,b)::r=>if a=k then some b else zf k r
def zU(k v:Int):List (Int × Int)→List (Int × Int)
 |[]=>[(k,v)]
 |(a,b)::r=>if a=k then (k,v)::r else (a,b)::zU k v r
def zc(k:Int):List (Int × Int)→Nat
 |[]=>0
 |(a,_)::r=>if a=k then 0 else zc k r+1
def yp(T:Mem):V→Option (List (Int × Int))
 | .w (some _) es=>some es
 | .m k=>match qp T k with
   |some (_,[.w _ es])=>some es
   |_=>none
 |_=>none
def kd(T:Mem) (x:V) (es:List (Int × Int)):Option Mem:=
 match x with
 | .m k=>match qp T k with
   |some _=>some ((k,0,[.w (some true) es])::qy T k)
   |none=>none
 |_=>none
def zI(i:Int) (n:Nat):Option Nat:=if 0≤i∧i < n then some i.toNat else none
def yZ(d:Nat):Option V→Option Nat
 |none=>some d
 |some (.v (.int _ i))=>if 0≤i then some i.toNat else none
 |_=>none
def evO(σ:Sl):Option AO→Option (Option V)
 |none=>some none
 |some x=>(ev σ x).map some
def Xk(e:Nat):List V→Bool
 |[]=>true
 |x::_=>x.cells.length==e
def Qb(T:Mem) (e:Nat) (x:V) (lo hi:Option V):Option V:=
 match jy x with
 |none=>none
 |some n=>match yZ 0 lo,yZ n hi with
  |some l,some h=>if l≤h∧h≤n then
   match x with
   | .s k l0 _=>match qp T k with
     |some ob=>if ob.1=e then some (.s k (l0+l) (h - l))else none
     |none=>none
   | .i τ xs=>if Xk e xs then some (.i τ ((xs.drop l).take (h - l)))else none
   | .n e=>some (.n e)
   |_=>none
   else none
  |_,_=>none
def yb(T:Mem) (e:Nat) (x:V) (i:Int):Option V:=
 match x with
 | .s k lo len=>match qp T k with
   |some ob=>if ob.1=e∧lo+len≤ob.2.length then (zI i len).map fun j=> .p k (lo+j) 0 else none
   |none=>none
 | .i τ xs=>match zI i xs.length with
   |some j=>if (xs[j]?.getD .d).cells.length=e then some (.q τ xs j 0)else none
   |none=>none
 |_=>none
def yN(T:Mem) (agg:Bool) (size:Nat):V→Option V
 | .p k idx off=>match qp T k with
   |some ob=>match ob.2[idx]? with
    |some x=>qT agg size x off
    |none=>none
   |none=>none
 | .q _ xs idx off=>match xs[idx]? with
   |some x=>qT agg size x off
   |none=>none
 |_=>none
def jF(T:Mem) (a y:V):Option Mem:=
 match a with
 | .p k idx off=>match qp T k with
   |some ob=>match ob.2[idx]? with
    |some x=>match jE x off y with
     |some x'=>some ((k,ob.1,ob.2.set idx x')::qy T k)
     |none=>none
    |none=>none
   |none=>none
 |_=>none
def kN(T:Mem) (e:Nat) (x:V):Option (List V × Mem):=
 match x with
 | .n _=>some ([],T)
 | .s k lo len=>match qp T k with
   |some ob=>if ob.1=e∧lo+len≤ob.2.length then some ((ob.2.drop lo).take len,qy T k)else none
   |none=>none
 |_=>none
def ZH(T:Mem) (e:Nat) (y:V):Option (List V × Mem):=
 match xV T e y with
 |some ys=>if ya ys then some (ys,T)else kN T e y
 |none=>none
def qh(call:qS) (st:St):AI→Option St
 | .mv d x=>(ev st.σ x).map (st.put d)
 | .pick d c x y=>match ev st.σ c with
   |some (.v (.bool true))=>(ev st.σ x).map (st.put d)
   |some (.v (.bool false))=>(ev st.σ y).map (st.put d)
   |_=>none
 | .new d x=>match ev st.σ x with
   |some y=>if zB y.cells then
    some {σ:=(d,.p (d,0) 0 0)::(q9 d st).σ,T:=((d,0),y.cells.length,[qA d y])::(q9 d st).T}
    else none
   |none=>none
 | .build d z parts=>(ku st.σ z.cells parts).map fun cs=>st.put d (.a cs)
 | .mks d e parts=>match evL st.σ parts with
   |some ys=>if ys.all (fun y=>zB y.cells&&y.cells.length==e)then
    some {σ:=(d,.s (d,0) 0 ys.length)::(q9 d st).σ,T:=((d,0),e,qz d ys)::(q9 d st).T}
    else none
   |none=>none
 | .mk d e z bytes len cap=>match ev st.σ len,ev st.σ cap with
   |some (.v (.int _ l)),some (.v (.int _ c))=>
    if 0≤l∧l=c∧l*bytes≤lim∧l≤lim∧z.cells.length=e∧zB z.cells∧clE z then
     some {σ:=(d,.s (d,0) 0 l.toNat)::(q9 d st).σ,T:=((d,0),e,List.replicate l.toNat z)::(q9 d st).T}
    else none
   |_,_=>none
 | .ld d agg size a=>match ev st.σ a with
   |some p=>match yN st.T agg size p with
    |some y=>if !qZ y then
     match yN (q9 d st).T agg size p with
     |some y'=>match jF (q9 d st).T p (qG d 0 y').1 with
      |some T'=>some {σ:=(d,(qG d 0 y').1)::(q9 d st).σ,T:=(qG d 0 y').2.2++T'}
      |none=>none
     |none=>none
     else some (st.put d y)
    |none=>none
   |none=>none
 | .ldq d agg size a=>match ev st.σ a with
   |some p=>match yN st.T agg size p with
    |some y=>if qZ y then some (st.put d y)else none
    |none=>none
   |none=>none
 | .st size a x=>match ev st.σ a,ev st.σ x with
   |some p,some y=>if y.cells.length=size∧zB y.cells then (jF st.T p y).map fun T'=>{st with T:=T'} else none
   |_,_=>none
 | .nilc d x=>match ev st.σ x with
   |some (.p k idx off)=>some (st.put d (.p k idx off))
   |some (.q τ xs idx off)=>some (st.put d (.q τ xs idx off))
   |some (.f (.func g) first caps)=>some (st.put d (.f (.func g) first caps))
   |_=>none
 | .bin d op x y=>match ev st.σ x,ev st.σ y with
   |some x,some y=>(q6 op x y).map (st.put d)
   |_,_=>none
 | .eqs d k neg x y=>match ev st.σ x,ev st.σ y with
   |some x,some y=>(eqV k x y).map fun r=>st.put d (.v (.bool (r != neg)))
   |_,_=>none
 | .un d op x=>match ev st.σ x with
   |some (.v x)=>(Op.unary op x).val?.map fun r=>st.put d (.v r)
   |_=>none
 | .sl d e x lo hi=>match ev st.σ x,evO st.σ lo,evO st.σ hi with
   |some x,some lo,some hi=>(Qb st.T e x lo hi).map (st.put d)
   |_,_,_=>none
 | .ssl d x lo hi=>match ev st.σ x,evO st.σ lo,evO st.σ hi with
   |some (.v (.string s)),some lo,some hi=>match yZ 0 lo,yZ s.size hi with
    |some l,some h=>if l≤h∧h≤s.size then some (st.put d (.v (.string (s.extract l h))))else none
    |_,_=>none
   |_,_,_=>none
 | .slen d x=>match ev st.σ x with
   |some (.v (.string s))=>some (st.put d (.v (.int .i64 s.size)))
   |_=>none
 | .fa d x off=>match ev st.σ x with
   |some (.p k idx o)=>some (st.put d (.p k idx (o+off)))
   |some (.q τ xs idx o)=>some (st.put d (.q τ xs idx (o+off)))
   |_=>none
 | .fld d agg size x off=>match ev st.σ x with
   |some (.a cs)=>(qT agg size (.a cs) off).map (st.put d)
   |_=>none
 | .ia d e x i=>match ev st.σ x,ev st.σ i with
   |some x,some (.v (.int _ i))=>(yb st.T e x i).map (st.put d)
   |_,_=>none
 | .ix d x i=>match ev st.σ x,ev st.σ i with
   |some (.v (.string s)),some (.v (.int _ i))=>(zI i s.size).map fun j=>st.put d (Kj (s.data[j]?.getD 0))
   |_,_=>none
 | .ext d x i=>match ev st.σ x with
   |some (.t vs)=>(vs[i]?).map (st.put d)
   |_=>none
 | .fun d fn first caps=>match evL st.σ first,evL st.σ caps with
   |some a,some b=>some (st.put d (.f fn a b))
   |_,_=>none
 | .call d f args m=>match ev st.σ f with
   |some f=>match callee f,evL st.σ args with
    |some (g,first,caps),some xs=>xk call d g (first++xs++caps) m st
    |_,_=>none
   |none=>none
 | .app d e bytes x y=>match ev st.σ x,ev st.σ y with
   |some x,some y=>match ZH st.T e y with
    |some (ys,Ty)=>match kN Ty e x with
     |some (xs,T)=>
      if ys.all (fun y=>zB y.cells&&y.cells.length==e)&&decide ((xs.length+ys.length)*bytes≤lim)&&decide (xs.length+ys.length≤lim)then
       some {σ:=(d,.s (d,0) 0 (xs.length+ys.length))::(q9 d {st with T:=T}).σ,T:=((d,0),e,qz d (xs++ys))::(q9 d {st with T:=T}).T}
      else none
     |none=>none
    |none=>none
   |_,_=>none
 | .len d x=>match ev st.σ x with
   |some x=>(jy x).map fun n=>st.put d (.v (.int .i64 n))
   |none=>none
 | .mx d max args=>match evL st.σ args with
   |some [.v (.int k a),.v (.int _ b)]=>some (st.put d (.v (.int k (if max then (if b > a then b else a)else (if b < a then b else a)))))
   |_=>none
 | .cpy .. =>none
 | .int d k x=>match ev st.σ x with
   |some (.v (.int _ n))=>some (st.put d (.v (.int k (k.wrap n))))
   |_=>none
 | .str d x=>match ev st.σ x with
   |some x=>match xV st.T 1 x with
    |some xs=>(xD xs).map fun l=>st.put d (.v (.string ⟨l.toArray⟩))
    |none=>none
   |none=>none
 | .byt d x=>match ev st.σ x with
   |some (.v (.string s))=>if s.size≤lim then
    some {σ:=(d,.s (d,0) 0 s.size)::(q9 d st).σ,T:=((d,0),1,s.data.toList.map Kj)::(q9 d st).T}
    else none
   |_=>none
 | .mkm d=>some {σ:=(d,.m (d,0))::(q9 d st).σ,T:=((d,0),0,[.w (some true) []])::(q9 d st).T}
 | .mset m k v=>match ev st.σ m,ev st.σ k,ev st.σ v with
   |some m,some (.v (.int .i64 k)),some (.v (.int .i64 v))=>match yp st.T m with
    |some es=>(kd st.T m (zU k v es)).map fun T'=>{st with T:=T'}
    |none=>none
   |_,_,_=>none
 | .mget d m k=>match ev st.σ m,ev st.σ k with
   |some m,some (.v (.int .i64 k))=>(yp st.T m).map fun es=>st.put d (.v (.int .i64 ((zf k es).getD 0)))
   |_,_=>none
 | .men d m k=>match ev st.σ m,ev st.σ k with
   |some m,some (.v (.int .i64 k))=>match yp st.T m with
    |some es=>(kd st.T m (zU k ((zf k es).getD 0) es)).map fun T'=>{σ:=(d,.t [.v (.int .i64 ((zf k es).getD 0)),.v (.int .i64 (zc k es))])::st.σ,T:=T'}
    |none=>none
   |_,_=>none
 | .mes m s v=>match ev st.σ m,ev st.σ s,ev st.σ v with
   |some m,some (.v (.int .i64 s)),some (.v (.int .i64 v))=>match yp st.T m with
    |some es=>match zI s es.length with
     |some i=>(kd st.T m (es.modify i fun e=>(e.1,v))).map fun T'=>{st with T:=T'}
     |none=>none
    |none=>none
   |_,_,_=>none
 | .gd .. =>none
def qm(call:qS) (st:St):AI→Option St
 | .gd j want d i=>match qw st.σ j with
  |some (.v (.bool b))=>if b=want then qh call st i else some (match d with|some d=>st.put d zX|none=>st)
  |some (.v _)=>some (match d with|some d=>st.put d zX|none=>st)
  |_=>none
 |i=>qh call st i
def ym(call:qS):List AI→St→Option St
 |[],st=>some st
 |i::is,st=>match qm call st i with
  |some st'=>ym call is st'
  |none=>none
def qL:AO→List Nat
 | .t n=>[n]
 | .c _=>[]
def jg:Option AO→List Nat
 |some x=>qL x
 |none=>[]
def kH:List AO→List Nat
 |[]=>[]
 |x::xs=>qL x++kH xs
def Jq:List (Nat × Nat × AO)→List Nat
 |[]=>[]
 |(_,_,x)::xs=>qL x++Jq xs
def qK:AI→List Nat
 | .mv _ x| .new _ x| .ld _ _ _ x| .ldq _ _ _ x| .nilc _ x| .un _ _ x| .slen _ x| .fa _ x _| .fld _ _ _ x _| .ext _ x _| .len _ x| .int _ _ x| .str _ x| .byt _ x=>qL x
 | .mkm _=>[]
 | .pick _ a b c| .mset a b c| .mes a b c=>qL a++(qL b++qL c)
 | .build _ _ ps=>Jq ps
 | .mks _ _ ps| .mx _ _ ps=>kH ps
 | .mk _ _ _ _ a b| .st _ a b| .bin _ _ a b| .eqs _ _ _ a b| .ia _ _ a b| .ix _ a b| .app _ _ _ a b| .cpy _ a b| .mget _ a b| .men _ a b=>qL a++qL b
 | .sl _ _ x a b=>qL x++(jg a++jg b)
 | .ssl _ x a b=>qL x++(jg a++jg b)
 | .fun _ _ a b=>kH a++kH b
 | .call _ f xs _=>qL f++kH xs
 | .gd j _ _ i=>j::qK i
def qt:AI→Option Nat
 | .mv d _| .new d _| .ld d _ _ _| .ldq d _ _ _| .nilc d _| .un d _ _| .slen d _| .fa d _ _| .fld d _ _ _ _| .ext d _ _| .len d _| .int d _ _| .str d _| .byt d _
 | .pick d _ _ _| .build d _ _| .mks d _ _| .mx d _ _| .mk d _ _ _ _ _| .bin d _ _ _| .eqs d _ _ _ _| .ia d _ _ _| .ix d _ _| .app d _ _ _ _| .sl d _ _ _ _| .ssl d _ _ _| .fun d _ _ _| .mkm d| .mget d _ _| .men d _ _=>some d
 | .st .. | .mset .. | .mes .. =>none
 | .cpy d _ _| .call d _ _ _| .gd _ _ d _=>d
def yP(T:Mem):List Key→Mem
 |[]=>[]
 |k::r=>match qp T k with
  |some x=>(k,x)::yP T r
  |none=>yP T r
def Dp.own(p:Dp) (d:Option Nat) (k:Key):Bool:=(p.k==1&&p.ks.contains k)||(p.k != 0&&d==some k.1)
def qC(f:Key→Bool):Mem→Mem
 |[]=>[]
 |(k,x)::r=>if f k then (k,x)::qC f r else qC f r
def QK(p:Dp) (d:Option Nat) (T' T:Mem):Mem:=
 if p.k=0 then T else qC (p.own d) T'++qC (fun k=> !p.own d k) T
def yS(call:qS) (p:Dp) (i:AI) (st:St):Option St:=
 match qm call {σ:=zl st.σ (qK i),T:=yP st.T p.ks} i with
 |none=>none
 |some st'=>match qt i with
  |none=>some {σ:=st.σ,T:=QK p none st'.T st.T}
  |some d=>match qw st'.σ d with
   |some x=>some {σ:=(d,x)::st.σ,T:=QK p (some d) st'.T st.T}
   |none=>none
def zr(call:qS):List Dp→List AI→St→Option St
 |[],[],st=>some st
 |p::ps,i::is,st=>match yS call p i st with
  |some st'=>zr call ps is st'
  |none=>none
 |_,_,_=>none
def zF:List Dp→List AI→List Nat
 |p::ps,i::is=>if p.k=0 then zF ps is else (match qt i with|some d=>d::zF ps is|none=>zF ps is)
 |_,_=>[]
def yV:List Nat→St→St
 |[],st=>st
 |d::ds,st=>yV ds (q9 d st)
def j7:Mem→Bool
 |[]=>true
 |(k,_)::r=>(qp r k).isNone&&j7 r
def ZR(d:Nat) (k:Key) (i:Nat) (st:St):St:=
 match qp st.T k with
 |some ob=>match ob.2[i]? with
  |some x=>{σ:=st.σ,T:=(qG d 0 x).2.2++((k,ob.1,ob.2.set i (qG d 0 x).1)::qy st.T k)}
  |none=>st
 |none=>st
def xo:List (Nat × Key × Nat)→St→St
 |[],st=>st
 |(d,k,i)::r,st=>xo r (ZR d k i (q9 d st))
def xU(σ:Sl) (d r:Nat) (i:Option Nat):List (Nat × Key × Nat):=
 match qw σ r with
 |some (.p k idx _)=>match i with
  |none=>[(d,k,idx)]
  |some _=>[]
 |some (.s k lo _)=>match i with
  |some i=>match qw σ i with
   |some (.v (.int _ n))=>[(d,k,lo+n.toNat)]
   |_=>[]
  |none=>[]
 |_=>[]
def QE(st:St) (d r:Nat) (i:Option Nat):List (Nat × Key × Nat):=
 match i with
 |none=>[]
 |some i=>match qw st.σ r with
  |some (.p k _ _)=>match qp st.T k with
   |some (_,[.a (.s k' lo _::_)])=>match qw st.σ i with
    |some (.v (.int _ n))=>[(d,k',lo+n.toNat)]
    |_=>[]
   |_=>[]
  |_=>[]
def kE:List (Nat × Nat × Option Nat)→St→St
 |[],st=>st
 |(d,r,none)::os,st=>kE os (xo (xU st.σ d r none) st)
 |(d,r,some i)::os,st=>kE os (xo (xU st.σ d r (some i)) (xo (QE st d r (some i)) st))
inductive AX where
 |normal
 |exit (id:Nat)
 |ret
def qr(call:qS):Nat→AC→St→Option (AX × St)
 |0,_,_=>none
 |n+1,c,st=>match c with
  | .skip=>some (.normal,st)
  | .ret=>some (.ret,st)
  | .exit id=>some (.exit id,st)
  | .reg is=>(ym call is st).map fun st=>(.normal,st)
  | .dreg plan is=>match zr call plan is (yV (zF plan is) st)with
    |some st=>if j7 st.T then some (.normal,st)else none
    |none=>none
  | .seq x y=>match qr call n x st with
    |some (.normal,st')=>qr call n y st'
    |r=>r
  | .cond c x y=>match ev st.σ c with
    |some (.v (.bool true))=>qr call n x st
    |some (.v (.bool false))=>qr call n y st
    |_=>none
  | .block id x=>match qr call n x st with
    |some (.exit id',st')=>if id'=id then some (.normal,st')else some (.exit id',st')
    |r=>r
  | .opn os x=>qr call n x (xo os st)
  | .opd os x=>qr call n x (kE os st)
  | .nam ls ks x=>qr call n x (xb ls ks st)
  | .keep ls x=>qr call n x {σ:=zl st.σ ls,T:=st.T}
  | .loop ls ks x=>match qr call n x (xb ls ks st)with
    |some (.normal,st')=>qr call n (.loop ls ks x) st'
    |r=>r
def q7:Nat→List V→List V × Mem
 |_,[]=>([],[])
 |i,x::xs=>((zK i x).1::(q7 (i+1) xs).1,(zK i x).2++(q7 (i+1) xs).2)
def yu:Nat→List V→Sl
 |_,[]=>[]
 |i,x::xs=>(i,x)::yu (i+1) xs
def je(st:St):AR→Option (V × Mem)
 | .tmp t=>(qw st.σ t).map fun x=>(x,st.T)
 | .cell t agg size=>match qw st.σ t with
   |some (.p k 0 0)=>match qp st.T k with
    |some (_,[x])=>(qT agg size x 0).bind fun y=>if x.cells.length=y.cells.length then some (y,qy st.T k)else none
    |_=>none
   |_=>none
def yt(σ:Sl):Mem→List AR→Option (List V × Mem)
 |T,[]=>some ([],T)
 |T,r::rs=>match je {σ,T} r with
  |some (x,T')=>match yt σ T' rs with
   |some (xs,T'')=>some (x::xs,T'')
   |none=>none
  |none=>none
def xZ:List V→V
 |[x]=>x
 |xs=> .t xs
inductive AE where
 |fn (af:AF)
 |prim (g:List V→Option (V × List V))
def z6(af:AF) (xs:List V) (st:St):Option (V × List V):=
 match yt st.σ st.T af.res with
 |some (rs,T)=>
  let r:=qq 30 T (xZ rs)
  some (r.1,(qx (qq 30) r.2 xs).1)
 |none=>none
def qU(prog:Nat→Option AE):Nat→qS
 |0,_,_=>none
 |n+1,f,args=>match prog f with
  |some (.prim g)=>g args
  |some (.fn af)=>
   if args.length=af.nargs then
    match qr (qU prog n) n af.body {σ:=yu 0 (q7 0 args).1,T:=(q7 0 args).2} with
    |some (.normal,st)|some (.ret,st)=>z6 af (q7 0 args).1 st
    |_=>none
   else none
  |none=>none
end Go.Vm
set_option linter.unusedVariables false
set_option linter.unusedSimpArgs false
namespace Go.Vm
abbrev Cnt:=Nat→Nat
def c0:Cnt:=fun _=>0
def qv(b:Nat):Cnt:=fun n=>if n=b then 1 else 0
def qg(x y:Cnt):Cnt:=fun n=>x n+y n
theorem xQ(x:Cnt):qg x c0=x:=rfl
theorem qV(x:Cnt):qg c0 x=x:=funext fun n=>Nat.zero_add _
theorem kQ(x y:Cnt):qg x y=qg y x:=funext fun n=>Nat.add_comm _ _
theorem yf(x y z:Cnt):qg (qg x y) z=qg x (qg y z):=funext fun n=>Nat.add_assoc _ _ _
inductive Loc where
 |emp (A:Option Addr)
 |at (b base e lim:Nat)
 |mp (b:Nat)
structure Env where
 w:World
 I:Bool→Nat→Prop
 μ:Key→Option Loc
def Env.cl(E:Env):Env:={E with μ:=fun _=>none}
def seg(cells:Array Value) (base n:Nat):List Value:=(cells.toList.drop base).take n
def jA(fz:Nat × Nat) (n:Nat):Prop:=n≤fz.1∨fz.2≤fz.1
def zO(l:List Value):Prop:= ∀ z ∈ l,z.oneCell=true
def zS:Nat→List (Int × Int)→List MapEntry
 |_,[]=>[]
 |i,(a,b)::r=>{key:= .int .i64 a,val:= .int .i64 b,born:=i}::zS (i+1) r
def yY(es:List (Int × Int)) (ents:Array MapEntry) (clk:Nat):Prop:=ents.toList=zS 0 es∧clk=es.length
mutual
def Rel:Env→V→Value→Cnt→Prop
 |_,.v x,y,c=>y=x∧zM x=false∧c=c0
 |E,.p k idx off,y,c=>c=c0∧ ∃ b base e lim,E.μ k=some (.at b base e lim)∧y= .pointer (some ⟨b,base+idx*e+off,none⟩)
 |E,.s k lo len,y,c=>c=c0∧((∃ A,E.μ k=some (.emp A)∧lo=0∧len=0∧y= .slice A 0 0)∨
  ∃ b base e lim cap A,E.μ k=some (.at b base e lim)∧len≤cap∧base+(lo+cap)*e≤lim∧(lo=0→0 < cap)∧(cap=0∨A=⟨b,base+lo*e,none⟩)∧y= .slice (some A) len cap)
 |E,.q τ xs idx off,y,c=>c=c0∧ ∃ b base e cells T fz,E.I τ b∧E.w.heap[b]? =some (.cells cells T fz)∧
  y= .pointer (some ⟨b,base+idx*e+off,none⟩)∧ql E.cl e xs (seg cells base (xs.length*e)) c0
 |E,.i τ xs,y,c=>c=c0∧ ∃ A cap,y= .slice A xs.length cap∧xs.length≤cap∧
  (xs=[]∨ ∃ b base e cells T fz,A=some ⟨b,base,none⟩∧E.I τ b∧E.w.heap[b]? =some (.cells cells T fz)∧ql E.cl e xs (seg cells base (xs.length*e)) c0)
 |E,.o e xs,y,c=>(xs=[]∧(∃ A,y= .slice A 0 0)∧c=c0)∨
  ∃ b base cap cells T fz c1,y= .slice (some ⟨b,base,none⟩) xs.length cap∧0 < cap∧xs.length≤cap∧base+cap*e≤cells.size∧
   E.w.heap[b]? =some (.cells cells T fz)∧jA fz cells.size∧ql E.cl e xs (seg cells base (xs.length*e)) c1∧c=qg (qv b) c1
 |_,.n _,y,c=>y= .slice none 0 0∧c=c0
 |E,.b x,y,c=> ∃ b base cells T fz c1 z,y= .pointer (some ⟨b,base,none⟩)∧base+z.cells.size≤cells.size∧
  E.w.heap[b]? =some (.cells cells T fz)∧jA fz cells.size∧z.cells.toList=seg cells base z.cells.size∧x.cells.length=z.cells.size∧zO z.cells.toList∧
  Rel E.cl x z c1∧c=qg (qv b) c1
 |E,.f fn first caps,y,c=> ∃ fs cs c1 c2,y= .func fn fs cs∧qk E first fs.toList c1∧qk E caps cs.toList c2∧c=qg c1 c2
 |E,.a xs,y,c=> ∃ vs,y= .agg vs∧qk E xs vs.toList c
 |E,.t xs,y,c=> ∃ vs,y= .tuple vs∧qk E xs vs.toList c
 |E,.m k,y,c=>c=c0∧ ∃ b,E.μ k=some (.mp b)∧y= .map (some b)
 |E,.w none es,y,c=> ∃ b ents clk,y= .map (some b)∧E.w.heap[b]? =some (.map ents clk)∧yY es ents clk∧c=qv b
 |E,.w (some τ) es,y,c=> ∃ b ents clk,y= .map (some b)∧E.w.heap[b]? =some (.map ents clk)∧yY es ents clk∧E.I τ b∧c=c0
 |_,.d,_,c=>c=c0
def qk:Env→List V→List Value→Cnt→Prop
 |_,[],ys,c=>ys=[]∧c=c0
 |E,x::xs,ys,c=> ∃ y ys' c1 c2,ys=y::ys'∧Rel E x y c1∧qk E xs ys' c2∧c=qg c1 c2
def ql:Env→Nat→List V→List Value→Cnt→Prop
 |_,_,[],ys,c=>ys=[]∧c=c0
 |E,e,x::xs,ys,c=> ∃ y ys' c1 c2,ys=y.cells.toList++ys'∧y.cells.size=e∧x.cells.length=e∧zO y.cells.toList∧Rel E x y c1∧ql E e xs ys' c2∧c=qg c1 c2
end
theorem jc {E:Env} {e:Nat}: ∀ {xs:List V} {ys:List Value} {c:Cnt},ql E e xs ys c→ys.length=xs.length*e
 |[],ys,c,h=>by simp only [ql]at h;simp [h.1]
 |x::xs,ys,c,h=>by
  simp only [ql]at h
  obtain ⟨y,ys',c1,c2,rfl,hy,-,-,-,h2,-⟩:=h
  have:=jc h2
  simp only [List.length_append,Array.length_toList,List.length_cons,this,hy,Nat.add_mul]
  omega
theorem yr {E:Env}: ∀ {xs:List V} {ys:List Value} {c:Cnt},qk E xs ys c→ys.length=xs.length
 |[],ys,c,h=>by simp only [qk]at h;simp [h.1]
 |x::xs,ys,c,h=>by
  simp only [qk]at h
  obtain ⟨y,ys',c1,c2,rfl,-,h2,-⟩:=h
  simp [yr h2]
structure Mono (E E':Env) (c:Cnt):Prop where
 hI: ∀ τ b,E.I τ b→E'.I τ b∧E'.w.heap[b]? =E.w.heap[b]?
 hc: ∀ b,c b ≠ 0→E'.w.heap[b]? =E.w.heap[b]?
 hμ: ∀ k l,E.μ k=some l→E'.μ k=some l
theorem Mono.le {E E':Env} {c c':Cnt} (h:Mono E E' c) (hl: ∀ b,c' b≤c b):Mono E E' c':=
 ⟨h.hI,fun b hb=>h.hc b (by have:=hl b;omega),h.hμ⟩
theorem Mono.cl {E E':Env} {c:Cnt} (h:Mono E E' c):Mono E.cl E'.cl c:=
 ⟨h.hI,h.hc,fun k l hk=>by simp [Env.cl]at hk⟩
theorem Mono.left {E E':Env} {c1 c2:Cnt} (h:Mono E E' (qg c1 c2)):Mono E E' c1:=h.le fun b=>Nat.le_add_right _ _
theorem Mono.right {E E':Env} {c1 c2:Cnt} (h:Mono E E' (qg c1 c2)):Mono E E' c2:=h.le fun b=>Nat.le_add_left _ _
mutual
theorem zP: ∀ {x:V} {E E':Env} {y:Value} {c:Cnt},Rel E x y c→Mono E E' c→Rel E' x y c
 | .v x,E,E',y,c,h,m=>by simpa only [Rel]using h
 | .p k idx off,E,E',y,c,h,m=>by
   simp only [Rel]at h ⊢
   obtain ⟨h0,b,base,e,lim,h1,h2⟩:=h
   exact ⟨h0,b,base,e,lim,m.hμ _ _ h1,h2⟩
 | .s k lo len,E,E',y,c,h,m=>by
   simp only [Rel]at h ⊢
   obtain ⟨h0,⟨A,h⟩|⟨b,base,e,lim,cap,A,h1,h2⟩⟩:=h
   ·exact ⟨h0,.inl ⟨A,m.hμ _ _ h.1,h.2⟩⟩
   ·exact ⟨h0,.inr ⟨b,base,e,lim,cap,A,m.hμ _ _ h1,h2⟩⟩
 | .q τ xs idx off,E,E',y,c,h,m=>by
   simp only [Rel]at h ⊢
   obtain ⟨h0,b,base,e,cells,T,fz,hI,hw,hy,hr⟩:=h
   have:=m.hI τ b hI
   exact ⟨h0,b,base,e,cells,T,fz,this.1,by rw [this.2,hw],hy,zZ hr (m.cl.le fun _=>Nat.zero_le _)⟩
 | .i τ xs,E,E',y,c,h,m=>by
   simp only [Rel]at h ⊢
   obtain ⟨h0,A,cap,hy,hle,h⟩:=h
   refine ⟨h0,A,cap,hy,hle, ?_⟩
   rcases h with h|⟨b,base,e,cells,T,fz,hA,hI,hw,hr⟩
   ·exact .inl h
   ·have:=m.hI τ b hI
    exact .inr ⟨b,base,e,cells,T,fz,hA,this.1,by rw [this.2,hw],zZ hr (m.cl.le fun _=>Nat.zero_le _)⟩
 | .o e xs,E,E',y,c,h,m=>by
   simp only [Rel]at h ⊢
   rcases h with h|⟨b,base,cap,cells,T,fz,c1,hy,hA,hle,hs,hw,hf,hr,rfl⟩
   ·exact .inl h
   ·have hb:E'.w.heap[b]? =E.w.heap[b]? :=m.hc b (by simp [qg,qv])
    exact .inr ⟨b,base,cap,cells,T,fz,c1,hy,hA,hle,hs,by rw [hb,hw],hf,zZ hr m.right.cl,rfl⟩
 | .n e,E,E',y,c,h,m=>by simpa only [Rel]using h
 | .b x,E,E',y,c,h,m=>by
   simp only [Rel]at h ⊢
   obtain ⟨b,base,cells,T,fz,c1,z,hy,hle,hw,hf,hz,hl,ho,hr,rfl⟩:=h
   have hb:E'.w.heap[b]? =E.w.heap[b]? :=m.hc b (by simp [qg,qv])
   exact ⟨b,base,cells,T,fz,c1,z,hy,hle,by rw [hb,hw],hf,hz,hl,ho,zP hr m.right.cl,rfl⟩
 | .f fn first caps,E,E',y,c,h,m=>by
   simp only [Rel]at h ⊢
   obtain ⟨fs,cs,c1,c2,hy,h1,h2,rfl⟩:=h
   exact ⟨fs,cs,c1,c2,hy,yA h1 m.left,yA h2 m.right,rfl⟩
 | .a xs,E,E',y,c,h,m=>by
   simp only [Rel]at h ⊢
   obtain ⟨vs,hy,h⟩:=h
   exact ⟨vs,hy,yA h m⟩
 | .t xs,E,E',y,c,h,m=>by
   simp only [Rel]at h ⊢
   obtain ⟨vs,hy,h⟩:=h
   exact ⟨vs,hy,yA h m⟩
 | .m k,E,E',y,c,h,m=>by
   simp only [Rel]at h ⊢
   obtain ⟨h0,b,h1,h2⟩:=h
   exact ⟨h0,b,m.hμ _ _ h1,h2⟩
 | .w none es,E,E',y,c,h,m=>by
   simp only [Rel]at h ⊢
   obtain ⟨b,ents,clk,h1,h2,h3,rfl⟩:=h
   exact ⟨b,ents,clk,h1,by rw [m.hc b (by simp [qv]),h2],h3,rfl⟩
 | .w (some τ) es,E,E',y,c,h,m=>by
   simp only [Rel]at h ⊢
   obtain ⟨b,ents,clk,h1,h2,h3,h4,h5⟩:=h
   have:=m.hI τ b h4
   exact ⟨b,ents,clk,h1,by rw [this.2,h2],h3,this.1,h5⟩
 | .d,E,E',y,c,h,m=>by simpa only [Rel]using h
theorem yA: ∀ {xs:List V} {E E':Env} {ys:List Value} {c:Cnt},qk E xs ys c→Mono E E' c→qk E' xs ys c
 |[],E,E',ys,c,h,m=>by simpa only [qk]using h
 |x::xs,E,E',ys,c,h,m=>by
  simp only [qk]at h ⊢
  obtain ⟨y,ys',c1,c2,hy,h1,h2,rfl⟩:=h
  exact ⟨y,ys',c1,c2,hy,zP h1 m.left,yA h2 m.right,rfl⟩
theorem zZ: ∀ {xs:List V} {E E':Env} {e:Nat} {ys:List Value} {c:Cnt},ql E e xs ys c→Mono E E' c→ql E' e xs ys c
 |[],E,E',e,ys,c,h,m=>by simpa only [ql]using h
 |x::xs,E,E',e,ys,c,h,m=>by
  simp only [ql]at h ⊢
  obtain ⟨y,ys',c1,c2,hy,hs,hl,ho,h1,h2,rfl⟩:=h
  exact ⟨y,ys',c1,c2,hy,hs,hl,ho,zP h1 m.left,zZ h2 m.right,rfl⟩
end
end Go.Vm
namespace Go.Vm
theorem xY(E:Env) (c:Cnt):Mono E.cl E c:=⟨fun τ b h=>⟨h,rfl⟩,fun b _=>rfl,fun k l h=>by simp [Env.cl]at h⟩
theorem qiY(E:Env) (c:Cnt):Mono E E c:=⟨fun τ b h=>⟨h,rfl⟩,fun b _=>rfl,fun k l h=>h⟩
theorem x5 {E:Env}: ∀ {xs xs':List V} {ys ys':List Value} {c c':Cnt},qk E xs ys c→qk E xs' ys' c'→qk E (xs++xs') (ys++ys') (qg c c')
 |[],xs',ys,ys',c,c',h,h'=>by
  simp only [qk]at h;obtain ⟨rfl,rfl⟩:=h;simpa [qV]using h'
 |x::xs,xs',ys,ys',c,c',h,h'=>by
  simp only [qk]at h
  obtain ⟨y,r,c1,c2,rfl,h1,h2,rfl⟩:=h
  simp only [List.cons_append,qk]
  exact ⟨y,r++ys',c1,qg c2 c',rfl,h1,x5 h2 h',(yf _ _ _)⟩
theorem QR {E:Env}: ∀ {xs xs':List V} {zs:List Value} {c:Cnt},qk E (xs++xs') zs c→
 ∃ ys ys' c1 c2,zs=ys++ys'∧qk E xs ys c1∧qk E xs' ys' c2∧c=qg c1 c2
 |[],xs',zs,c,h=>⟨[],zs,c0,c,rfl,by simp [qk],h,(qV _).symm⟩
 |x::xs,xs',zs,c,h=>by
  simp only [List.cons_append,qk]at h
  obtain ⟨y,r,c1,c2,rfl,h1,h2,rfl⟩:=h
  obtain ⟨ys,ys',d1,d2,rfl,h3,h4,rfl⟩:=QR h2
  exact ⟨y::ys,ys',qg c1 d1,d2,rfl,by simp only [qk];exact ⟨y,ys,c1,d1,rfl,h1,h3,rfl⟩,h4,(yf _ _ _).symm⟩
theorem QT {E:Env} {e:Nat}: ∀ {xs xs':List V} {ys ys':List Value} {c c':Cnt},ql E e xs ys c→ql E e xs' ys' c'→ql E e (xs++xs') (ys++ys') (qg c c')
 |[],xs',ys,ys',c,c',h,h'=>by
  simp only [ql]at h;obtain ⟨rfl,rfl⟩:=h;simpa [qV]using h'
 |x::xs,xs',ys,ys',c,c',h,h'=>by
  simp only [ql]at h
  obtain ⟨y,r,c1,c2,rfl,hs,hl,ho,h1,h2,rfl⟩:=h
  simp only [List.cons_append,ql]
  exact ⟨y,r++ys',c1,qg c2 c',by simp,hs,hl,ho,h1,QT h2 h',(yf _ _ _)⟩
theorem ZW {E:Env} {e:Nat}: ∀ {xs xs':List V} {zs:List Value} {c:Cnt},ql E e (xs++xs') zs c→
 ∃ ys ys' c1 c2,zs=ys++ys'∧ql E e xs ys c1∧ql E e xs' ys' c2∧c=qg c1 c2
 |[],xs',zs,c,h=>⟨[],zs,c0,c,rfl,by simp [ql],h,(qV _).symm⟩
 |x::xs,xs',zs,c,h=>by
  simp only [List.cons_append,ql]at h
  obtain ⟨y,r,c1,c2,rfl,hs,hl,ho,h1,h2,rfl⟩:=h
  obtain ⟨ys,ys',d1,d2,rfl,h3,h4,rfl⟩:=ZW h2
  exact ⟨y.cells.toList++ys,ys',qg c1 d1,d2,by simp,by simp only [ql];exact ⟨y,ys,c1,d1,rfl,hs,hl,ho,h1,h3,rfl⟩,h4,(yf _ _ _).symm⟩
theorem z7 {E:Env} {x:V} {y:Value} {c:Cnt} (h:Rel E x y c):qk E [x] [y] c:=by
 simp only [qk];exact ⟨y,[],c,c0,rfl,h,⟨rfl,rfl⟩,rfl⟩
theorem ZV {E:Env} {e:Nat} {x:V} {y:Value} {c:Cnt} (hs:y.cells.size=e) (hl:x.cells.length=e) (ho:zO y.cells.toList) (h:Rel E x y c):
 ql E e [x] y.cells.toList c:=by
 simp only [ql];exact ⟨y,[],c,c0,by simp,hs,hl,ho,h,⟨rfl,rfl⟩,rfl⟩
theorem XD {E:Env} {e:Nat} {x:V} {ys:List Value} {c:Cnt} (h:ql E e [x] ys c):
 ∃ y,ys=y.cells.toList∧y.cells.size=e∧x.cells.length=e∧zO y.cells.toList∧Rel E x y c:=by
 simp only [ql]at h
 obtain ⟨y,r,c1,c2,rfl,hs,hl,ho,h1,⟨rfl,rfl⟩,rfl⟩:=h
 exact ⟨y,by simp,hs,hl,ho,h1⟩
theorem XB {E:Env} {x:V} {ys:List Value} {c:Cnt} (h:qk E [x] ys c): ∃ y,ys=[y]∧Rel E x y c:=by
 simp only [qk]at h
 obtain ⟨y,r,c1,c2,rfl,h1,⟨rfl,rfl⟩,rfl⟩:=h
 exact ⟨y,rfl,h1⟩
theorem Jl {α:Type}: ∀ {xs:List α} {i:Nat} {x:α},xs[i]? =some x→xs=xs.take i++[x]++xs.drop (i+1)
 |[],i,x,h=>by simp at h
 |a::xs,0,x,h=>by simp at h;simp [h]
 |a::xs,i+1,x,h=>by
  have:=Jl (xs:=xs) (i:=i) (x:=x) (by simpa using h)
  simp only [List.take_succ_cons,List.drop_succ_cons,List.cons_append]
  rw [← this]
theorem qbm {α:Type} {xs:List α} {i:Nat} {x x':α} (h:xs[i]? =some x):xs.set i x'=xs.take i++[x']++xs.drop (i+1):=by
 have hl:i < xs.length:=(List.getElem?_eq_some_iff.1 h).1
 rw [List.set_eq_take_append_cons_drop,if_pos hl]
 simp
theorem K0 {E:Env} {xs:List V} {ys:List Value} {c:Cnt} {i:Nat} {x:V} (h:qk E xs ys c) (hx:xs[i]? =some x):
 ∃ y c1 c2,ys[i]? =some y∧Rel E x y c1∧c=qg c1 c2∧ ∀ x' y' c1',Rel E x' y' c1'→qk E (xs.set i x') (ys.set i y') (qg c1' c2):=by
 have hsp:=Jl hx
 rw [hsp]at h
 obtain ⟨a,b,d1,d2,rfl,h1,h2,rfl⟩:=QR h
 obtain ⟨a',b',d3,d4,rfl,h3,h4,rfl⟩:=QR h1
 obtain ⟨y,rfl,h5⟩:=XB h4
 have hla:=yr h3
 have hi:i < xs.length:=(List.getElem?_eq_some_iff.1 hx).1
 rw [List.length_take,Nat.min_eq_left (Nat.le_of_lt hi)]at hla
 refine ⟨y,d4,qg d3 d2,by rw [List.append_assoc,List.getElem?_append_right (by omega)];simp [hla],h5, ?_, ?_⟩
 ·rw [← yf,kQ d4 d3]
 ·intro x' y' c1' h'
  have e1:(a'++[y]++b).set i y'=a'++[y']++b:=by
   rw [List.append_assoc,List.set_append_right _ _ (by omega)];simp [hla]
  rw [e1,qbm hx]
  have:=x5 (x5 h3 (z7 h')) h2
  rwa [kQ d3 c1',yf]at this
theorem qkq {E:Env} {e:Nat} {xs:List V} {ys:List Value} {c:Cnt} {i:Nat} {x:V} (h:ql E e xs ys c) (hx:xs[i]? =some x):
 ∃ y c1 c2,(ys.drop (i*e)).take e=y.cells.toList∧y.cells.size=e∧x.cells.length=e∧zO y.cells.toList∧Rel E x y c1∧c=qg c1 c2∧
  ∀ x' y' c1',y'.cells.size=e→x'.cells.length=e→zO y'.cells.toList→Rel E x' y' c1'→
   ql E e (xs.set i x') (ys.take (i*e)++y'.cells.toList++ys.drop (i*e+e)) (qg c1' c2):=by
 have hsp:=Jl hx
 rw [hsp]at h
 obtain ⟨a,b,d1,d2,rfl,h1,h2,rfl⟩:=ZW h
 obtain ⟨a',b',d3,d4,rfl,h3,h4,rfl⟩:=ZW h1
 obtain ⟨y,rfl,hs,hl,ho,h5⟩:=XD h4
 have hla:=jc h3
 have hi:i < xs.length:=(List.getElem?_eq_some_iff.1 hx).1
 rw [List.length_take,Nat.min_eq_left (Nat.le_of_lt hi)]at hla
 have hy:y.cells.toList.length=e:=by simpa using hs
 refine ⟨y,d4,qg d3 d2, ?_,hs,hl,ho,h5, ?_, ?_⟩
 ·rw [List.append_assoc, ← hla,List.drop_left, ← hy,List.take_left]
 ·rw [← yf,kQ d4 d3]
 ·intro x' y' c1' hs' hl' ho' h'
  have e1:(a'++y.cells.toList++b).take (i*e)=a':=by rw [List.append_assoc, ← hla,List.take_left]
  have e2:(a'++y.cells.toList++b).drop (i*e+e)=b:=by
   rw [show i*e+e=(a'++y.cells.toList).length by simp only [List.length_append,hla,hy],List.drop_left]
  rw [e1,e2,qbm hx]
  have:=QT (QT h3 (ZV hs' hl' ho' h')) h2
  rwa [kQ d3 c1',yf]at this
theorem x6 {E:Env} {e:Nat} {xs:List V} {ys:List Value} {c:Cnt} (n:Nat) (h:ql E e xs ys c):
 ∃ c1 c2,ql E e (xs.take n) (ys.take (n*e)) c1∧ql E e (xs.drop n) (ys.drop (n*e)) c2∧c=qg c1 c2:=by
 by_cases hn:n≤xs.length
 ·rw [← List.take_append_drop n xs]at h
  obtain ⟨a,b,d1,d2,rfl,h1,h2,rfl⟩:=ZW h
  have hla:=jc h1
  rw [List.length_take,Nat.min_eq_left hn]at hla
  exact ⟨d1,d2,by rw [← hla,List.take_left];exact h1,by rw [← hla,List.drop_left];exact h2,rfl⟩
 ·have hn':xs.length≤n:=by omega
  have hla:=jc h
  have hm:ys.length≤n*e:=by rw [hla];exact Nat.mul_le_mul_right _ hn'
  rw [List.take_of_length_le hn',List.drop_eq_nil_of_le hn',List.take_of_length_le hm,List.drop_eq_nil_of_le hm]
  exact ⟨c,c0,h,by simp [ql],rfl⟩
theorem J6 {y:Value} (h:zM y=false):y.cells= #[y]:=by cases y<;>simp_all [zM,Value.cells]
theorem ZX {E:Env}: ∀ {x:V} {y:Value} {c:Cnt},Rel E x y c→x.cells.length=y.cells.size→qk E x.cells y.cells.toList c
 | .a cs,y,c,h,hl=>by simp only [Rel]at h;obtain ⟨vs,rfl,h⟩:=h;exact h
 | .v x,y,c,h,hl=>by
   have h':=h;simp only [Rel]at h;obtain ⟨rfl,h1,-⟩:=h
   rw [J6 h1];exact z7 h'
 | .p ..,y,c,h,hl=>by have h':=h;simp only [Rel]at h;obtain ⟨-,b,base,e,lim,-,rfl⟩:=h;exact z7 h'
 | .s ..,y,c,h,hl=>by
   have h':=h;simp only [Rel]at h
   obtain ⟨-,⟨A,-,-,-,rfl⟩|⟨b,base,e,lim,cap,A,-,-,-,-,-,rfl⟩⟩:=h<;>exact z7 h'
 | .q ..,y,c,h,hl=>by have h':=h;simp only [Rel]at h;obtain ⟨-,b,base,e,cells,T,fz,-,-,rfl,-⟩:=h;exact z7 h'
 | .i ..,y,c,h,hl=>by have h':=h;simp only [Rel]at h;obtain ⟨-,A,cap,rfl,-⟩:=h;exact z7 h'
 | .o ..,y,c,h,hl=>by
   have h':=h;simp only [Rel]at h
   rcases h with ⟨-,⟨A,rfl⟩,-⟩|⟨b,base,cap,cells,T,fz,c1,rfl,-⟩<;>exact z7 h'
 | .n ..,y,c,h,hl=>by have h':=h;simp only [Rel]at h;obtain ⟨rfl,-⟩:=h;exact z7 h'
 | .b ..,y,c,h,hl=>by have h':=h;simp only [Rel]at h;obtain ⟨b,base,cells,T,fz,c1,z,rfl,-⟩:=h;exact z7 h'
 | .f ..,y,c,h,hl=>by have h':=h;simp only [Rel]at h;obtain ⟨fs,cs,c1,c2,rfl,-⟩:=h;exact z7 h'
 | .t ..,y,c,h,hl=>by have h':=h;simp only [Rel]at h;obtain ⟨vs,rfl,-⟩:=h;exact z7 h'
 | .m ..,y,c,h,hl=>by have h':=h;simp only [Rel]at h;obtain ⟨-,b,-,rfl⟩:=h;exact z7 h'
 | .w none _,y,c,h,hl=>by have h':=h;simp only [Rel]at h;obtain ⟨b,ents,clk,rfl,-⟩:=h;exact z7 h'
 | .w (some _) _,y,c,h,hl=>by have h':=h;simp only [Rel]at h;obtain ⟨b,ents,clk,rfl,-⟩:=h;exact z7 h'
 | .d,y,c,h,hl=>by
   simp only [Rel]at h;subst h
   simp only [V.cells,List.length_singleton]at hl ⊢
   match hy:y.cells.toList with
   |[]=>simp [hy, ← Array.length_toList]at hl
   |[z]=>exact z7 (by simp [Rel])
   |_::_::_=>simp [hy, ← Array.length_toList]at hl
theorem qba {E:Env}: ∀ {x:V} {y:Value} {c:Cnt},Rel E x y c→x ≠ .d→x.cells.length=y.cells.size
 | .a cs,y,c,h,_=>by simp only [Rel]at h;obtain ⟨vs,rfl,h⟩:=h;have:=yr h;simpa [V.cells,Value.cells]using this.symm
 | .v x,y,c,h,_=>by simp only [Rel]at h;obtain ⟨rfl,h1,-⟩:=h;rw [J6 h1];rfl
 | .p ..,y,c,h,_=>by simp only [Rel]at h;obtain ⟨-,b,base,e,lim,-,rfl⟩:=h;rfl
 | .s ..,y,c,h,_=>by simp only [Rel]at h;obtain ⟨-,⟨A,-,-,-,rfl⟩|⟨b,base,e,lim,cap,A,-,-,-,-,-,rfl⟩⟩:=h<;>rfl
 | .q ..,y,c,h,_=>by simp only [Rel]at h;obtain ⟨-,b,base,e,cells,T,fz,-,-,rfl,-⟩:=h;rfl
 | .i ..,y,c,h,_=>by simp only [Rel]at h;obtain ⟨-,A,cap,rfl,-⟩:=h;rfl
 | .o ..,y,c,h,_=>by simp only [Rel]at h;rcases h with ⟨-,⟨A,rfl⟩,-⟩|⟨b,base,cap,cells,T,fz,c1,rfl,-⟩<;>rfl
 | .n ..,y,c,h,_=>by simp only [Rel]at h;obtain ⟨rfl,-⟩:=h;rfl
 | .b ..,y,c,h,_=>by simp only [Rel]at h;obtain ⟨b,base,cells,T,fz,c1,z,rfl,-⟩:=h;rfl
 | .f ..,y,c,h,_=>by simp only [Rel]at h;obtain ⟨fs,cs,c1,c2,rfl,-⟩:=h;rfl
 | .t ..,y,c,h,_=>by simp only [Rel]at h;obtain ⟨vs,rfl,-⟩:=h;rfl
 | .m ..,y,c,h,_=>by simp only [Rel]at h;obtain ⟨-,b,-,rfl⟩:=h;rfl
 | .w none _,y,c,h,_=>by simp only [Rel]at h;obtain ⟨b,ents,clk,rfl,-⟩:=h;rfl
 | .w (some _) _,y,c,h,_=>by simp only [Rel]at h;obtain ⟨b,ents,clk,rfl,-⟩:=h;rfl
 | .d,y,c,h,hd=>absurd rfl hd
theorem qks {E:Env}: ∀ {x:V} {y:Value} {c:Cnt},Rel E x y c→x.one=true→y.oneCell=true
 | .a cs,y,c,h,ho=>by simp [V.one]at ho
 | .v x,y,c,h,ho=>by simp only [Rel]at h;obtain ⟨rfl,h1,-⟩:=h;exact ho
 | .p ..,y,c,h,_=>by simp only [Rel]at h;obtain ⟨-,b,base,e,lim,-,rfl⟩:=h;rfl
 | .s ..,y,c,h,_=>by simp only [Rel]at h;obtain ⟨-,⟨A,-,-,-,rfl⟩|⟨b,base,e,lim,cap,A,-,-,-,-,-,rfl⟩⟩:=h<;>rfl
 | .q ..,y,c,h,_=>by simp only [Rel]at h;obtain ⟨-,b,base,e,cells,T,fz,-,-,rfl,-⟩:=h;rfl
 | .i ..,y,c,h,_=>by simp only [Rel]at h;obtain ⟨-,A,cap,rfl,-⟩:=h;rfl
 | .o ..,y,c,h,_=>by simp only [Rel]at h;rcases h with ⟨-,⟨A,rfl⟩,-⟩|⟨b,base,cap,cells,T,fz,c1,rfl,-⟩<;>rfl
 | .n ..,y,c,h,_=>by simp only [Rel]at h;obtain ⟨rfl,-⟩:=h;rfl
 | .b ..,y,c,h,_=>by simp only [Rel]at h;obtain ⟨b,base,cells,T,fz,c1,z,rfl,-⟩:=h;rfl
 | .f ..,y,c,h,_=>by simp only [Rel]at h;obtain ⟨fs,cs,c1,c2,rfl,-⟩:=h;rfl
 | .t ..,y,c,h,ho=>by simp [V.one]at ho
 | .m ..,y,c,h,_=>by simp only [Rel]at h;obtain ⟨-,b,-,rfl⟩:=h;rfl
 | .w none _,y,c,h,_=>by simp only [Rel]at h;obtain ⟨b,ents,clk,rfl,-⟩:=h;rfl
 | .w (some _) _,y,c,h,_=>by simp only [Rel]at h;obtain ⟨b,ents,clk,rfl,-⟩:=h;rfl
 | .d,y,c,h,ho=>by simp [V.one]at ho
theorem qeO {E:Env}: ∀ {xs:List V} {ys:List Value} {c:Cnt},qk E xs ys c→zB xs=true→zO ys
 |[],ys,c,h,_=>by simp only [qk]at h;simp [h.1,zO]
 |x::xs,ys,c,h,ho=>by
  simp only [qk]at h
  obtain ⟨y,r,c1,c2,rfl,h1,h2,-⟩:=h
  simp only [zB,Bool.and_eq_true]at ho
  intro z hz
  rcases List.mem_cons.1 hz with rfl|hz
  ·exact qks h1 ho.1
  ·exact qeO h2 ho.2 z hz
theorem K9 {E:Env} {x:V} {y:Value} {c:Cnt} (h:Rel E x y c) (ho:zB x.cells=true):x.cells.length=y.cells.size∧zO y.cells.toList:=by
 have hd:x ≠ .d:=by rintro rfl;simp [V.cells,zB,V.one]at ho
 have hs:=qba h hd
 exact ⟨hs,qeO (ZX h hs) ho⟩
theorem XE {E:Env} {cs:List V} {ys:List Value} {c:Cnt} (h:qk E cs ys c):Rel E (.a cs) (.agg ys.toArray) c:=by
 simp only [Rel];exact ⟨_,rfl,by simpa using h⟩
mutual
theorem j9: ∀ {x:V} {E:Env} {y:Value} {c:Cnt},Rel E x y c→clB x=true→Rel E.cl x y c
 | .v x,E,y,c,h,_=>by simpa only [Rel]using h
 | .q ..,E,y,c,h,_=>by simp only [Rel]at h ⊢;exact h
 | .i ..,E,y,c,h,_=>by simp only [Rel]at h ⊢;exact h
 | .o ..,E,y,c,h,_=>by simp only [Rel]at h ⊢;exact h
 | .b ..,E,y,c,h,_=>by simp only [Rel]at h ⊢;exact h
 | .f fn first caps,E,y,c,h,hc=>by
   simp only [clB,Bool.and_eq_true]at hc
   simp only [Rel]at h ⊢
   obtain ⟨fs,cs,c1,c2,hy,h1,h2,rfl⟩:=h
   exact ⟨fs,cs,c1,c2,hy,K1 h1 hc.1,K1 h2 hc.2,rfl⟩
 | .p ..,E,y,c,h,hc=>by simp [clB]at hc
 | .s ..,E,y,c,h,hc=>by simp [clB]at hc
 | .n ..,E,y,c,h,hc=>by simpa only [Rel]using h
 | .a ..,E,y,c,h,hc=>by simp [clB]at hc
 | .t ..,E,y,c,h,hc=>by simp [clB]at hc
 | .m ..,E,y,c,h,hc=>by simp [clB]at hc
 | .w none _,E,y,c,h,hc=>by simp only [Rel]at h ⊢;exact h
 | .w (some _) _,E,y,c,h,hc=>by simp only [Rel]at h ⊢;exact h
 | .d,E,y,c,h,hc=>by simp [clB]at hc
theorem K1: ∀ {xs:List V} {E:Env} {ys:List Value} {c:Cnt},qk E xs ys c→yI xs=true→qk E.cl xs ys c
 |[],E,ys,c,h,_=>by simpa only [qk]using h
 |x::xs,E,ys,c,h,hc=>by
  simp only [yI,Bool.and_eq_true]at hc
  simp only [qk]at h ⊢
  obtain ⟨y,r,c1,c2,hy,h1,h2,rfl⟩:=h
  exact ⟨y,r,c1,c2,hy,j9 h1 hc.1,K1 h2 hc.2,rfl⟩
end
theorem K6 {x:V} {E:Env} {y:Value} {c:Cnt} (h:Rel E x y c) (hc:clE x=true):Rel E.cl x y c:=by
 cases x<;>first|exact j9 h hc|skip
 simp only [clE]at hc
 simp only [Rel]at h ⊢
 obtain ⟨vs,hy,h⟩:=h
 exact ⟨vs,hy,K1 h hc⟩
theorem K2: ∀ {xs:List V} {E:Env} {e:Nat} {ys:List Value} {c:Cnt},ql E e xs ys c→qu xs=true→ql E.cl e xs ys c
 |[],E,e,ys,c,h,_=>by simpa only [ql]using h
 |x::xs,E,e,ys,c,h,hc=>by
  simp only [qu,Bool.and_eq_true]at hc
  simp only [ql]at h ⊢
  obtain ⟨y,r,c1,c2,hy,hs,hl,ho,h1,h2,rfl⟩:=h
  exact ⟨y,r,c1,c2,hy,hs,hl,ho,K6 h1 hc.1,K2 h2 hc.2,rfl⟩
structure Renamed (d:Nat) (E E':Env):Prop where
 hw:E'.w=E.w
 hI:E'.I=E.I
 hμ: ∀ k:Key,k.1 ≠ d→E'.μ k=E.μ k
theorem Renamed.cl {d:Nat} {E E':Env} (h:Renamed d E E'):E'.cl=E.cl:=by
 obtain ⟨w,I,μ⟩:=E;obtain ⟨w',I',μ'⟩:=E'
 have:=h.hw;have:=h.hI
 simp_all [Env.cl]
mutual
theorem K8 {d:Nat}: ∀ {x:V} {E E':Env} {y:Value} {c:Cnt},Rel E x y c→Renamed d E E'→Rel E' (qA d x) y c
 | .v x,E,E',y,c,h,r=>by simpa only [Rel,qA]using h
 | .p k idx off,E,E',y,c,h,r=>by
   simp only [qA];split
   ·simp only [Rel]at h ⊢;exact h.1
   ·rename_i hk;simp only [Rel]at h ⊢;rw [r.hμ k hk];exact h
 | .s k lo len,E,E',y,c,h,r=>by
   simp only [qA];split
   ·simp only [Rel]at h ⊢;exact h.1
   ·rename_i hk;simp only [Rel]at h ⊢;rw [r.hμ k hk];exact h
 | .q ..,E,E',y,c,h,r=>by simp only [Rel,qA]at h ⊢;rw [r.hI,r.hw,r.cl];exact h
 | .i ..,E,E',y,c,h,r=>by simp only [Rel,qA]at h ⊢;rw [r.hI,r.hw,r.cl];exact h
 | .o ..,E,E',y,c,h,r=>by simp only [Rel,qA]at h ⊢;rw [r.hw,r.cl];exact h
 | .n ..,E,E',y,c,h,r=>by simpa only [Rel,qA]using h
 | .b ..,E,E',y,c,h,r=>by simp only [Rel,qA]at h ⊢;rw [r.hw,r.cl];exact h
 | .f fn first caps,E,E',y,c,h,r=>by
   simp only [Rel,qA]at h ⊢
   obtain ⟨fs,cs,c1,c2,hy,h1,h2,rfl⟩:=h
   exact ⟨fs,cs,c1,c2,hy,XA h1 r,XA h2 r,rfl⟩
 | .a cs,E,E',y,c,h,r=>by
   simp only [Rel,qA]at h ⊢
   obtain ⟨vs,hy,h⟩:=h
   exact ⟨vs,hy,XA h r⟩
 | .t cs,E,E',y,c,h,r=>by
   simp only [Rel,qA]at h ⊢
   obtain ⟨vs,hy,h⟩:=h
   exact ⟨vs,hy,XA h r⟩
 | .m k,E,E',y,c,h,r=>by
   simp only [qA];split
   ·simp only [Rel]at h ⊢;exact h.1
   ·rename_i hk;simp only [Rel]at h ⊢;rw [r.hμ k hk];exact h
 | .w none _,E,E',y,c,h,r=>by simp only [Rel,qA]at h ⊢;rw [r.hw];exact h
 | .w (some _) _,E,E',y,c,h,r=>by simp only [Rel,qA]at h ⊢;rw [r.hw,r.hI];exact h
 | .d,E,E',y,c,h,r=>by simpa only [Rel,qA]using h
theorem XA {d:Nat}: ∀ {xs:List V} {E E':Env} {ys:List Value} {c:Cnt},qk E xs ys c→Renamed d E E'→qk E' (qz d xs) ys c
 |[],E,E',ys,c,h,r=>by simpa only [qk,qz]using h
 |x::xs,E,E',ys,c,h,r=>by
  simp only [qk,qz]at h ⊢
  obtain ⟨y,t,c1,c2,hy,h1,h2,rfl⟩:=h
  exact ⟨y,t,c1,c2,hy,K8 h1 r,XA h2 r,rfl⟩
end
theorem kU(d:Nat): ∀ xs:List V,(qz d xs).length=xs.length
 |[]=>rfl
 |x::xs=>by simp [qz,kU d xs]
theorem qdz(d:Nat) (x:V):(qA d x).cells.length=x.cells.length:=by
 cases x<;>simp only [qA]
 case p=>split<;>rfl
 case s=>split<;>rfl
 case m=>split<;>rfl
 case a=>simp [V.cells,kU]
 all_goals rfl
theorem qa6 {d:Nat}: ∀ {xs:List V} {E E':Env} {e:Nat} {ys:List Value} {c:Cnt},ql E e xs ys c→Renamed d E E'→ql E' e (qz d xs) ys c
 |[],E,E',e,ys,c,h,r=>by simpa only [ql,qz]using h
 |x::xs,E,E',e,ys,c,h,r=>by
  simp only [ql,qz]at h ⊢
  obtain ⟨y,t,c1,c2,hy,hs,hl,ho,h1,h2,rfl⟩:=h
  exact ⟨y,t,c1,c2,hy,hs,by rw [qdz];exact hl,ho,K8 h1 r,qa6 h2 r,rfl⟩
end Go.Vm
namespace Go.Vm
def yC(E:Env) (k:Key) (ob:Ob) (c:Cnt):Prop:=
 (∃ b ents clk es,E.μ k=some (.mp b)∧E.w.heap[b]? =some (.map ents clk)∧yY es ents clk∧ob.2=[.w (some true) es]∧c=qv b)∨
 ((∃ A,E.μ k=some (.emp A))∧ob.2=[]∧c=c0)∨
 ∃ b base lim cells T fz c1,E.μ k=some (.at b base ob.1 lim)∧E.w.heap[b]? =some (.cells cells T fz)∧cells.size=lim∧jA fz cells.size∧
  base+ob.2.length*ob.1≤lim∧ql E ob.1 ob.2 (seg cells base (ob.2.length*ob.1)) c1∧c=qg (qv b) c1
def qn(E:Env):Mem→Cnt→Prop
 |[],c=>c=c0
 |(k,ob)::r,c=> ∃ c1 c2,yC E k ob c1∧qn E r c2∧c=qg c1 c2
def cle(c c':Cnt):Prop:= ∀ b,c b≤c' b
theorem qH(c:Cnt):cle c c:=fun _=>Nat.le_refl _
theorem yc {a b c:Cnt} (h:cle a b) (h':cle b c):cle a c:=fun n=>Nat.le_trans (h n) (h' n)
theorem yJ {a b c d:Cnt} (h:cle a c) (h':cle b d):cle (qg a b) (qg c d):=fun n=>Nat.add_le_add (h n) (h' n)
theorem jt(a b:Cnt):cle a (qg a b):=fun n=>Nat.le_add_right _ _
theorem yx(a b:Cnt):cle b (qg a b):=fun n=>Nat.le_add_left _ _
theorem qi8 {E E':Env} {k:Key} {ob:Ob} {c:Cnt} (h:yC E k ob c) (m:Mono E E' c):yC E' k ob c:=by
 rcases h with ⟨b,ents,clk,es,h1,h2,h3,h4,rfl⟩|⟨⟨A,h1⟩,h2,h3⟩|⟨b,base,lim,cells,T,fz,c1,hμ,hw,hl,hf,hs,hr,rfl⟩
 ·exact .inl ⟨b,ents,clk,es,m.hμ _ _ h1,by rw [m.hc b (by simp [qv]),h2],h3,h4,rfl⟩
 ·exact .inr (.inl ⟨⟨A,m.hμ _ _ h1⟩,h2,h3⟩)
 ·have hb:E'.w.heap[b]? =E.w.heap[b]? :=m.hc b (by simp [qg,qv])
  exact .inr (.inr ⟨b,base,lim,cells,T,fz,c1,m.hμ _ _ hμ,by rw [hb,hw],hl,hf,hs,zZ hr m.right,rfl⟩)
theorem zH {E E':Env}: ∀ {T:Mem} {c:Cnt},qn E T c→Mono E E' c→qn E' T c
 |[],c,h,m=>h
 |(k,ob)::r,c,h,m=>by
  obtain ⟨c1,c2,h1,h2,rfl⟩:=h
  exact ⟨c1,c2,qi8 h1 m.left,zH h2 m.right,rfl⟩
theorem yT {E:Env}: ∀ {T T':Mem} {c c':Cnt},qn E T c→qn E T' c'→qn E (T++T') (qg c c')
 |[],T',c,c',h,h'=>by simp only [qn]at h;subst h;simpa [qV]using h'
 |(k,ob)::r,T',c,c',h,h'=>by
  obtain ⟨c1,c2,h1,h2,rfl⟩:=h
  exact ⟨c1,qg c2 c',h1,yT h2 h',yf _ _ _⟩
theorem zW {E:Env}: ∀ {T:Mem} {c:Cnt} {k:Key} {ob:Ob},qn E T c→qp T k=some ob→
 ∃ c1 c2,yC E k ob c1∧qn E (qy T k) c2∧c=qg c1 c2
 |[],c,k,ob,h,hg=>by simp [qp]at hg
 |(u,x)::r,c,k,ob,h,hg=>by
  obtain ⟨c1,c2,h1,h2,rfl⟩:=h
  simp only [qp]at hg
  simp only [qy]
  split at hg
  ·rename_i hu;subst hu;simp only [Option.some.injEq]at hg;subst hg
   rw [if_pos rfl];exact ⟨c1,c2,h1,h2,rfl⟩
  ·rename_i hu
   rw [if_neg hu]
   obtain ⟨d1,d2,h3,h4,rfl⟩:=zW h2 hg
   exact ⟨d1,qg c1 d2,h3,⟨c1,d2,h1,h4,rfl⟩,by rw [← yf,kQ c1 d1,yf]⟩
theorem qfF {E:Env} (d:Nat): ∀ {T:Mem} {c:Cnt},qn E T c→ ∃ c',qn E (kS d T) c'∧cle c' c
 |[],c,h=>⟨c,h,qH _⟩
 |(u,x)::r,c,h=>by
  obtain ⟨c1,c2,h1,h2,rfl⟩:=h
  simp only [kS]
  obtain ⟨c',h3,h4⟩:=qfF d h2
  split
  ·exact ⟨c',h3,yc h4 (yx _ _)⟩
  ·exact ⟨qg c1 c',⟨c1,c',h1,h3,rfl⟩,yJ (qH _) h4⟩
theorem Xa(d:Nat): ∀ {T:Mem} {k:Key} {ob:Ob},(k,ob) ∈ kS d T→k.1 ≠ d
 |[],k,ob,h=>by simp [kS]at h
 |(u,x)::r,k,ob,h=>by
  simp only [kS]at h
  split at h
  ·exact Xa d h
  ·rename_i hu
   rcases List.mem_cons.1 h with h|h
   ·cases h;exact hu
   ·exact Xa d h
theorem qi7 {d:Nat} {E E':Env} {k:Key} {e:Nat} {xs:List V} {c:Cnt} (h:yC E k (e,xs) c) (r:Renamed d E E') (hk:k.1 ≠ d):yC E' k (e,qz d xs) c:=by
 rcases h with ⟨b,ents,clk,es,h1,h2,h3,h4,rfl⟩|⟨⟨A,h1⟩,h2,h3⟩|⟨b,base,lim,cells,T,fz,c1,hμ,hw,hl,hf,hs,hr,rfl⟩
 ·refine .inl ⟨b,ents,clk,es,by rw [r.hμ k hk];exact h1,by rw [r.hw];exact h2,h3, ?_,rfl⟩
  simp only at h4;subst h4;rfl
 ·refine .inr (.inl ⟨⟨A,by rw [r.hμ k hk];exact h1⟩, ?_,h3⟩)
  simp only at h2;subst h2;rfl
 ·refine .inr (.inr ⟨b,base,lim,cells,T,fz,c1,by rw [r.hμ k hk];exact hμ,by rw [r.hw];exact hw,hl,hf, ?_, ?_,rfl⟩)
  ·simpa only [kU]using hs
  ·simpa only [kU]using qa6 hr r
theorem qfG {d:Nat} {E E':Env}: ∀ {T:Mem} {c:Cnt},qn E T c→Renamed d E E'→(∀ k ob,(k,ob) ∈ T→k.1 ≠ d)→qn E' (kW d T) c
 |[],c,h,r,hk=>h
 |(k,e,xs)::t,c,h,r,hk=>by
  obtain ⟨c1,c2,h1,h2,rfl⟩:=h
  exact ⟨c1,c2,qi7 h1 r (hk k _ (List.mem_cons_self)),qfG h2 r (fun k ob h=>hk k ob (List.mem_cons_of_mem _ h)),rfl⟩
theorem qfl {cells:Array Value} {base n m:Nat}:(seg cells base n).take m=seg cells base (min m n):=by
 simp [seg,List.take_take]
theorem qeY {E:Env} {k:Key} {ob:Ob} {c1:Cnt} (ho:yC E k ob c1) (hc:qu ob.2=true) {x x':V} {y:Value} {c:Cnt}
 (h:Rel E x y c) (hr:z8 k ob x=some x'):Rel E x' y (qg c c1)∧x'.cells.length=x.cells.length:=by
 cases x with
 |s k' lo len=>
  simp only [z8]at hr
  split at hr
  ·rename_i hk
   obtain ⟨rfl,rfl,rfl⟩:=hk
   simp only [Option.some.injEq]at hr;subst hr
   refine ⟨?_,rfl⟩
   simp only [Rel]at h ⊢
   obtain ⟨rfl,h⟩:=h
   rw [qV]
   rcases ho with ⟨b,ents,clk,es,h1,-⟩|⟨⟨A0,h1⟩,h2,h3⟩|⟨b,base,lim,cells,T,fz,c2,hμ,hw,hl,hf,hs,hrr,rfl⟩
   ·rcases h with ⟨A,hμ',-⟩|⟨b,base,e,lim,cap,A,hμ',-⟩<;>(rw [h1]at hμ';cases hμ')
   ·rcases h with ⟨A,-,-,-,rfl⟩|⟨b,base,e,lim,cap,A,hμ',-⟩
    ·exact .inl ⟨h2,⟨A,rfl⟩,h3⟩
    ·rw [h1]at hμ';cases hμ'
   ·rcases h with ⟨A,h1,-⟩|⟨b',base',e,y7,cap,A,hμ',hle,hroom,hpos,hA,rfl⟩
    ·rw [h1]at hμ;cases hμ
    ·rw [hμ]at hμ';cases hμ'
     have hp:=hpos trivial
     rcases hA with hA|hA
     ·omega
     ·exact .inr ⟨b,base,cap,cells,T,fz,c2,by rw [hA];simp,hp,hle,by rw [hl];simpa using hroom,hw,hf,K2 hrr hc,rfl⟩
  ·cases hr
 |p k' idx off=>
  simp only [z8]at hr
  split at hr
  ·rename_i hk
   obtain ⟨rfl,rfl,rfl⟩:=hk
   split at hr
   ·rename_i z hz
    simp only [Option.some.injEq]at hr;subst hr
    refine ⟨?_,rfl⟩
    simp only [Rel]at h ⊢
    obtain ⟨rfl,b',base',e',y7,hμ',rfl⟩:=h
    rw [qV]
    rcases ho with ⟨b,ents,clk,es,h1,-⟩|⟨⟨A0,h1⟩,h2,h3⟩|⟨b,base,lim,cells,T,fz,c2,hμ,hw,hl,hf,hs,hrr,rfl⟩
    ·rw [h1]at hμ';cases hμ'
    ·rw [hz]at h2;cases h2
    ·rw [hμ]at hμ';cases hμ'
     rw [hz]at hrr hs hc
     simp only [List.length_singleton,Nat.one_mul]at hrr hs
     obtain ⟨u,hu,hsz,hlx,hon,hR⟩:=XD hrr
     simp only [qu,Bool.and_true]at hc
     exact ⟨b',base',cells,T,fz,c2,u,by simp,by rw [hsz,hl];exact hs,hw,hf,by rw [hsz];exact hu.symm,by rw [hlx,hsz],hon,K6 hR hc,rfl⟩
   ·cases hr
  ·cases hr
 |_=>simp [z8]at hr
theorem qeP {E:Env} {k:Key} {ob:Ob} {c1:Cnt} (ho:yC E k ob c1) (hc:qu ob.2=true): ∀ {cs cs':List V} {ys:List Value} {c:Cnt},
 qk E cs ys c→xc k ob cs=some cs'→qk E cs' ys (qg c c1)∧cs'.length=cs.length
 |[],cs',ys,c,h,hr=>by simp [xc]at hr
 |x::r,cs',ys,c,h,hr=>by
  simp only [qk]at h
  obtain ⟨y,ys',d1,d2,rfl,h1,h2,rfl⟩:=h
  simp only [xc]at hr
  split at hr
  ·rename_i x' hx
   simp only [Option.some.injEq]at hr;subst hr
   refine ⟨?_,rfl⟩
   simp only [qk]
   exact ⟨y,ys',qg d1 c1,d2,rfl,(qeY ho hc h1 hx).1,h2,by rw [yf,yf,kQ d2 c1]⟩
  ·rw [Option.map_eq_some_iff]at hr
   obtain ⟨t,ht,rfl⟩:=hr
   have:=qeP ho hc h2 ht
   refine ⟨?_,by simp [this.2]⟩
   simp only [qk]
   exact ⟨y,ys',d1,qg d2 c1,rfl,h1,this.1,yf _ _ _⟩
theorem qkt {E:Env} {k:Key} {ob:Ob} {c1:Cnt} (ho:yC E k ob c1) (hc:qu ob.2=true) {x x':V} {y:Value} {c:Cnt}
 (h:Rel E x y c) (hr:xd k ob x=some x'):Rel E x' y (qg c c1)∧x'.cells.length=x.cells.length:=by
 cases x with
 |a cs=>
  simp only [xd,Option.map_eq_some_iff]at hr
  obtain ⟨cs',hr,rfl⟩:=hr
  simp only [Rel]at h ⊢
  obtain ⟨vs,hy,h⟩:=h
  have:=qeP ho hc h hr
  exact ⟨⟨vs,hy,this.1⟩,this.2⟩
 |_=>exact qeY ho hc h hr
theorem qeR {E:Env} {k:Key} {ob:Ob} {c1:Cnt} (ho:yC E k ob c1) (hc:qu ob.2=true) {e:Nat}: ∀ {xs xs':List V} {ys:List Value} {c:Cnt},
 ql E e xs ys c→zD k ob xs=some xs'→ql E e xs' ys (qg c c1)∧xs'.length=xs.length
 |[],xs',ys,c,h,hr=>by simp [zD]at hr
 |x::r,xs',ys,c,h,hr=>by
  simp only [ql]at h
  obtain ⟨y,ys',d1,d2,rfl,hs,hl,hon,h1,h2,rfl⟩:=h
  simp only [zD]at hr
  split at hr
  ·rename_i x' hx
   simp only [Option.some.injEq]at hr;subst hr
   refine ⟨?_,rfl⟩
   have:=qkt ho hc h1 hx
   simp only [ql]
   exact ⟨y,ys',qg d1 c1,d2,rfl,hs,by rw [this.2];exact hl,hon,this.1,h2,by rw [yf,yf,kQ d2 c1]⟩
  ·rw [Option.map_eq_some_iff]at hr
   obtain ⟨t,ht,rfl⟩:=hr
   have:=qeR ho hc h2 ht
   refine ⟨?_,by simp [this.2]⟩
   simp only [ql]
   exact ⟨y,ys',d1,qg d2 c1,rfl,hs,hl,hon,h1,this.1,yf _ _ _⟩
theorem qfH {E:Env} {k:Key} {ob:Ob} {c1:Cnt} (ho:yC E k ob c1) (hc:qu ob.2=true): ∀ {T:Mem} {c:Cnt},
 qn E T c→ ∃ c',qn E (xL k ob T) c'∧cle c' (qg c c1)
 |[],c,h=>⟨c,h,jt _ _⟩
 |(u,e,xs)::r,c,h=>by
  obtain ⟨d1,d2,h1,h2,rfl⟩:=h
  simp only [xL]
  split
  ·rename_i xs' hx
   refine ⟨qg (qg d1 c1) d2,⟨qg d1 c1,d2, ?_,h2,rfl⟩,fun b=>by simp only [qg];omega⟩
   rcases h1 with ⟨b,ents,clk,es,q1,q2,q3,q4,q5⟩|⟨h3,h4,h5⟩|⟨b,base,lim,cells,T,fz,c2,hμ,hw,hl,hf,hs,hrr,rfl⟩
   ·simp only at q4;subst q4;simp [zD,xd,z8]at hx
   ·simp only at h4;subst h4;simp [zD]at hx
   ·have:=qeR ho hc hrr hx
    refine .inr (.inr ⟨b,base,lim,cells,T,fz,qg c2 c1,hμ,hw,hl,hf, ?_, ?_,yf _ _ _⟩)
    ·simpa only [this.2]using hs
    ·simpa only [this.2]using this.1
  ·obtain ⟨c',h3,h4⟩:=qfH ho hc h2
   exact ⟨qg d1 c',⟨d1,c',h1,h3,rfl⟩,fun b=>by have:=h4 b;simp only [qg]at*;omega⟩
theorem qlJ {E:Env} {T:Mem} {c:Cnt} (k:Key) (h:qn E T c): ∃ c',qn E (Je T k) c'∧cle c' c:=by
 unfold Je
 split
 ·exact ⟨c,h,qH _⟩
 ·rename_i ob hg
  obtain ⟨c1,c2,h1,h2,rfl⟩:=zW h hg
  split
  ·rename_i hc
   obtain ⟨c',h3,h4⟩:=qfH h1 hc h2
   exact ⟨c',h3,by rw [kQ];exact h4⟩
  ·exact ⟨c2,h2,yx _ _⟩
theorem qfI {E:Env}: ∀ (ks:List Key) {T:Mem} {c:Cnt},qn E T c→ ∃ c',qn E (XH ks T) c'∧cle c' c
 |[],T,c,h=>⟨c,h,qH _⟩
 |k::ks,T,c,h=>by
  obtain ⟨c1,h1,h2⟩:=qlJ k h
  obtain ⟨c3,h3,h4⟩:=qfI ks h1
  exact ⟨c3,h3,yc h4 h2⟩
theorem Jm {E:Env}: ∀ (ks:List Key) {T:Mem} {c:Cnt},qn E T c→ ∃ c',qn E (yi T ks) c'∧cle c' c
 |[],T,c,h=>⟨c0,rfl,fun _=>Nat.zero_le _⟩
 |k::ks,T,c,h=>by
  simp only [yi]
  split
  ·rename_i ob hg
   obtain ⟨c1,c2,h1,h2,rfl⟩:=zW h hg
   obtain ⟨c3,h3,h4⟩:=Jm ks h2
   exact ⟨qg c1 c3,⟨c1,c3,h1,h3,rfl⟩,yJ (qH _) h4⟩
  ·exact Jm ks h
def zo(E:Env) (σ:Sl) (tmps:Array Value):Prop:= ∀ t x,qw σ t=some x→ ∃ y,tmps[t]? =some y∧Rel E x y c0
theorem xq {E E':Env} {σ:Sl} {tmps:Array Value} (h:zo E σ tmps) (m:Mono E E' c0):zo E' σ tmps:=
 fun t x hx=>let ⟨y,h1,h2⟩:=h t x hx;⟨y,h1,zP h2 m⟩
theorem qdi(d:Nat): ∀ (σ:Sl) (t:Nat),qw (yM d σ) t=(qw σ t).map (qA d)
 |[],t=>rfl
 |(u,x)::r,t=>by simp only [yM,qw];split<;>simp [qdi d r t]
theorem qkN {d:Nat} {E E':Env} {σ:Sl} {tmps:Array Value} (h:zo E σ tmps) (r:Renamed d E E'):zo E' (yM d σ) tmps:=by
 intro t x hx
 rw [qdi,Option.map_eq_some_iff]at hx
 obtain ⟨z,hz,rfl⟩:=hx
 obtain ⟨y,h1,h2⟩:=h t z hz
 exact ⟨y,h1,K8 h2 r⟩
theorem qat {σ:Sl}: ∀ {ls:List Nat} {t:Nat} {x:V},qw (zl σ ls) t=some x→qw σ t=some x
 |[],t,x,h=>by simp [zl,qw]at h
 |l::ls,t,x,h=>by
  simp only [zl]at h
  split at h
  ·rename_i z hz
   simp only [qw]at h
   split at h
   ·rename_i he;subst he;rw [hz];exact h
   ·exact qat h
  ·exact qat h
theorem qfe {E:Env} {σ:Sl} {tmps:Array Value} (h:zo E σ tmps) (ls:List Nat):zo E (zl σ ls) tmps:=
 fun t x hx=>h t x (qat hx)
end Go.Vm
namespace Go.Vm
theorem KL(g:Mem→V→V × Mem): ∀ (T:Mem) (xs:List V),(qx g T xs).1.length=xs.length
 |T,[]=>rfl
 |T,x::xs=>by simp [qx,KL g _ xs]
def YD(g:Mem→V→V × Mem):Prop:= ∀ (E:Env) (T:Mem) (x:V) (y:Value) (c1 c2:Cnt),qn E T c1→Rel E x y c2→
 ∃ d1 d2,qn E (g T x).2 d1∧Rel E.cl (g T x).1 y d2∧cle (qg d1 d2) (qg c1 c2)∧((g T x).1.cells.length=x.cells.length)
theorem QQ {g:Mem→V→V × Mem} (hg:YD g) {E:Env}: ∀ {xs:List V} {T:Mem} {ys:List Value} {c1 c2:Cnt},qn E T c1→qk E xs ys c2→
 ∃ d1 d2,qn E (qx g T xs).2 d1∧qk E.cl (qx g T xs).1 ys d2∧cle (qg d1 d2) (qg c1 c2)
 |[],T,ys,c1,c2,hT,h=>⟨c1,c2,hT,by simpa only [qx,qk]using h,qH _⟩
 |x::xs,T,ys,c1,c2,hT,h=>by
  simp only [qk]at h
  obtain ⟨y,ys',e1,e2,rfl,h1,h2,rfl⟩:=h
  obtain ⟨d1,d2,h3,h4,h5,-⟩:=hg E T x y c1 e1 hT h1
  obtain ⟨d3,d4,h6,h7,h8⟩:=QQ hg h3 h2
  refine ⟨d3,qg d2 d4,h6, ?_, ?_⟩
  ·simp only [qx,qk];exact ⟨y,ys',d2,d4,rfl,h4,h7,rfl⟩
  ·intro b;have:=h5 b;have:=h8 b;simp only [qg]at*;omega
theorem qa7 {g:Mem→V→V × Mem} (hg:YD g) {E:Env} {e:Nat}: ∀ {xs:List V} {T:Mem} {ys:List Value} {c1 c2:Cnt},qn E T c1→ql E e xs ys c2→
 ∃ d1 d2,qn E (qx g T xs).2 d1∧ql E.cl e (qx g T xs).1 ys d2∧cle (qg d1 d2) (qg c1 c2)
 |[],T,ys,c1,c2,hT,h=>⟨c1,c2,hT,by simpa only [qx,ql]using h,qH _⟩
 |x::xs,T,ys,c1,c2,hT,h=>by
  simp only [ql]at h
  obtain ⟨y,ys',e1,e2,rfl,hs,hl,ho,h1,h2,rfl⟩:=h
  obtain ⟨d1,d2,h3,h4,h5,h9⟩:=hg E T x y c1 e1 hT h1
  obtain ⟨d3,d4,h6,h7,h8⟩:=qa7 hg h3 h2
  refine ⟨d3,qg d2 d4,h6, ?_, ?_⟩
  ·simp only [qx,ql];exact ⟨y,ys',d2,d4,rfl,hs,by rw [h9];exact hl,ho,h4,h7,rfl⟩
  ·intro b;have:=h5 b;have:=h8 b;simp only [qg]at*;omega
def y0(n:Nat) (T:Mem) (xs:List V):List V × Mem:=if qu xs then (xs,T)else qx (qq n) T xs
theorem J9(n:Nat) (T:Mem) (xs:List V):(y0 n T xs).1.length=xs.length:=by
 unfold y0;split
 ·rfl
 ·exact KL _ _ _
theorem qa3 {n:Nat} (hg:YD (qq n)) {E:Env} {e:Nat} {xs:List V} {T:Mem} {ys:List Value} {c1 c2:Cnt} (hT:qn E T c1) (h:ql E e xs ys c2):
 ∃ d1 d2,qn E (y0 n T xs).2 d1∧ql E.cl e (y0 n T xs).1 ys d2∧cle (qg d1 d2) (qg c1 c2):=by
 unfold y0;split
 ·rename_i hc;exact ⟨c1,c2,hT,K2 h hc,qH _⟩
 ·exact qa7 hg hT h
theorem kG {cells:Array Value} {base n a m:Nat} (h:a+m≤n):((seg cells base n).drop a).take m=seg cells (base+a) m:=by
 simp only [seg,List.drop_take,List.take_take,List.drop_drop]
 congr 1
 omega
theorem XJ {cells:Array Value} {base n:Nat} (h:base+n≤cells.size):(seg cells base n).length=n:=by
 simp [seg];omega
theorem Km(E:Env) (y:Value):Rel E .d y c0:=by simp [Rel]
theorem QB: ∀ n,YD (qq n)
 |0=>by
  intro E T x y c1 c2 hT h
  cases x with
  |a cs=>
   simp only [qq]
   refine ⟨c1,c0,hT, ?_,fun b=>by simp only [qg,c0];omega,by simp [V.cells]⟩
   simp only [Rel]at h ⊢
   obtain ⟨vs,rfl,h⟩:=h
   refine ⟨vs,rfl, ?_⟩
   have:=yr h
   clear h
   generalize vs.toList=l at this
   induction cs generalizing l with
   |nil=>cases l<;>simp_all [qk]
   |cons x xs ih=>
    cases l with
    |nil=>simp at this
    |cons z l=>
     simp only [List.map_cons,qk]
     exact ⟨z,l,c0,c0,rfl,Km _ _,ih l (by simpa using this),rfl⟩
  |_=>
   simp only [qq]
   exact ⟨c1,c0,hT,Km _ _,fun b=>by simp only [qg,c0];omega,by trivial⟩
 |n+1=>by
  have hg:=QB n
  intro E T x y c1 c2 hT h
  have hdead: ∃ d1 d2,qn E T d1∧Rel E.cl .d y d2∧cle (qg d1 d2) (qg c1 c2):=⟨c1,c0,hT,Km _ _,fun b=>by simp only [qg,c0];omega⟩
  cases x with
  |s k lo len=>
   have he:qq (n+1) T (.s k lo len)=(match qp T k with
    |none=>(.d,T)
    |some ob=>if lo+len≤ob.2.length then
     (if lo=0 then (.o ob.1 (((y0 n (qy T k) ob.2).1.drop lo).take len),(y0 n (qy T k) ob.2).2)
     else (.o ob.1 (y0 n (qy T k) ((ob.2.drop lo).take len)).1,(y0 n (qy T k) ((ob.2.drop lo).take len)).2))else (.d,T)):=rfl
   rw [he]
   have hdead': ∃ d1 d2,qn E T d1∧Rel E.cl .d y d2∧cle (qg d1 d2) (qg c1 c2)∧V.d.cells.length=(V.s k lo len).cells.length:=
    let ⟨d1,d2,h1,h2,h3⟩:=hdead;⟨d1,d2,h1,h2,h3,rfl⟩
   split
   ·exact hdead'
   ·rename_i ob hgk
    split
    case isFalse=>exact hdead'
    rename_i hfull
    obtain ⟨a1,a2,ho,hD,rfl⟩:=zW hT hgk
    simp only [Rel]at h
    obtain ⟨rfl,h⟩:=h
    rcases ho with ⟨b,ents,clk,es,h1,-⟩|⟨⟨A0,h1⟩,h2,h3⟩|⟨b,base,lim,cells,Tt,fz,c3,hμ,hw,hl,hf,hs,hrr,rfl⟩
    ·rcases h with ⟨A,hμ',-⟩|⟨b,base,e,lim,cap,A,hμ',-⟩<;>(rw [h1]at hμ';cases hμ')
    ·subst h3
     rcases h with ⟨A,-,rfl,rfl,rfl⟩|⟨b,base,e,lim,cap,A,hμ',-⟩
     ·have hn:(y0 n (qy T k) ob.2)=([],qy T k):=by rw [h2];rfl
      rw [if_pos rfl,hn]
      refine ⟨a2,c0,hD, ?_,fun b=>by simp only [qg,c0];omega,rfl⟩
      simp [Rel]
     ·rw [h1]at hμ';cases hμ'
    ·rcases h with ⟨A,h1,-⟩|⟨b',base',e,y7,cap,A,hμ',hle,hroom,hpos,hA,rfl⟩
     ·rw [h1]at hμ;cases hμ
     ·rw [hμ]at hμ';cases hμ'
      have hA':cap ≠ 0→A=⟨b,base+lo*ob.1,none⟩:=fun hc=>by
       rcases hA with hA|hA
       ·omega
       ·exact hA
      have hm:lo*ob.1+len*ob.1≤ob.2.length*ob.1:=by rw [← Nat.add_mul];exact Nat.mul_le_mul_right _ hfull
      have fin: ∀ (zs:List V) (T1:Mem) (d1 e3:Cnt),qn E T1 d1→ql E.cl ob.1 zs (seg cells (base+lo*ob.1) (len*ob.1)) e3→zs.length=len→cle (qg d1 e3) (qg a2 c3)→
       ∃ d1 d2,qn E T1 d1∧Rel E.cl (.o ob.1 zs) (.slice (some A) len cap) d2∧cle (qg d1 d2) (qg (qg (qg (qv b) c3) a2) c0)∧(V.o ob.1 zs).cells.length=(V.s k lo len).cells.length:=by
       intro zs T1 d1 e3 h4 h9 hlen' h6
       rcases Nat.eq_zero_or_pos cap with hc0|hcp
       ·refine ⟨d1,c0,h4, ?_, ?_,rfl⟩
        ·simp only [Rel]
         refine .inl ⟨List.length_eq_zero_iff.1 (by omega),⟨some A,by rw [hc0,show len=0 by omega]⟩,by trivial⟩
        ·intro z;have:=h6 z;simp only [qg,c0]at*;omega
       refine ⟨d1,qg (qv b) e3,h4, ?_, ?_,rfl⟩
       ·simp only [Rel]
        refine .inr ⟨b,base+lo*ob.1,cap,cells,Tt,fz,e3,by rw [hlen',hA' (by omega)],hcp,by rw [hlen'];exact hle, ?_,hw,hf,by rw [hlen'];exact h9,rfl⟩
        rw [hl];have:=Nat.add_mul lo cap ob.1;omega
       ·intro z;have:=h6 z;simp only [qg,c0]at*;omega
      split
      ·obtain ⟨d1,d2,h4,h5,h6⟩:=qa3 hg hD hrr
       obtain ⟨e1,e2,h7,h8,rfl⟩:=x6 lo h5
       obtain ⟨e3,e4,h9,h10,rfl⟩:=x6 len h8
       have hll:=J9 n (qy T k) ob.2
       have hlen':(((y0 n (qy T k) ob.2).1.drop lo).take len).length=len:=by
        simp only [List.length_take,List.length_drop,hll];omega
       rw [kG hm]at h9
       exact fin _ _ d1 e3 h4 h9 hlen' fun z=>by have:=h6 z;simp only [qg]at*;omega
      ·obtain ⟨e1,e2,h7,h8,rfl⟩:=x6 lo hrr
       obtain ⟨e3,e4,h9,h10,rfl⟩:=x6 len h8
       rw [kG hm]at h9
       obtain ⟨d1,d2,h4,h5,h6⟩:=qa3 hg hD h9
       have hll:=J9 n (qy T k) ((ob.2.drop lo).take len)
       have hlen':(y0 n (qy T k) ((ob.2.drop lo).take len)).1.length=len:=by
        rw [hll];simp only [List.length_take,List.length_drop];omega
       exact fin _ _ d1 d2 h4 h5 hlen' fun z=>by have:=h6 z;simp only [qg]at*;omega
  |p k idx off=>
   have he:qq (n+1) T (.p k idx off)=(match qp T k with
    |some (_,[x])=>if idx=0∧off=0 then (.b ((y0 n (qy T k) [x]).1.headD .d),(y0 n (qy T k) [x]).2)else (.d,T)
    |_=>(.d,T)):=rfl
   rw [he]
   have hdead': ∃ d1 d2,qn E T d1∧Rel E.cl .d y d2∧cle (qg d1 d2) (qg c1 c2)∧V.d.cells.length=(V.p k idx off).cells.length:=
    let ⟨d1,d2,h1,h2,h3⟩:=hdead;⟨d1,d2,h1,h2,h3,rfl⟩
   split
   ·rename_i e0 x hgk
    split
    ·rename_i hio
     obtain ⟨rfl,rfl⟩:=hio
     obtain ⟨a1,a2,ho,hD,rfl⟩:=zW hT hgk
     simp only [Rel]at h
     obtain ⟨rfl,b',base',e',y7,hμ',rfl⟩:=h
     rcases ho with ⟨b,ents,clk,es,h1,-⟩|⟨h1,h2,h3⟩|⟨b,base,lim,cells,Tt,fz,c3,hμ,hw,hl,hf,hs,hrr,rfl⟩
     ·rw [h1]at hμ';cases hμ'
     ·cases h2
     ·rw [hμ]at hμ';cases hμ'
      obtain ⟨d1,d2,h4,h5,h6⟩:=qa3 hg hD hrr
      simp only [List.length_singleton,Nat.one_mul]at hs h5
      have hll:=J9 n (qy T k) [x]
      match hces:(y0 n (qy T k) [x]).1,hll with
      |[x'],_=>
       rw [hces]at h5
       obtain ⟨u,hu,hsz,hlx,hon,hR⟩:=XD h5
       refine ⟨d1,qg (qv b') d2,h4, ?_, ?_,rfl⟩
       ·simp only [Rel,List.headD_cons]
        exact ⟨b',base',cells,Tt,fz,d2,u,by simp,by rw [hsz,hl];exact hs,hw,hf,by rw [hsz];exact hu.symm,by rw [hlx,hsz],hon,hR,rfl⟩
       ·intro z;have:=h6 z;simp only [qg]at*;omega
    ·exact hdead'
   ·exact hdead'
  |f fn first caps=>
   simp only [qq]
   simp only [Rel]at h
   obtain ⟨fs,cs,a1,a2,rfl,h1,h2,rfl⟩:=h
   obtain ⟨d1,d2,h3,h4,h5⟩:=QQ hg hT h1
   obtain ⟨d3,d4,h6,h7,h8⟩:=QQ hg h3 h2
   refine ⟨d3,qg d2 d4,h6, ?_, ?_,rfl⟩
   ·simp only [Rel];exact ⟨fs,cs,d2,d4,rfl,h4,h7,rfl⟩
   ·intro b;have:=h5 b;have:=h8 b;simp only [qg]at*;omega
  |a cs=>
   simp only [qq]
   simp only [Rel]at h
   obtain ⟨vs,rfl,h⟩:=h
   obtain ⟨d1,d2,h3,h4,h5⟩:=QQ hg hT h
   exact ⟨d1,d2,h3,by simp only [Rel];exact ⟨vs,rfl,h4⟩,h5,by simp [V.cells,KL]⟩
  |t vs=>
   simp only [qq]
   simp only [Rel]at h
   obtain ⟨ws,rfl,h⟩:=h
   obtain ⟨d1,d2,h3,h4,h5⟩:=QQ hg hT h
   exact ⟨d1,d2,h3,by simp only [Rel];exact ⟨ws,rfl,h4⟩,h5,rfl⟩
  |n e=>
   simp only [qq]
   simp only [Rel]at h
   obtain ⟨rfl,rfl⟩:=h
   exact ⟨c1,c0,hT,by simp [Rel],qH _,rfl⟩
  |m k=>
   have he:qq (n+1) T (.m k)=(match qp T k with
    |some (_,[.w _ es])=>(.w none es,qy T k)
    |_=>(.d,T)):=rfl
   rw [he]
   have hdead': ∃ d1 d2,qn E T d1∧Rel E.cl .d y d2∧cle (qg d1 d2) (qg c1 c2)∧V.d.cells.length=(V.m k).cells.length:=
    let ⟨d1,d2,h1,h2,h3⟩:=hdead;⟨d1,d2,h1,h2,h3,rfl⟩
   split
   ·rename_i e0 o0 es0 hgk
    obtain ⟨a1,a2,ho,hD,rfl⟩:=zW hT hgk
    simp only [Rel]at h
    obtain ⟨rfl,b',hμ',rfl⟩:=h
    rcases ho with ⟨b,ents,clk,es,h1,h2,h3,h4,rfl⟩|⟨⟨A0,h1⟩,-⟩|⟨b,base,lim,cells,Tt,fz,c3,h1,-⟩
    ·rw [h1]at hμ';cases hμ'
     simp only [List.cons.injEq,V.w.injEq,and_true]at h4
     obtain ⟨rfl,rfl⟩:=h4
     refine ⟨a2,qv b',hD, ?_,fun z=>by simp only [qg,c0];omega,rfl⟩
     simp only [Rel];exact ⟨b',ents,clk,rfl,h2,h3,by trivial⟩
    ·rw [h1]at hμ';cases hμ'
    ·rw [h1]at hμ';cases hμ'
   ·exact hdead'
  |w o es=>cases o<;>(simp only [qq];exact ⟨c1,c2,hT,j9 h rfl,qH _,by trivial⟩)
  |v x=>simp only [qq];exact ⟨c1,c2,hT,j9 h rfl,qH _,by trivial⟩
  |q=>simp only [qq];exact ⟨c1,c2,hT,j9 h rfl,qH _,by trivial⟩
  |i=>simp only [qq];exact ⟨c1,c2,hT,j9 h rfl,qH _,by trivial⟩
  |o=>simp only [qq];exact ⟨c1,c2,hT,j9 h rfl,qH _,by trivial⟩
  |b=>simp only [qq];exact ⟨c1,c2,hT,j9 h rfl,qH _,by trivial⟩
  |d=>simp only [qq];exact ⟨c1,c2,hT,by simpa only [Rel]using h,qH _,by trivial⟩
end Go.Vm
namespace Go.Vm
structure Frozen (τ:Bool) (E E':Env) (c:Cnt):Prop where
 hw:E'.w=E.w
 hI: ∀ σ b,E.I σ b→E'.I σ b
 hc: ∀ b,c b ≠ 0→E'.I τ b
theorem Frozen.left {τ:Bool} {E E':Env} {c1 c2:Cnt} (h:Frozen τ E E' (qg c1 c2)):Frozen τ E E' c1:=
 ⟨h.hw,h.hI,fun b hb=>h.hc b (by simp only [qg];omega)⟩
theorem Frozen.right {τ:Bool} {E E':Env} {c1 c2:Cnt} (h:Frozen τ E E' (qg c1 c2)):Frozen τ E E' c2:=
 ⟨h.hw,h.hI,fun b hb=>h.hc b (by simp only [qg];omega)⟩
theorem Frozen.cl {τ:Bool} {E E':Env} {c:Cnt} (h:Frozen τ E E' c):Frozen τ E.cl E'.cl c:=⟨h.hw,h.hI,h.hc⟩
theorem Frozen.mono0 {τ:Bool} {E E':Env} {c:Cnt} (h:Frozen τ E E' c):Mono E.cl E'.cl c0:=
 ⟨fun σ b hb=>⟨h.hI σ b hb,by simp [Env.cl,h.hw]⟩,fun b hb=>by simp [Env.cl,h.hw],fun k l hk=>by simp [Env.cl]at hk⟩
theorem qcK(τ:Bool) (x:V):(qM τ x).cells.length=x.cells.length:=by
 have hL: ∀ xs,(qO τ xs).length=xs.length:=by intro xs;induction xs<;>simp_all [qO]
 cases x
 case w o es=>cases o<;>rfl
 all_goals simp [qM,V.cells,hL]
theorem qaf(τ:Bool) (xs:List V):(qO τ xs).length=xs.length:=by induction xs<;>simp_all [qO]
mutual
theorem ZY {τ:Bool}: ∀ {x:V} {E E':Env} {y:Value} {c:Cnt},Rel E.cl x y c→Frozen τ E E' c→Rel E'.cl (qM τ x) y c0
 | .v x,E,E',y,c,h,fr=>by simp only [Rel,qM]at h ⊢;exact ⟨h.1,h.2.1,trivial⟩
 | .p ..,E,E',y,c,h,fr=>by simp only [Rel]at h;obtain ⟨-,b,base,e,lim,hμ,-⟩:=h;simp [Env.cl]at hμ
 | .s ..,E,E',y,c,h,fr=>by
   simp only [Rel]at h;obtain ⟨-,⟨A,hμ,-⟩|⟨b,base,e,lim,cap,A,hμ,-⟩⟩:=h<;>simp [Env.cl]at hμ
 | .q ..,E,E',y,c,h,fr=>by
   have h0:c=c0:=by simp only [Rel]at h;exact h.1
   subst h0;exact zP h fr.mono0
 | .i ..,E,E',y,c,h,fr=>by
   have h0:c=c0:=by simp only [Rel]at h;exact h.1
   subst h0;exact zP h fr.mono0
 | .o e xs,E,E',y,c,h,fr=>by
   simp only [Rel,qM]at h ⊢
   refine ⟨trivial, ?_⟩
   rcases h with ⟨rfl,⟨A,rfl⟩,rfl⟩|⟨b,base,cap,cells,T,fz,c1,rfl,hA,hle,hs,hw,hf,hr,rfl⟩
   ·exact ⟨A,0,by simp [qO],by simp [qO],.inl (by simp [qO])⟩
   ·refine ⟨some ⟨b,base,none⟩,cap,by rw [qaf],by rw [qaf];exact hle, ?_⟩
    ·refine .inr ⟨b,base,e,cells,T,fz,rfl,fr.hc b (by simp [qg,qv]),by simp only [Env.cl]at hw ⊢;rw [fr.hw];exact hw, ?_⟩
     rw [qaf]
     exact qeQ hr fr.right.cl
 | .n e,E,E',y,c,h,fr=>by
   simp only [Rel,qM]at h ⊢
   obtain ⟨rfl,rfl⟩:=h
   exact ⟨trivial,none,0,rfl,Nat.le_refl _,.inl trivial⟩
 | .b x,E,E',y,c,h,fr=>by
   simp only [Rel,qM]at h ⊢
   obtain ⟨b,base,cells,T,fz,c1,z,rfl,hle,hw,hf,hz,hl,ho,hr,rfl⟩:=h
   refine ⟨trivial,b,base,z.cells.size,cells,T,fz,fr.hc b (by simp [qg,qv]),by simp only [Env.cl]at hw ⊢;rw [fr.hw];exact hw,by simp, ?_⟩
   simp only [List.length_singleton,Nat.one_mul]
   rw [← hz]
   exact ZV rfl (by rw [qcK];exact hl) ho (ZY hr fr.right.cl)
 | .f fn first caps,E,E',y,c,h,fr=>by
   simp only [Rel,qM]at h ⊢
   obtain ⟨fs,cs,c1,c2,rfl,h1,h2,rfl⟩:=h
   exact ⟨fs,cs,c0,c0,rfl,Xy h1 fr.left,Xy h2 fr.right,rfl⟩
 | .a cs,E,E',y,c,h,fr=>by
   simp only [Rel,qM]at h ⊢
   obtain ⟨vs,rfl,h⟩:=h
   exact ⟨vs,rfl,Xy h fr⟩
 | .t cs,E,E',y,c,h,fr=>by
   simp only [Rel,qM]at h ⊢
   obtain ⟨vs,rfl,h⟩:=h
   exact ⟨vs,rfl,Xy h fr⟩
 | .m ..,E,E',y,c,h,fr=>by simp only [Rel]at h;obtain ⟨-,b,hμ,-⟩:=h;simp [Env.cl]at hμ
 | .w none es,E,E',y,c,h,fr=>by
   simp only [Rel,qM]at h ⊢
   obtain ⟨b,ents,clk,h1,h2,h3,rfl⟩:=h
   exact ⟨b,ents,clk,h1,by simp only [Env.cl]at h2 ⊢;rw [fr.hw];exact h2,h3,fr.hc b (by simp [qv]),by trivial⟩
 | .w (some σ) es,E,E',y,c,h,fr=>by
   have h0:c=c0:=by simp only [Rel]at h;obtain ⟨b,ents,clk,h1,h2,h3,h4,h5⟩:=h;exact h5
   subst h0;exact zP h fr.mono0
 | .d,E,E',y,c,h,fr=>by simp [Rel,qM]
theorem Xy {τ:Bool}: ∀ {xs:List V} {E E':Env} {ys:List Value} {c:Cnt},qk E.cl xs ys c→Frozen τ E E' c→qk E'.cl (qO τ xs) ys c0
 |[],E,E',ys,c,h,fr=>by simp only [qk,qO]at h ⊢;exact ⟨h.1,trivial⟩
 |x::xs,E,E',ys,c,h,fr=>by
  simp only [qk,qO]at h ⊢
  obtain ⟨y,t,c1,c2,rfl,h1,h2,rfl⟩:=h
  exact ⟨y,t,c0,c0,rfl,ZY h1 fr.left,Xy h2 fr.right,rfl⟩
theorem qeQ {τ:Bool}: ∀ {xs:List V} {E E':Env} {e:Nat} {ys:List Value} {c:Cnt},ql E.cl e xs ys c→Frozen τ E E' c→ql E'.cl e (qO τ xs) ys c0
 |[],E,E',e,ys,c,h,fr=>by simp only [ql,qO]at h ⊢;exact ⟨h.1,trivial⟩
 |x::xs,E,E',e,ys,c,h,fr=>by
  simp only [ql,qO]at h ⊢
  obtain ⟨y,t,c1,c2,rfl,hs,hl,ho,h1,h2,rfl⟩:=h
  exact ⟨y,t,c0,c0,rfl,hs,by rw [qcK];exact hl,ho,ZY h1 fr.left,qeQ h2 fr.right,rfl⟩
end
structure Forget (E E':Env):Prop where
 hw:E'.w=E.w
 hI: ∀ b,E.I false b→E'.I false b
theorem Forget.cl {E E':Env} (h:Forget E E'):Forget E.cl E'.cl:=⟨h.hw,h.hI⟩
mutual
theorem K7: ∀ {x:V} {E E':Env} {y:Value} {c:Cnt},Rel E x y c→qP x=true→Forget E E'→Rel E' x y c
 | .v x,E,E',y,c,h,hn,fr=>by simpa only [Rel]using h
 | .p ..,E,E',y,c,h,hn,fr=>by simp [qP]at hn
 | .s ..,E,E',y,c,h,hn,fr=>by simp [qP]at hn
 | .q τ xs idx off,E,E',y,c,h,hn,fr=>by
   simp only [qP,Bool.and_eq_true,Bool.not_eq_true']at hn
   obtain ⟨rfl,hn⟩:=hn
   simp only [Rel]at h ⊢
   obtain ⟨h0,b,base,e,cells,T,fz,hI,hw,hy,hr⟩:=h
   exact ⟨h0,b,base,e,cells,T,fz,fr.hI b hI,by rw [fr.hw];exact hw,hy,K4 hr hn fr.cl⟩
 | .i τ xs,E,E',y,c,h,hn,fr=>by
   simp only [qP,Bool.and_eq_true,Bool.not_eq_true']at hn
   obtain ⟨rfl,hn⟩:=hn
   simp only [Rel]at h ⊢
   obtain ⟨h0,A,cap,hy,hle,h⟩:=h
   refine ⟨h0,A,cap,hy,hle, ?_⟩
   rcases h with h|⟨b,base,e,cells,T,fz,hA,hI,hw,hr⟩
   ·exact .inl h
   ·exact .inr ⟨b,base,e,cells,T,fz,hA,fr.hI b hI,by rw [fr.hw];exact hw,K4 hr hn fr.cl⟩
 | .o e xs,E,E',y,c,h,hn,fr=>by
   simp only [qP]at hn
   simp only [Rel]at h ⊢
   rcases h with h|⟨b,base,cap,cells,T,fz,c1,hy,hA,hle,hs,hw,hf,hr,rfl⟩
   ·exact .inl h
   ·exact .inr ⟨b,base,cap,cells,T,fz,c1,hy,hA,hle,hs,by rw [fr.hw];exact hw,hf,K4 hr hn fr.cl,rfl⟩
 | .n e,E,E',y,c,h,hn,fr=>by simpa only [Rel]using h
 | .b x,E,E',y,c,h,hn,fr=>by
   simp only [qP]at hn
   simp only [Rel]at h ⊢
   obtain ⟨b,base,cells,T,fz,c1,z,hy,hle,hw,hf,hz,hl,ho,hr,rfl⟩:=h
   exact ⟨b,base,cells,T,fz,c1,z,hy,hle,by rw [fr.hw];exact hw,hf,hz,hl,ho,K7 hr hn fr.cl,rfl⟩
 | .f fn first caps,E,E',y,c,h,hn,fr=>by
   simp only [qP,Bool.and_eq_true]at hn
   simp only [Rel]at h ⊢
   obtain ⟨fs,cs,c1,c2,hy,h1,h2,rfl⟩:=h
   exact ⟨fs,cs,c1,c2,hy,Xz h1 hn.1 fr,Xz h2 hn.2 fr,rfl⟩
 | .a cs,E,E',y,c,h,hn,fr=>by
   simp only [qP]at hn
   simp only [Rel]at h ⊢
   obtain ⟨vs,hy,h⟩:=h
   exact ⟨vs,hy,Xz h hn fr⟩
 | .t cs,E,E',y,c,h,hn,fr=>by
   simp only [qP]at hn
   simp only [Rel]at h ⊢
   obtain ⟨vs,hy,h⟩:=h
   exact ⟨vs,hy,Xz h hn fr⟩
 | .m ..,E,E',y,c,h,hn,fr=>by simp [qP]at hn
 | .w none es,E,E',y,c,h,hn,fr=>by simp only [Rel]at h ⊢;rw [fr.hw];exact h
 | .w (some τ) es,E,E',y,c,h,hn,fr=>by
   simp only [qP,Bool.not_eq_true']at hn
   subst hn
   simp only [Rel]at h ⊢
   obtain ⟨b,ents,clk,h1,h2,h3,h4,h5⟩:=h
   exact ⟨b,ents,clk,h1,by rw [fr.hw];exact h2,h3,fr.hI b h4,h5⟩
 | .d,E,E',y,c,h,hn,fr=>by simpa only [Rel]using h
theorem Xz: ∀ {xs:List V} {E E':Env} {ys:List Value} {c:Cnt},qk E xs ys c→qW xs=true→Forget E E'→qk E' xs ys c
 |[],E,E',ys,c,h,hn,fr=>by simpa only [qk]using h
 |x::xs,E,E',ys,c,h,hn,fr=>by
  simp only [qW,Bool.and_eq_true]at hn
  simp only [qk]at h ⊢
  obtain ⟨y,t,c1,c2,hy,h1,h2,rfl⟩:=h
  exact ⟨y,t,c1,c2,hy,K7 h1 hn.1 fr,Xz h2 hn.2 fr,rfl⟩
theorem K4: ∀ {xs:List V} {E E':Env} {e:Nat} {ys:List Value} {c:Cnt},ql E e xs ys c→qW xs=true→Forget E E'→ql E' e xs ys c
 |[],E,E',e,ys,c,h,hn,fr=>by simpa only [ql]using h
 |x::xs,E,E',e,ys,c,h,hn,fr=>by
  simp only [qW,Bool.and_eq_true]at hn
  simp only [ql]at h ⊢
  obtain ⟨y,t,c1,c2,hy,hs,hl,ho,h1,h2,rfl⟩:=h
  exact ⟨y,t,c1,c2,hy,hs,hl,ho,K7 h1 hn.1 fr,K4 h2 hn.2 fr,rfl⟩
end
mutual
theorem QU: ∀ {x:V} {E:Env} {y:Value} {c:Cnt},Rel E x y c→qZ x=true→c=c0
 | .v x,E,y,c,h,hz=>by simp only [Rel]at h;exact h.2.2
 | .p ..,E,y,c,h,hz=>by simp only [Rel]at h;exact h.1
 | .s ..,E,y,c,h,hz=>by simp only [Rel]at h;exact h.1
 | .q ..,E,y,c,h,hz=>by simp only [Rel]at h;exact h.1
 | .i ..,E,y,c,h,hz=>by simp only [Rel]at h;exact h.1
 | .o ..,E,y,c,h,hz=>by simp [qZ]at hz
 | .b ..,E,y,c,h,hz=>by simp [qZ]at hz
 | .n ..,E,y,c,h,hz=>by simp only [Rel]at h;exact h.2
 | .f fn first caps,E,y,c,h,hz=>by
   simp only [qZ,Bool.and_eq_true]at hz
   simp only [Rel]at h
   obtain ⟨fs,cs,c1,c2,-,h1,h2,rfl⟩:=h
   rw [QS h1 hz.1,QS h2 hz.2];rfl
 | .a cs,E,y,c,h,hz=>by
   simp only [qZ]at hz;simp only [Rel]at h
   obtain ⟨vs,-,h⟩:=h;exact QS h hz
 | .t cs,E,y,c,h,hz=>by
   simp only [qZ]at hz;simp only [Rel]at h
   obtain ⟨vs,-,h⟩:=h;exact QS h hz
 | .m ..,E,y,c,h,hz=>by simp only [Rel]at h;exact h.1
 | .w none _,E,y,c,h,hz=>by simp [qZ]at hz
 | .w (some _) _,E,y,c,h,hz=>by simp only [Rel]at h;obtain ⟨b,ents,clk,h1,h2,h3,h4,h5⟩:=h;exact h5
 | .d,E,y,c,h,hz=>by simpa only [Rel]using h
theorem QS: ∀ {xs:List V} {E:Env} {ys:List Value} {c:Cnt},qk E xs ys c→ya xs=true→c=c0
 |[],E,ys,c,h,hz=>by simp only [qk]at h;exact h.2
 |x::xs,E,ys,c,h,hz=>by
  simp only [ya,Bool.and_eq_true]at hz
  simp only [qk]at h
  obtain ⟨y,t,c1,c2,-,h1,h2,rfl⟩:=h
  rw [QU h1 hz.1,QS h2 hz.2];rfl
end
theorem qeU {E:Env} {e:Nat}: ∀ {xs:List V} {ys:List Value} {c:Cnt},ql E e xs ys c→ya xs=true→c=c0
 |[],ys,c,h,hz=>by simp only [ql]at h;exact h.2
 |x::xs,ys,c,h,hz=>by
  simp only [ya,Bool.and_eq_true]at hz
  simp only [ql]at h
  obtain ⟨y,t,c1,c2,-,-,-,-,h1,h2,rfl⟩:=h
  rw [QU h1 hz.1,qeU h2 hz.2];rfl
structure Names (d j j':Nat) (E E':Env):Prop where
 hw:E'.w=E.w
 hI:E'.I=E.I
 hμ: ∀ k l,E.μ k=some l→E'.μ k=some l
 hout: ∀ k:Key,k.1 ≠ d→E'.μ k=E.μ k
 hfree: ∀ i,j'≤i→E'.μ (d,i)=none
 hjj:j≤j'
theorem Names.mono {d j j':Nat} {E E':Env} (h:Names d j j' E E') (c:Cnt):Mono E E' c:=
 ⟨fun τ b hb=>⟨by rw [h.hI];exact hb,by rw [h.hw]⟩,fun b _=>by rw [h.hw],h.hμ⟩
theorem Names.cl {d j j':Nat} {E E':Env} (h:Names d j j' E E'):E'.cl=E.cl:=by
 obtain ⟨w,I,μ⟩:=E;obtain ⟨w',I',μ'⟩:=E'
 have:=h.hw;have:=h.hI
 simp_all [Env.cl]
theorem Names.trans {d j j' j'':Nat} {E E' E'':Env} (h:Names d j j' E E') (h':Names d j' j'' E' E''):Names d j j'' E E'':=
 ⟨by rw [h'.hw,h.hw],by rw [h'.hI,h.hI],fun k l hk=>h'.hμ k l (h.hμ k l hk),fun k hk=>by rw [h'.hout k hk,h.hout k hk],h'.hfree,Nat.le_trans h.hjj h'.hjj⟩
theorem JW {d j:Nat} {E:Env} (h: ∀ i,j≤i→E.μ (d,i)=none):Names d j j E E:=⟨rfl,rfl,fun _ _ h=>h,fun _ _=>rfl,h,Nat.le_refl _⟩
def Env.name(E:Env) (k:Key) (l:Loc):Env:={E with μ:=fun k'=>if k'=k then some l else E.μ k'}
theorem j6 {d j:Nat} {E:Env} (h: ∀ i,j≤i→E.μ (d,i)=none) (l:Loc):Names d j (j+1) E (E.name (d,j) l):=by
 refine ⟨rfl,rfl,fun k l' hk=> ?_,fun k hk=> ?_,fun i hi=> ?_,by omega⟩
 ·simp only [Env.name];split
  ·rename_i e;subst e;rw [h j (Nat.le_refl _)]at hk;cases hk
  ·exact hk
 ·simp only [Env.name];rw [if_neg];rintro rfl;exact hk rfl
 ·simp only [Env.name];rw [if_neg (by simp;omega)];exact h i (by omega)
theorem qee {d j:Nat} {E:Env} (hf: ∀ i,j≤i→E.μ (d,i)=none) {x:V} {y:Value} {c:Cnt} (h:Rel E x y c):
 ∃ E' c',Names d j (zd d j x).2.1 E E'∧Rel E' (zd d j x).1 y c0∧qn E' (zd d j x).2.2 c'∧cle c' c:=by
 have hother: ∀ z:V,z=x→zd d j x=(if qZ z then z else .d,j,[])→
  ∃ E' c',Names d j (zd d j x).2.1 E E'∧Rel E' (zd d j x).1 y c0∧qn E' (zd d j x).2.2 c'∧cle c' c:=by
  rintro z rfl he
  rw [he]
  refine ⟨E,c0,JW hf, ?_,rfl,fun _=>Nat.zero_le _⟩
  simp only
  split
  ·rename_i hz
   have:=QU h hz;subst this
   exact h
  ·exact Km _ _
 cases x with
 |o e xs=>
  simp only [Rel]at h
  rcases h with ⟨rfl,⟨A,rfl⟩,rfl⟩|⟨b,base,cap,cells,T,fz,c1,rfl,hA,hle,hs,hw,hfz,hr,rfl⟩
  ·refine ⟨E.name (d,j) (.emp A),c0,j6 hf _, ?_, ?_,qH _⟩
   ·simp only [zd,Rel];exact ⟨trivial,.inl ⟨A,by simp [Env.name],trivial,by trivial,by trivial⟩⟩
   ·simp only [zd,qn];exact ⟨c0,c0,.inr (.inl ⟨⟨A,by simp [Env.name]⟩,rfl,rfl⟩),rfl,rfl⟩
  ·refine ⟨E.name (d,j) (.at b base e cells.size),qg (qv b) c1,j6 hf _, ?_, ?_,qH _⟩
   ·simp only [zd,Rel]
    exact ⟨by trivial,.inr ⟨b,base,e,cells.size,cap,_,by simp [Env.name],hle,by simpa using hs,fun _=>hA,.inr (by simp),rfl⟩⟩
   ·simp only [zd,qn]
    refine ⟨qg (qv b) c1,c0,.inr (.inr ⟨b,base,cells.size,cells,T,fz,c1,by simp [Env.name],hw,rfl,hfz, ?_, ?_,rfl⟩),rfl,rfl⟩
    ·exact Nat.le_trans (Nat.add_le_add_left (Nat.mul_le_mul_right _ hle) _) hs
    ·exact zZ hr (xY (E.name (d,j) (.at b base e cells.size)) c1)
 |b x=>
  simp only [Rel]at h
  obtain ⟨b,base,cells,T,fz,c1,z,rfl,hle,hw,hfz,hz,hl,ho,hr,rfl⟩:=h
  refine ⟨E.name (d,j) (.at b base x.cells.length cells.size),qg (qv b) c1,j6 hf _, ?_, ?_,qH _⟩
  ·simp only [zd,Rel];exact ⟨by trivial,b,base,x.cells.length,cells.size,by simp [Env.name],by simp⟩
  ·simp only [zd,qn]
   refine ⟨qg (qv b) c1,c0,.inr (.inr ⟨b,base,cells.size,cells,T,fz,c1,by simp [Env.name],hw,rfl,hfz,by simpa [hl]using hle, ?_,rfl⟩),rfl,rfl⟩
   simp only [List.length_singleton,Nat.one_mul,hl]
   rw [← hz]
   exact ZV rfl hl ho (zP hr (xY (E.name (d,j) (.at b base z.cells.size cells.size)) c1))
 |w o es=>
  cases o with
  |some τ=>exact hother _ rfl rfl
  |none=>
   simp only [Rel]at h
   obtain ⟨b,ents,clk,rfl,h2,h3,rfl⟩:=h
   refine ⟨E.name (d,j) (.mp b),qv b,j6 hf _, ?_, ?_,qH _⟩
   ·simp only [zd,Rel];exact ⟨by trivial,b,by simp [Env.name],by trivial⟩
   ·simp only [zd,qn]
    exact ⟨qv b,c0,.inl ⟨b,ents,clk,es,by simp [Env.name],h2,h3,rfl,rfl⟩,rfl,rfl⟩
 |_=>exact hother _ rfl rfl
theorem KW {d:Nat}: ∀ {xs:List V} {j:Nat} {E:Env} {ys:List Value} {c:Cnt},(∀ i,j≤i→E.μ (d,i)=none)→qk E xs ys c→
 ∃ E' c',Names d j (zb d j xs).2.1 E E'∧qk E' (zb d j xs).1 ys c0∧qn E' (zb d j xs).2.2 c'∧cle c' c
 |[],j,E,ys,c,hf,h=>by
  simp only [qk]at h
  exact ⟨E,c0,JW hf,by simp only [zb,qk];exact ⟨h.1,by trivial⟩,rfl,fun _=>Nat.zero_le _⟩
 |x::xs,j,E,ys,c,hf,h=>by
  simp only [qk]at h
  obtain ⟨y,t,c1,c2,rfl,h1,h2,rfl⟩:=h
  obtain ⟨E1,d1,hn1,hr1,ht1,hl1⟩:=qee hf h1
  replace h2:=yA h2 (hn1.mono _)
  obtain ⟨E2,d2,hn2,hr2,ht2,hl2⟩:=KW hn1.hfree h2
  refine ⟨E2,qg d1 d2,hn1.trans hn2, ?_, ?_,yJ hl1 hl2⟩
  ·simp only [zb,qk]
   exact ⟨y,t,c0,c0,rfl,zP hr1 (hn2.mono _),hr2,rfl⟩
  ·simp only [zb]
   exact yT (zH ht1 (hn2.mono _)) ht2
theorem KV {d j:Nat} {E:Env} (hf: ∀ i,j≤i→E.μ (d,i)=none) {x:V} {y:Value} {c:Cnt} (h:Rel E x y c):
 ∃ E' c',Names d j (qG d j x).2.1 E E'∧Rel E' (qG d j x).1 y c0∧qn E' (qG d j x).2.2 c'∧cle c' c:=by
 cases x with
 |a cs=>
  simp only [Rel]at h
  obtain ⟨vs,rfl,h⟩:=h
  obtain ⟨E',c',h1,h2,h3,h4⟩:=KW hf h
  exact ⟨E',c',h1,by simp only [qG,Rel];exact ⟨vs,rfl,h2⟩,h3,h4⟩
 |f fn first caps=>
  simp only [Rel]at h
  obtain ⟨fs,cs,c1,c2,rfl,h1,h2,rfl⟩:=h
  obtain ⟨E1,d1,hn1,hr1,ht1,hl1⟩:=KW hf h1
  replace h2:=yA h2 (hn1.mono _)
  obtain ⟨E2,d2,hn2,hr2,ht2,hl2⟩:=KW hn1.hfree h2
  refine ⟨E2,qg d1 d2,hn1.trans hn2, ?_, ?_,yJ hl1 hl2⟩
  ·simp only [qG,Rel]
   exact ⟨fs,cs,c0,c0,rfl,yA hr1 (hn2.mono _),hr2,rfl⟩
  ·simp only [qG]
   exact yT (zH ht1 (hn2.mono _)) ht2
 |_=>exact qee hf h
theorem qed {d:Nat}: ∀ {xs:List V} {j:Nat} {E:Env} {ys:List Value} {c:Cnt},(∀ i,j≤i→E.μ (d,i)=none)→qk E xs ys c→
 ∃ E' c',Names d j (xn d j xs).2.1 E E'∧qk E' (xn d j xs).1 ys c0∧qn E' (xn d j xs).2.2 c'∧cle c' c
 |[],j,E,ys,c,hf,h=>by
  simp only [qk]at h
  exact ⟨E,c0,JW hf,by simp only [xn,qk];exact ⟨h.1,by trivial⟩,rfl,fun _=>Nat.zero_le _⟩
 |x::xs,j,E,ys,c,hf,h=>by
  simp only [qk]at h
  obtain ⟨y,t,c1,c2,rfl,h1,h2,rfl⟩:=h
  obtain ⟨E1,d1,hn1,hr1,ht1,hl1⟩:=KV hf h1
  replace h2:=yA h2 (hn1.mono _)
  obtain ⟨E2,d2,hn2,hr2,ht2,hl2⟩:=qed hn1.hfree h2
  refine ⟨E2,qg d1 d2,hn1.trans hn2, ?_, ?_,yJ hl1 hl2⟩
  ·simp only [xn,qk]
   exact ⟨y,t,c0,c0,rfl,zP hr1 (hn2.mono _),hr2,rfl⟩
  ·simp only [xn]
   exact yT (zH ht1 (hn2.mono _)) ht2
theorem qaN {d:Nat} {E:Env} (hf: ∀ i,E.μ (d,i)=none) {x:V} {y:Value} {c:Cnt} (h:Rel E x y c):
 ∃ E' c' j',Names d 0 j' E E'∧Rel E' (zK d x).1 y c0∧qn E' (zK d x).2 c'∧cle c' c:=by
 cases x with
 |t vs=>
  simp only [Rel]at h
  obtain ⟨ws,rfl,h⟩:=h
  obtain ⟨E',c',h1,h2,h3,h4⟩:=qed (j:=0) (fun i _=>hf i) h
  exact ⟨E',c',_,h1,by simp only [zK,Rel];exact ⟨ws,rfl,h2⟩,h3,h4⟩
 |_=>
  obtain ⟨E',c',h1,h2,h3,h4⟩:=KV (j:=0) (fun i _=>hf i) h
  exact ⟨E',c',_,h1,h2,h3,h4⟩
end Go.Vm
set_option linter.unusedSectionVars false
namespace Go.Vm
theorem xP(b o n:Nat):(⟨b,o,none⟩:Addr).add n=⟨b,o+n,none⟩:=by
 unfold Addr.add;split
 ·rename_i h;subst h;rfl
 ·rfl
theorem Qz {w:World} {b o:Nat} {cells:Array Value} {T:TypeId} {fz:Nat × Nat} (h:w.heap[b]? =some (.cells cells T fz)):
 w.cell? ⟨b,o,none⟩=cells[o]? :=by simp [World.cell?,h]
theorem qhd {w:World} {b o:Nat} {cells:Array Value} {T:TypeId} {fz:Nat × Nat} (h:w.heap[b]? =some (.cells cells T fz)) (hf:jA fz cells.size) (ho:o < cells.size):
 w.frozen? ⟨b,o,none⟩=false:=by
 simp only [World.frozen?,h,Bool.and_eq_false_iff,decide_eq_false_iff_not]
 unfold jA at hf;omega
theorem Qa {cells:Array Value} {o n j:Nat} {v:Value} (h:(seg cells o n)[j]? =some v):cells[o+j]? =some v:=by
 simp only [seg,List.getElem?_take]at h
 split at h
 ·simpa using h
 ·cases h
theorem qkL {P:Program} {w:World} {b o n:Nat} {cells:Array Value} {T:TypeId} {fz:Nat × Nat} (h:w.heap[b]? =some (.cells cells T fz)) (hn:o+n≤cells.size):
 (loadCells ⟨b,o,none⟩ n).run P w= .ok (seg cells o n).toArray w:=by
 have hl:(seg cells o n).length=n:=XJ hn
 have:=run_loadCells_list (P:=P) w ⟨b,o,none⟩ (seg cells o n) (fun j v hv=>by rw [xP,Qz h];exact Qa hv)
 rwa [hl]at this
theorem zx {P:Program} {w:World} {t:TypeId} {d:TypeDesc} (h:P.underlying t=some d):(underlying t).run P w= .ok d w:=by
 simp [underlying,h]
theorem Z2 {P:Program} {w:World} {t:TypeId} {i:TypeInfo} (h:P.info? t=some i):(typeInfo t).run P w= .ok i w:=by
 simp [typeInfo,h]
def jU:TypeDesc→Bool
 | .struct _| .array _ _=>true
 |_=>false
theorem XI {P:Program} {w:World} {t:TypeId} {d:TypeDesc} (h:P.underlying t=some d):(isAgg t).run P w= .ok (jU d) w:=by
 simp only [isAgg,Sem.run_bind,zx h,Result.andThen_ok]
 cases d<;>rfl
theorem jC {P:Program} {w:World} {t:TypeId} {i:TypeInfo} (h:P.info? t=some i):(sizeOf t).run P w= .ok i.size w:=by
 simp [sizeOf,Z2 h]
theorem qbh {P:Program} {w:World} {t:TypeId} {d:TypeDesc} {i:TypeInfo} {b o:Nat} {cells:Array Value} {T:TypeId} {fz:Nat × Nat}
 (hu:P.underlying t=some d) (hi:P.info? t=some i) (h:w.heap[b]? =some (.cells cells T fz)):
 (jU d=true→o+i.size≤cells.size→(loadVar t ⟨b,o,none⟩).run P w= .ok (.agg (seg cells o i.size).toArray) w)∧
 (jU d=false→ ∀ v,cells[o]? =some v→(loadVar t ⟨b,o,none⟩).run P w= .ok v w):=by
 refine ⟨fun ha hn=> ?_,fun ha v hv=> ?_⟩
 ·simp [loadVar,XI hu,ha,jC hi,qkL h hn]
 ·simp [loadVar,XI hu,ha,Qz h,hv]
structure Wrote (w:World) (b:Nat) (cells':Array Value) (w':World):Prop where
 os:w'.os=w.os
 tape:w'.tape=w.tape
 output:w'.output=w.output
 size:w'.heap.size=w.heap.size
 other: ∀ b',b' ≠ b→w'.heap[b']? =w.heap[b']?
 self: ∀ cells T fz,w.heap[b]? =some (.cells cells T fz)→w'.heap[b]? =some (.cells cells' T fz)∧cells'.size=cells.size
theorem qlk {w:World} {b o:Nat} {cells:Array Value} {T:TypeId} {fz:Nat × Nat} (h:w.heap[b]? =some (.cells cells T fz)) (v:Value):
 Wrote w b (cells.setIfInBounds o v) (w.setCell ⟨b,o,none⟩ v):=by
 refine ⟨rfl,rfl,rfl,by simp [World.setCell],fun b' hb=> ?_,fun cs T' fz' h'=> ?_⟩
 ·simp only [World.setCell,Array.getElem?_modify];rw [if_neg (by simpa using fun e=>hb e.symm)]
 ·rw [h]at h';cases h'
  refine ⟨?_,by simp⟩
  simp [World.setCell,Array.getElem?_modify,h]
def zg(l:List Value) (o:Nat) (vs:List Value):List Value:=l.take o++vs++l.drop (o+vs.length)
theorem Jk {l:List Value} {o:Nat} {vs:List Value} (h:o+vs.length≤l.length):(zg l o vs).length=l.length:=by
 simp [zg];omega
theorem qfv {l:List Value} {o:Nat} {v:Value} {vs:List Value} (h:o+(vs.length+1)≤l.length):zg (l.set o v) (o+1) vs=zg l o (v::vs):=by
 have ho:o < l.length:=by omega
 simp only [zg,List.length_cons]
 rw [List.set_eq_take_append_cons_drop,if_pos ho]
 have e1:(l.take o++v::l.drop (o+1)).take (o+1)=l.take o++[v]:=by
  have hl:(l.take o++[v]).length=o+1:=by simp;omega
  rw [show l.take o++v::l.drop (o+1)=(l.take o++[v])++l.drop (o+1)by simp, ← hl,List.take_left]
 have e2:(l.take o++v::l.drop (o+1)).drop (o+1+vs.length)=l.drop (o+(vs.length+1)):=by
  have hl:(l.take o++[v]).length=o+1:=by simp;omega
  rw [show l.take o++v::l.drop (o+1)=(l.take o++[v])++l.drop (o+1)by simp, ← hl,List.drop_length_add_append,List.drop_drop]
  congr 1;simp;omega
 rw [e1,e2];simp
theorem qbi {P:Program} {b o:Nat} {T:TypeId} {fz:Nat × Nat}: ∀ (vs:List Value) (i:Nat) (w:World) (cells:Array Value),w.heap[b]? =some (.cells cells T fz)→
 jA fz cells.size→o+i+vs.length≤cells.size→zO vs→
 ∃ w' cells',(storeCells ⟨b,o,none⟩ vs i).run P w= .ok () w'∧Wrote w b cells' w'∧cells'.toList=zg cells.toList (o+i) vs
 |[],i,w,cells,h,hf,hn,ho=>by
  refine ⟨w,cells,rfl,⟨rfl,rfl,rfl,rfl,fun _ _=>rfl,fun cs T' fz' h'=>by rw [h]at h';cases h';exact ⟨h,rfl⟩⟩,by simp [zg]⟩
 |v::vs,i,w,cells,h,hf,hn,ho=>by
  simp only [List.length_cons]at hn
  have hlt:o+i < cells.size:=by omega
  have hw:=qlk (o:=o+i) h v
  have h1:=(hw.self _ _ _ h).1
  obtain ⟨w',cells',hr,hW,hc⟩:=qbi (P:=P) (b:=b) (o:=o) vs (i+1) (w.setCell ⟨b,o+i,none⟩ v) (cells.setIfInBounds (o+i) v) h1 (by simpa using hf) (by simp only [Array.size_setIfInBounds];omega)
   (fun z hz=>ho z (List.mem_cons_of_mem _ hz))
  refine ⟨w',cells', ?_, ?_, ?_⟩
  ·have hv:v.oneCell'=true:=by have:=ho v (List.mem_cons_self);cases v<;>simp_all [Value.oneCell,Value.oneCell']
   simp only [storeCells,Sem.run_bind,xP,run_store P w _ v .plain hv,Qz h,Array.getElem?_eq_getElem hlt,qhd h hf hlt]
   simpa using hr
  ·exact ⟨hW.os.trans hw.os,hW.tape.trans hw.tape,hW.output.trans hw.output,hW.size.trans hw.size,fun b' hb=>(hW.other b' hb).trans (hw.other b' hb),fun cs T' fz' h'=>⟨(hW.self _ _ _ (hw.self _ _ _ h').1).1,(hW.self _ _ _ (hw.self _ _ _ h').1).2.trans (hw.self _ _ _ h').2⟩⟩
  ·rw [hc,Array.toList_setIfInBounds, ← Nat.add_assoc,qfv (l:=cells.toList) (o:=o+i) (by rw [Array.length_toList];exact hn)]
class Lay where
 B:Nat→Prop
 L:World→Prop
 st: ∀ w w':World,(∀ b,B b→w'.heap[b]? =w.heap[b]?)→L w→L w'
variable [Lay]
structure LayOk (E:Env):Prop where
 lb: ∀ b,Lay.B b→E.I false b
 ll:Lay.L E.w
theorem LayOk.next {E E':Env} (h:LayOk E) (hI: ∀ b,E.I false b→E'.I false b) (hw: ∀ b,E.I false b→E'.w.heap[b]? =E.w.heap[b]?):LayOk E':=
 ⟨fun b hb=>hI b (h.lb b hb),Lay.st E.w E'.w (fun b hb=>hw b (h.lb b hb)) h.ll⟩
theorem LayOk.same {E E':Env} (h:LayOk E) (hI:E'.I=E.I) (hw:E'.w=E.w):LayOk E':=h.next (fun b hb=>by rw [hI];exact hb) (fun b _=>by rw [hw])
structure Good (E:Env) (c:Cnt):Prop where
 one: ∀ b,c b≤1
 imm: ∀ τ b,E.I τ b→c b=0∧b < E.w.heap.size
 sub: ∀ b,E.I false b→E.I true b
 bnd: ∀ b,c b ≠ 0→b < E.w.heap.size
 lay:LayOk E
def z1(w:World) (b:Nat):Option Nat:=
 match w.heap[b]? with
 |some (.cells cells _ _)=>some cells.size
 |_=>none
structure Adv (E:Env) (c:Cnt) (E':Env) (c':Cnt):Prop where
 sizes: ∀ b n,z1 E.w b=some n→z1 E'.w b=some n
 os:E'.w.os=E.w.os
 tape:E'.w.tape=E.w.tape
 output:E'.w.output=E.w.output
 size:E.w.heap.size≤E'.w.heap.size
 frame: ∀ b,b < E.w.heap.size→c b=0→E'.w.heap[b]? =E.w.heap[b]?
 sub: ∀ τ b,E.I τ b→E'.I τ b
 own: ∀ b,c' b ≠ 0→c b ≠ 0∨E.w.heap.size≤b
 imm: ∀ τ b,E'.I τ b→E.I τ b∨c b ≠ 0∨E.w.heap.size≤b
theorem jm(E:Env) (c:Cnt):Adv E c E c:=⟨fun _ _ h=>h,rfl,rfl,rfl,Nat.le_refl _,fun _ _ _=>rfl,fun _ _ h=>h,fun _ h=> .inl h,fun _ _ h=> .inl h⟩
theorem Adv.trans {E E' E'':Env} {c c' c'':Cnt} (h:Adv E c E' c') (h':Adv E' c' E'' c''):Adv E c E'' c'':=by
 refine ⟨fun b n hn=>h'.sizes b n (h.sizes b n hn),h'.os.trans h.os,h'.tape.trans h.tape,h'.output.trans h.output,Nat.le_trans h.size h'.size,fun b hb hc=> ?_,fun τ b hb=>h'.sub τ b (h.sub τ b hb),fun b hb=> ?_,fun τ b hb=> ?_⟩
 ·have:c' b=0:=by
   cases hc':c' b with
   |zero=>rfl
   |succ n=>rcases h.own b (by omega)with h1|h1<;>omega
  rw [h'.frame b (Nat.lt_of_lt_of_le hb h.size) this,h.frame b hb hc]
 ·rcases h'.own b hb with h1|h1
  ·exact h.own b h1
  ·exact .inr (Nat.le_trans h.size h1)
 ·rcases h'.imm τ b hb with h1|h1|h1
  ·exact h.imm τ b h1
  ·rcases h.own b h1 with h2|h2
   ·exact .inr (.inl h2)
   ·exact .inr (.inr h2)
  ·exact .inr (.inr (Nat.le_trans h.size h1))
theorem Good.le {E:Env} {c c':Cnt} (h:Good E c) (hl:cle c' c):Good E c':=
 ⟨fun b=>Nat.le_trans (hl b) (h.one b),fun τ b hb=>⟨by have:=(h.imm τ b hb).1;have:=hl b;omega,(h.imm τ b hb).2⟩,h.sub,fun b hb=>h.bnd b (by have:=hl b;omega),h.lay⟩
theorem Adv.le {E E':Env} {c c' c'':Cnt} (h:Adv E c E' c') (hl:cle c'' c'):Adv E c E' c'':=
 ⟨h.sizes,h.os,h.tape,h.output,h.size,h.frame,h.sub,fun b hb=>h.own b (by have:=hl b;omega),h.imm⟩
structure FRel (N:Nat) (E:Env) (st:St) (tmps:Array Value) (c:Cnt):Prop where
 sz:tmps.size=N
 σ:zo E st.σ tmps
 T:qn E st.T c
 g:Good E c
theorem QX {E:Env} {σ:Sl} {tmps:Array Value} {d:Nat} {x:V} {y:Value} (h:zo E σ tmps) (hx:Rel E x y c0) (hd:d < tmps.size):
 zo E ((d,x)::σ) (tmps.setIfInBounds d y):=by
 intro t z hz
 simp only [qw]at hz
 split at hz
 ·rename_i he;subst he;cases hz
  exact ⟨y,by simp [hd],hx⟩
 ·rename_i he
  obtain ⟨u,h1,h2⟩:=h t z hz
  exact ⟨u,by rw [Array.getElem?_setIfInBounds_ne he];exact h1,h2⟩
theorem FRel.put {N:Nat} {E:Env} {st:St} {tmps:Array Value} {c:Cnt} (h:FRel N E st tmps c) {d:Nat} {x:V} {y:Value} (hx:Rel E x y c0) (hd:d < N):
 FRel N E (st.put d x) (tmps.setIfInBounds d y) c:=
 ⟨by simpa using h.sz,QX h.σ hx (by rw [h.sz];exact hd),h.T,h.g⟩
end Go.Vm
namespace Go.Vm
variable [Lay]
def Env.drop(E:Env) (d:Nat):Env:={E with μ:=fun k=>if k.1=d then none else E.μ k}
theorem XG(E:Env) (d:Nat):Renamed d E (E.drop d):=⟨rfl,rfl,fun k hk=>by simp [Env.drop,hk]⟩
theorem kz(E:Env) (d i:Nat):(E.drop d).μ (d,i)=none:=by simp [Env.drop]
theorem Qe {E:Env} {st:St} {tmps:Array Value} {c:Cnt} (d:Nat) (hσ:zo E st.σ tmps) (hT:qn E st.T c):
 ∃ c',zo (E.drop d) (q9 d st).σ tmps∧qn (E.drop d) (q9 d st).T c'∧cle c' c:=by
 obtain ⟨c1,h1,h2⟩:=qfI (ZO d st.T) hT
 obtain ⟨c3,h3,h4⟩:=qfF d h1
 exact ⟨c3,qkN hσ (XG E d),qfG h3 (XG E d) (fun k ob hk=>Xa d hk),yc h4 h2⟩
theorem K3 {E:Env} {e d:Nat} {xs:List V} {ys:List Value} {c:Cnt} (h:ql E e xs ys c):ql (E.drop d) e (qz d xs) ys c:=qa6 h (XG E d)
theorem qeX {E:Env} {d:Nat} {x:V} {y:Value} {c:Cnt} (h:Rel E x y c):Rel (E.drop d) (qA d x) y c:=K8 h (XG E d)
theorem Good.drop {E:Env} {c:Cnt} (h:Good E c) (d:Nat):Good (E.drop d) c:=⟨h.one,h.imm,h.sub,h.bnd,h.lay.same rfl rfl⟩
theorem Ki {w w':World} {b:Nat} (h:w'.heap[b]? =w.heap[b]?):z1 w' b=z1 w b:=by simp only [z1,h]
theorem qcj {w:World} {b n:Nat} (h:z1 w b=some n): ∃ cells T fz,w.heap[b]? =some (.cells cells T fz)∧cells.size=n:=by
 unfold z1 at h;split at h
 ·rename_i cells T fz h1;exact ⟨cells,T,fz,h1,by simpa using h⟩
 ·cases h
theorem J3 {w:World} {b n:Nat} (h:z1 w b=some n):b < w.heap.size:=by
 obtain ⟨cells,T,fz,h1,-⟩:=qcj h
 exact (Array.getElem?_eq_some_iff.1 h1).1
structure Grew (w:World) (o:Obj) (w':World):Prop where
 os:w'.os=w.os
 tape:w'.tape=w.tape
 output:w'.output=w.output
 heap:w'.heap=w.heap.push o
theorem qap {N:Nat} {E:Env} {σ:Sl} {T:Mem} {tmps:Array Value} {c1 c2:Cnt} {d e:Nat} {xs:List V} {cells:Array Value} {ty:TypeId} {w':World}
 (hsz:tmps.size=N) (hσ:zo E σ tmps) (hT:qn E T c2) (hfree: ∀ i,E.μ (d,i)=none)
 (hle:xs.length*e≤cells.size) (hR:ql E e xs (seg cells 0 (xs.length*e)) c1) (hg:Good E (qg c1 c2))
 {fz:Nat × Nat} (hfz:jA fz cells.size) (hw:Grew E.w (.cells cells ty fz) w'):
 ∃ E' c',E'.w=w'∧(∀ k:Key,k.1 ≠ d→E'.μ k=E.μ k)∧E'.μ (d,0)=some (.at E.w.heap.size 0 e cells.size)∧FRel N E' {σ:=σ,T:=((d,0),e,xs)::T} tmps c'∧Adv E (qg c1 c2) E' c'∧(∀ b,c' b≤qv E.w.heap.size b+(c1 b+c2 b)):=by
 let E':Env:={w:=w',I:=E.I,μ:=(E.name (d,0) (.at E.w.heap.size 0 e cells.size)).μ}
 have hold: ∀ b,b < E.w.heap.size→w'.heap[b]? =E.w.heap[b]? :=fun b hb=>by rw [hw.heap,Array.getElem?_push,if_neg (by omega)]
 have hnew:w'.heap[E.w.heap.size]? =some (.cells cells ty fz):=by rw [hw.heap];simp
 have hsize:w'.heap.size=E.w.heap.size+1:=by rw [hw.heap];simp
 have hm: ∀ c,cle c (qg c1 c2)→Mono E E' c:=fun c hc=>
  ⟨fun τ b hb=>⟨hb,hold b (hg.imm τ b hb).2⟩,fun b hb=>hold b (hg.bnd b (by have:=hc b;omega)),fun k l hk=>by
   simp only [E',Env.name];split
   ·rename_i hk';subst hk';rw [hfree 0]at hk;cases hk
   ·exact hk⟩
 have hz: ∀ b,E.w.heap.size≤b→c1 b+c2 b=0:=fun b hb=>by
  cases hc:c1 b+c2 b with
  |zero=>rfl
  |succ n=>have:=hg.bnd b (by simp only [qg];omega);omega
 refine ⟨E',qg (qg (qv E.w.heap.size) c1) c2,rfl,fun k hk=>by simp only [E',Env.name];rw [if_neg (by rintro rfl;exact hk rfl)],by simp [E',Env.name],⟨hsz,xq hσ (hm c0 fun _=>Nat.zero_le _), ?_, ?_⟩, ?_,fun b=>by simp only [qg];omega⟩
 ·refine ⟨qg (qv E.w.heap.size) c1,c2,.inr (.inr ⟨E.w.heap.size,0,cells.size,cells,ty,fz,c1,by simp [E',Env.name],hnew,rfl,hfz,by simpa using hle,zZ hR (hm c1 (jt _ _)),rfl⟩),zH hT (hm c2 (yx _ _)),rfl⟩
 ·refine ⟨fun b=> ?_,fun τ b hb=> ?_,hg.sub,fun b hb=> ?_,hg.lay.next (fun b hb=>hb) (fun b hb=>hold b (hg.imm false b hb).2)⟩
  ·simp only [qg,qv]
   have:=hg.one b;simp only [qg]at this
   split
   ·have:=hz b (by omega);omega
   ·omega
  ·have:=hg.imm τ b hb
   simp only [qg,qv]at this ⊢
   rw [if_neg (by omega)]
   have e:E'.w.heap.size=E.w.heap.size+1:=hsize
   omega
  ·simp only [qg,qv]at hb
   have e:E'.w.heap.size=E.w.heap.size+1:=hsize
   split at hb
   ·omega
   ·have:=hg.bnd b (by simp only [qg];omega);omega
 ·refine ⟨fun b n hn=> ?_,hw.os,hw.tape,hw.output, ?_,fun b hb _=>hold b hb,fun _ _ h=>h,fun b hb=> ?_,fun τ b hb=> .inl hb⟩
  ·rw [Ki (hold b (J3 hn))];exact hn
  ·have e:E'.w.heap.size=E.w.heap.size+1:=hsize
   omega
  ·simp only [qg,qv]at hb ⊢
   split at hb
   ·exact .inr (by omega)
   ·exact .inl (by omega)
theorem qaq {N:Nat} {E:Env} {σ:Sl} {tmps:Array Value} {c1 c2:Cnt} {b:Nat} {cells':Array Value} {w':World} {T':Mem}
 (hσ:zo E σ tmps) (hg:Good E (qg (qg (qv b) c1) c2)) (hw:Wrote E.w b cells' w'):
 (∀ c,cle c (qg c1 c2)→Mono E {E with w:=w'} c)∧zo {E with w:=w'} σ tmps∧Good {E with w:=w'} (qg (qg (qv b) c1) c2)∧
  Adv E (qg (qg (qv b) c1) c2) {E with w:=w'} (qg (qg (qv b) c1) c2):=by
 have hb0:c1 b+c2 b=0:=by have:=hg.one b;simp only [qg,qv,if_pos]at this;omega
 have hI: ∀ τ b',E.I τ b'→b' ≠ b:=by
  rintro τ b' h rfl
  have:=(hg.imm τ b' h).1;simp only [qg,qv,if_pos]at this;omega
 have hm: ∀ c,cle c (qg c1 c2)→Mono E {E with w:=w'} c:=fun c hc=>
  ⟨fun τ b' hb=>⟨hb,hw.other b' (hI τ b' hb)⟩,fun b' hb=>hw.other b' (by rintro rfl;have:=hc b';simp only [qg]at this;omega),fun k l hk=>hk⟩
 refine ⟨hm,xq hσ (hm c0 fun _=>Nat.zero_le _), ?_, ?_⟩
 ·exact ⟨hg.one,fun τ b' hb'=>⟨(hg.imm τ b' hb').1,by simp only [hw.size];exact (hg.imm τ b' hb').2⟩,hg.sub,fun b' hb'=>by simp only [hw.size];exact hg.bnd b' hb',hg.lay.next (fun b hb=>hb) (fun b' hb'=>hw.other b' (hI false b' hb'))⟩
 ·refine ⟨fun b' n hn=> ?_,hw.os,hw.tape,hw.output,by simp only [hw.size];exact Nat.le_refl _,fun b' _ hc=>hw.other b' ?_,fun _ _ h=>h,fun _ h=> .inl h,fun _ _ h=> .inl h⟩
  ·by_cases hb':b'=b
   ·subst hb'
    obtain ⟨cells,T,fz,h1,rfl⟩:=qcj hn
    have:=hw.self _ _ _ h1
    simp only [z1,this.1,this.2]
   ·rw [Ki (hw.other b' hb')];exact hn
  rintro rfl;simp only [qg,qv,if_pos]at hc;omega
def cV1:Value→V→Option V
 | .bool b,_=>some (.v (.bool b))
 | .int k n,_=>some (.v (.int k n))
 | .string s,_=>some (.v (.string s))
 | .nilFunc,_=>some (.v .nilFunc)
 | .nilIface,_=>some (.v .nilIface)
 | .pointer none,_=>some (.v (.pointer none))
 | .map none,_=>some (.v (.map none))
 | .slice none 0 0,.n e=>some (.n e)
 |_,_=>none
def cVL:List Value→List V→Option (List V)
 |[],[]=>some []
 |x::xs,h::hs=>match cV1 x h,cVL xs hs with
  |some y,some ys=>some (y::ys)
  |_,_=>none
 |_,_=>none
def cV:Value→V→Option V
 | .agg cs,.a hs=>(cVL cs.toList hs).map .a
 |x,h=>cV1 x h
theorem qeW {E:Env} {v:Value} {h x:V} (hc:cV1 v h=some x):Rel E x v c0:=by
 unfold cV1 at hc
 split at hc<;>first|(cases hc;done)|(simp only [Option.some.injEq]at hc;subst hc;simp [Rel,zM])
theorem qa2 {E:Env}: ∀ {vs:List Value} {hs xs:List V},cVL vs hs=some xs→qk E xs vs c0
 |[],[],xs,h=>by simp [cVL]at h;subst h;simp [qk]
 |[],_::_,xs,h=>by simp [cVL]at h
 |_::_,[],xs,h=>by simp [cVL]at h
 |v::vs,h'::hs,xs,h=>by
  simp only [cVL]at h
  split at h
  ·rename_i y ys h1 h2
   simp only [Option.some.injEq]at h;subst h
   simp only [qk]
   exact ⟨v,vs,c0,c0,rfl,qeW h1,qa2 h2,rfl⟩
  ·cases h
theorem qa9 {E:Env} {v:Value} {h x:V} (hc:cV v h=some x):Rel E x v c0:=by
 unfold cV at hc
 split at hc
 ·rw [Option.map_eq_some_iff]at hc
  obtain ⟨xs,h1,rfl⟩:=hc
  simp only [Rel];exact ⟨_,rfl,qa2 h1⟩
 ·exact qeW hc
def trO:Operand→AO→Option AO
 | .tmp t,_=>some (.t t)
 | .const v,.c h=>(cV v h).map .c
 | .func f,_=>some (.c (.f (.func f) [] []))
 |_,_=>none
theorem qB {E:Env} {σ:Sl} {a:Act} {x:Operand} {h y:AO} {z:V} (hσ:zo E σ a.tmps) (ht:trO x h=some y) (hz:ev σ y=some z):Rel E z (a.eval x) c0:=by
 unfold trO at ht
 split at ht
 ·simp only [Option.some.injEq]at ht;subst ht
  simp only [ev]at hz
  obtain ⟨v,h1,h2⟩:=hσ _ _ hz
  simp only [Act.eval,Array.getD_eq_getD_getElem?,h1,Option.getD_some];exact h2
 ·rw [Option.map_eq_some_iff]at ht
  obtain ⟨u,h1,rfl⟩:=ht
  simp only [ev,Option.some.injEq]at hz;subst hz
  exact qa9 h1
 ·simp only [Option.some.injEq]at ht;subst ht
  simp only [ev,Option.some.injEq]at hz;subst hz
  simp only [Act.eval,Rel]
  exact ⟨#[],#[],c0,c0,rfl,by simp [qk],by simp [qk],rfl⟩
 ·cases ht
def xM:List Operand→List AO→Option (List AO)
 |[],[]=>some []
 |x::xs,h::hs=>match trO x h,xM xs hs with
  |some y,some ys=>some (y::ys)
  |_,_=>none
 |_,_=>none
theorem ZL {E:Env} {σ:Sl} {a:Act} (hσ:zo E σ a.tmps): ∀ {xs:List Operand} {hs ys:List AO} {zs:List V},xM xs hs=some ys→evL σ ys=some zs→
 qk E zs (xs.map a.eval) c0
 |[],[],ys,zs,h,hz=>by simp [xM]at h;subst h;simp [evL]at hz;subst hz;simp [qk]
 |[],_::_,ys,zs,h,hz=>by simp [xM]at h
 |_::_,[],ys,zs,h,hz=>by simp [xM]at h
 |x::xs,h'::hs,ys,zs,h,hz=>by
  simp only [xM]at h
  split at h
  ·rename_i y ys' h1 h2
   simp only [Option.some.injEq]at h;subst h
   simp only [evL]at hz
   split at hz
   ·rename_i z zs' h3 h4
    simp only [Option.some.injEq]at hz;subst hz
    simp only [List.map_cons,qk]
    exact ⟨_,_,c0,c0,rfl,qB hσ h1 h3,ZL hσ h2 h4,rfl⟩
   ·cases hz
  ·cases h
def xx(dst:Option Tmp) (E E':Env):Prop:= ∀ k:Key,dst ≠ some k.1→E'.μ k=E.μ k
theorem Zw {dst:Option Tmp} {E:Env}:xx dst E E:=fun _ _=>rfl
theorem jx {d:Nat} {E E':Env} (h: ∀ k:Key,k.1 ≠ d→E'.μ k=(E.drop d).μ k):xx (some d) E E':=fun k hk=>by
 have hk':k.1 ≠ d:=fun e=>hk (by rw [e])
 rw [h k hk'];simp [Env.drop,hk']
def zp(N:Nat) (E:Env) (c:Cnt) (st':St) (a:Act) (dst:Option Tmp):Result Next→Prop
 | .ok (.value y) w'=> ∃ E' c',E'.w=w'∧xx dst E E'∧FRel N E' st' (a.put dst y).tmps c'∧Adv E c E' c'
 | .ok .skip w'=> ∃ E' c',E'.w=w'∧xx dst E E'∧FRel N E' st' (a.put dst undef).tmps c'∧Adv E c E' c'
 |_=>False
def qE(N:Nat) (E:Env) (st st':St) (dst:Option Tmp) (r:Result Next):Prop:=
 ∃ d x y,dst=some d∧d < N∧r= .ok (.value y) E.w∧st'=st.put d x∧Rel E x y c0
theorem qE.to1 {N:Nat} {E:Env} {c:Cnt} {st st':St} {a:Act} {dst:Option Tmp} {r:Result Next} (hq:qE N E st st' dst r) (h:FRel N E st a.tmps c):zp N E c st' a dst r:=by
 obtain ⟨d,x,y,rfl,hd,rfl,rfl,hx⟩:=hq
 exact ⟨E,c,rfl,Zw,h.put hx hd,jm _ _⟩
theorem ze {N:Nat} {E:Env} {c:Cnt} {st:St} {a:Act} {d:Nat} {x:V} {y:Value} (h:FRel N E st a.tmps c) (hd:d < N) (hx:Rel E x y c0):
 qE N E st (st.put d x) (some d) (.ok (.value y) E.w):=⟨d,x,y,rfl,hd,rfl,rfl,hx⟩
end Go.Vm
namespace Go.Vm
variable [Lay]
def ke(P:Program) (t:TypeId):Option (Bool × Nat):=
 match P.underlying t,P.info? t with
 |some d,some i=>some (jU d,i.size)
 |_,_=>none
def slT(P:Program) (t:TypeId):Option (TypeId × TypeInfo):=
 match P.underlying t with
 |some (.slice e)=>(P.info? e).map (e,·)
 |_=>none
def YB(P:Program) (t:TypeId):Option Value:=(P.info? t).bind (·.zero)
def ZM(P:Program) (s:TypeId) (f:Nat):Option Field:=
 match P.underlying s with
 |some (.struct fs)=>fs[f]?
 |_=>none
def quX(P:Program) (t:TypeId):Option (Option IntKind):=
 match P.underlying t with
 |some (.int k)=>some (some k)
 |some .string=>some none
 |_=>none
def xp {α β γ:Type} (x:Option α) (y:Option β) (f:α→β→γ):Option γ:=
 match x,y with
 |some a,some b=>some (f a b)
 |_,_=>none
theorem jb {α β γ:Type} {x:Option α} {y:Option β} {f:α→β→γ} {r:γ} (h:xp x y f=some r): ∃ a b,x=some a∧y=some b∧r=f a b:=by
 unfold xp at h;split at h
 ·rename_i a b;exact ⟨a,b,rfl,rfl,(Option.some.inj h).symm⟩
 ·cases h
theorem qbC {α:Type} {s:Sem α} {a:α} (h:s.val? =some a):s= .pure a:=by
 unfold Sem.val? at h;split at h
 ·simp only [Option.some.injEq]at h;rw [h]
 ·cases h
section
variable {P:Program} {N:Nat} {E:Env} {c:Cnt} {st st':St} {a:Act} {d:Nat} {call:qS}
theorem qk8 {x:Operand} {hx y:AO} (ht:trO x hx=some y) (hs:qh call st (.mv d y)=some st') (h:FRel N E st a.tmps c) (hd:d < N):
 qE N E st st' (some d) (.ok (.value (a.eval x)) E.w):=by
 simp only [qh,Option.map_eq_some_iff]at hs
 obtain ⟨z,hz,rfl⟩:=hs
 exact ze h hd (qB h.σ ht hz)
theorem qla {o x y:Operand} {ho hx hy o' x' y':AO} (h1:trO o ho=some o') (h2:trO x hx=some x') (h3:trO y hy=some y')
 (hs:qh call st (.pick d o' x' y')=some st') (h:FRel N E st a.tmps c) (hd:d < N):
 qE N E st st' (some d) (Sem.run P (do pure (.value (if ← asBool (a.eval o)then a.eval x else a.eval y))) E.w):=by
 simp only [qh]at hs
 split at hs
 ·rename_i hc
  have:=qB h.σ h1 hc
  simp only [Rel]at this
  rw [Option.map_eq_some_iff]at hs
  obtain ⟨z,hz,rfl⟩:=hs
  simp only [this.1,asBool,Sem.run_bind,Sem.run_pure,Result.andThen_ok,if_true]
  exact ze h hd (qB h.σ h2 hz)
 ·rename_i hc
  have:=qB h.σ h1 hc
  simp only [Rel]at this
  rw [Option.map_eq_some_iff]at hs
  obtain ⟨z,hz,rfl⟩:=hs
  simp only [this.1,asBool,Sem.run_bind,Sem.run_pure,Result.andThen_ok]
  exact ze h hd (qB h.σ h3 hz)
 ·cases hs
theorem qbk(l:Array Value):seg l 0 l.size=l.toList:=by simp [seg, ← Array.length_toList]
theorem Kk(x:Cnt):cle c0 x:=fun _=>Nat.zero_le _
theorem qfi {x:AO} {v:Value} {t:TypeId} (hx: ∀ z,ev st.σ x=some z→Rel E z v c0)
 (hs:qh call st (.new d x)=some st') (h:FRel N E st a.tmps c) (hd:d < N):
 zp N E c st' a (some d) (Sem.run P (do pure (.value (.pointer (some (← newVar t v))))) E.w):=by
 simp only [qh]at hs
 split at hs
 ·rename_i z hz
  split at hs
  ·rename_i ho
   simp only [Option.some.injEq]at hs;subst hs
   have hr:=hx z hz
   obtain ⟨hl,hon⟩:=K9 hr ho
   obtain ⟨c1,hσ,hT,hle⟩:=Qe d h.σ h.T
   have hk:=qeX (d:=d) hr
   have hR:ql (E.drop d) z.cells.length [qA d z] (seg v.cells 0 ([qA d z].length*z.cells.length)) c0:=by
    simp only [List.length_singleton,Nat.one_mul,hl,qbk]
    exact ZV rfl (by rw [qdz,hl]) hon hk
   have hg:Good (E.drop d) (qg c0 c1):=by rw [qV];exact (h.g.drop d).le hle
   simp only [newVar,newRow,Sem.run_bind,run_newObj,Result.andThen_ok,Sem.run_pure]
   obtain ⟨E',c',hw,hks,hμ,hF,hA,hc⟩:=qap (d:=d) (tmps:=a.tmps) (ty:=t) (fz:=(0,0)) h.sz hσ hT (kz E d) (by simp [hl]) hR hg (.inr (Nat.le_refl _))
    (⟨rfl,rfl,rfl,rfl⟩:Grew (E.drop d).w (.cells v.cells t (0,0)) {(E.drop d).w with heap:=(E.drop d).w.heap.push (.cells v.cells t (0,0))})
   refine ⟨E',c',hw,jx hks, ?_, ?_⟩
   ·refine hF.put (x:= .p (d,0) 0 0) ?_ hd
    simp only [Rel]
    exact ⟨by trivial,_,_,_,_,hμ,by simp [Env.drop]⟩
   ·have hA':Adv E c E' c':=⟨hA.sizes,hA.os,hA.tape,hA.output,hA.size,fun b hb hc=>hA.frame b hb (by have:=hle b;simp only [qg,c0];omega),hA.sub,
     fun b hb=>(hA.own b hb).imp (fun h=>by have:=hle b;simp only [qg,c0]at h;omega) id,
     fun τ b hb=>(hA.imm τ b hb).imp id (fun h=>h.imp (fun h=>by have:=hle b;simp only [qg,c0]at h;omega) id)⟩
    exact hA'
  ·cases hs
 ·cases hs
theorem qkr {x:V} {y:Value} {cx:Cnt} {agg:Bool} {n off:Nat} {z:V} (hx:Rel E x y cx) (hl:x.cells.length=y.cells.size) (hz:qT agg n x off=some z) (hzero:qZ z=true):
 (agg=true→off+n≤y.cells.size∧Rel E z (.agg ((y.cells.toList.drop off).take n).toArray) c0)∧
 (agg=false→ ∃ v,y.cells[off]? =some v∧Rel E z v c0):=by
 have hc:=ZX hx hl
 unfold qT at hz
 refine ⟨fun ha=> ?_,fun ha=> ?_⟩
 ·rw [ha]at hz
  simp only [if_true]at hz
  split at hz
  ·rename_i hh
   obtain ⟨rfl,hn,hA⟩:=hh
   simp only [Option.some.injEq]at hz;subst hz
   cases x with
   |a cs=>
    simp only [V.cells]at hn
    have hx':=hx
    simp only [Rel]at hx'
    obtain ⟨vs,rfl,hL⟩:=hx'
    have h0:=QU hx hzero
    subst h0
    have:=yr hL
    simp only [Array.length_toList]at this
    refine ⟨by simp only [Value.cells];omega, ?_⟩
    simp only [List.drop_zero]
    rw [List.take_of_length_le (by simp [Value.cells];omega)]
    simpa [Value.cells]using hx
   |_=>simp [V.isA]at hA
  ·split at hz
   ·rename_i hle
    simp only [Option.some.injEq]at hz;subst hz
    refine ⟨by omega, ?_⟩
    have e1:x.cells=x.cells.take off++((x.cells.drop off).take n++(x.cells.drop off).drop n):=by rw [List.take_append_drop,List.take_append_drop]
    rw [e1]at hc
    obtain ⟨p1,p2,d1,d2,e2,h1,h2,rfl⟩:=QR hc
    obtain ⟨p3,p4,d3,d4,rfl,h3,h4,rfl⟩:=QR h2
    have l1:=yr h1
    have l3:=yr h3
    simp only [List.length_take,List.length_drop]at l1 l3
    have e3:(y.cells.toList.drop off).take n=p3:=by
     rw [e2,show off=p1.length by omega,List.drop_left,show n=p3.length by omega,List.take_left]
    rw [e3]
    simp only [qZ]at hzero
    have h0:=QS h3 hzero
    subst h0
    exact XE h3
   ·cases hz
 ·rw [ha]at hz
  simp only [Bool.false_eq_true,if_false]at hz
  obtain ⟨v,c1,c2,h1,h2,rfl,-⟩:=K0 hc hz
  have h0:=QU h2 hzero
  subst h0
  exact ⟨v,by simpa using h1,h2⟩
theorem qdH {T:Mem} {p:V} {v:Value} {agg:Bool} {n:Nat} {z:V} (hT:qn E T c) (hp:Rel E p v c0) (hz:yN T agg n p=some z):
 ∃ b base e idx off xs x cells ty fz cr,v= .pointer (some ⟨b,base+idx*e+off,none⟩)∧E.w.heap[b]? =some (.cells cells ty fz)∧xs[idx]? =some x∧qT agg n x off=some z∧
  (ql E e xs (seg cells base (xs.length*e)) cr):=by
 unfold yN at hz
 split at hz
 ·rename_i k idx off
  split at hz
  ·rename_i ob hg
   split at hz
   ·rename_i x hx
    simp only [Rel]at hp
    obtain ⟨-,b',base',e',y7,hμ',rfl⟩:=hp
    obtain ⟨c1,c2,ho,-,-⟩:=zW hT hg
    rcases ho with ⟨_,_,_,_,h1,-⟩|⟨⟨A0,h1⟩,-⟩|⟨b,base,lim,cells,ty,fz,c3,hμ,hw,hl,hf,hs,hr,-⟩
    ·rw [h1]at hμ';cases hμ'
    ·rw [h1]at hμ';cases hμ'
    ·rw [hμ]at hμ';cases hμ'
     exact ⟨_,_,_,idx,off,ob.2,x,cells,ty,fz,c3,rfl,hw,hx,hz,hr⟩
   ·cases hz
  ·cases hz
 ·rename_i τ xs idx off
  split at hz
  ·rename_i x hx
   simp only [Rel]at hp
   obtain ⟨-,b,base,e,cells,ty,fz,hI,hw,rfl,hr⟩:=hp
   exact ⟨_,_,_,idx,off,xs,x,cells,ty,fz,c0,rfl,hw,hx,hz,zZ hr (xY E c0)⟩
  ·cases hz
 ·cases hz
theorem qfc {b base e idx off:Nat} {xs:List V} {x z:V} {cells:Array Value} {ty:TypeId} {fz:Nat × Nat} {cr:Cnt} {t:TypeId} {agg:Bool} {n:Nat}
 (hw:E.w.heap[b]? =some (.cells cells ty fz)) (hx:xs[idx]? =some x) (hz:qT agg n x off=some z) (hr:ql E e xs (seg cells base (xs.length*e)) cr)
 (ht:ke P t=some (agg,n)) (hzero:qZ z=true):
 ∃ y,(Instr.loadAt t (.pointer (some ⟨b,base+idx*e+off,none⟩))).run P E.w= .ok y E.w∧Rel E z y c0:=by
 unfold ke at ht
 split at ht
 ·rename_i dd i hu hi
  simp only [Option.some.injEq,Prod.mk.injEq]at ht
  obtain ⟨rfl,rfl⟩:=ht
  obtain ⟨y,c1,c2,h1,h2,h3,-,h5,-,-⟩:=qkq hr hx
  have hidx:idx < xs.length:=(List.getElem?_eq_some_iff.1 hx).1
  have hm:idx*e+e≤xs.length*e:=by rw [← Nat.succ_mul];exact Nat.mul_le_mul_right _ hidx
  rw [kG hm]at h1
  have hlen:(seg cells (base+idx*e) e).length=e:=by rw [h1];simpa using h2
  have hsz:base+idx*e+e≤cells.size∨e=0:=by
   simp only [seg,List.length_take,List.length_drop,Array.length_toList]at hlen;omega
  have:=qkr h5 (by rw [h3,h2]) hz hzero
  rw [← h1]at this
  obtain ⟨hT,hF⟩:=this
  have hrun:=qbh (P:=P) (w:=E.w) (t:=t) (o:=base+idx*e+off) hu hi hw
  cases hag:jU dd with
  |true=>
   obtain ⟨h6,h7⟩:=hT hag
   rw [h2]at h6
   have hin:base+idx*e+off+i.size≤cells.size∨i.size=0:=by omega
   rcases hin with hin|hin
   ·refine ⟨_,by simp only [Instr.loadAt,Instr.sureAddr,Sem.run_bind,Sem.run_pure,Result.andThen_ok];exact hrun.1 hag hin, ?_⟩
    rwa [kG (by omega)]at h7
   ·refine ⟨.agg #[], ?_, ?_⟩
    ·simp only [Instr.loadAt,Instr.sureAddr,Sem.run_bind,Sem.run_pure,Result.andThen_ok,loadVar,XI hu,hag,if_true,jC hi,hin,loadCells,loadCellsFrom]
    ·rw [hin]at h7;simpa using h7
  |false=>
   obtain ⟨v,h6,h7⟩:=hF hag
   have h8:(seg cells (base+idx*e) e)[off]? =some v:=by rw [h1];simpa using h6
   have h9:cells[base+idx*e+off]? =some v:=by simpa [Nat.add_assoc]using Qa h8
   exact ⟨v,by simp only [Instr.loadAt,Instr.sureAddr,Sem.run_bind,Sem.run_pure,Result.andThen_ok];exact hrun.2 hag v h9,h7⟩
 ·cases ht
end
end Go.Vm
namespace Go.Vm
variable [Lay]
theorem XC {E:Env} {xs:List V} {ys:List Value} {c:Cnt} (h:qk E xs ys c) (off m:Nat) (hle:off+m≤xs.length):
 ∃ d0 d1 d2,qk E (xs.take off) (ys.take off) d0∧qk E ((xs.drop off).take m) ((ys.drop off).take m) d1∧qk E (xs.drop (off+m)) (ys.drop (off+m)) d2∧c=qg d0 (qg d1 d2):=by
 have e1:xs=xs.take off++((xs.drop off).take m++(xs.drop off).drop m):=by rw [List.take_append_drop,List.take_append_drop]
 rw [e1]at h
 obtain ⟨p1,p2,d1,d2,e2,h1,h2,rfl⟩:=QR h
 obtain ⟨p3,p4,d3,d4,rfl,h3,h4,rfl⟩:=QR h2
 have l1:=yr h1
 have l3:=yr h3
 simp only [List.length_take,List.length_drop]at l1 l3
 have e3:ys.take off=p1:=by rw [e2,show off=p1.length by omega,List.take_left]
 have e4:ys.drop off=p3++p4:=by rw [e2,show off=p1.length by omega,List.drop_left]
 have e5:(ys.drop off).take m=p3:=by rw [e4,show m=p3.length by omega,List.take_left]
 have e6:ys.drop (off+m)=p4:=by rw [← List.drop_drop,e4,show m=p3.length by omega,List.drop_left]
 rw [e3,e5,e6]
 rw [List.drop_drop]at h4
 exact ⟨d1,d3,d4,h1,h3,h4,rfl⟩
theorem K5 {E:Env} {e:Nat} {xs:List V} {ys:List Value} {c:Cnt} {i:Nat} {x:V} (h:ql E e xs ys c) (hx:xs[i]? =some x):
 ∃ y d0 d1 d2,(ys.drop (i*e)).take e=y.cells.toList∧y.cells.size=e∧x.cells.length=e∧zO y.cells.toList∧ql E e (xs.take i) (ys.take (i*e)) d0∧Rel E x y d1∧
  ql E e (xs.drop (i+1)) (ys.drop (i*e+e)) d2∧c=qg d0 (qg d1 d2):=by
 have hsp:=Jl hx
 rw [hsp]at h
 obtain ⟨a,b,d1,d2,rfl,h1,h2,rfl⟩:=ZW h
 obtain ⟨a',b',d3,d4,rfl,h3,h4,rfl⟩:=ZW h1
 obtain ⟨y,rfl,hs,hl,ho,h5⟩:=XD h4
 have hla:=jc h3
 have hi:i < xs.length:=(List.getElem?_eq_some_iff.1 hx).1
 rw [List.length_take,Nat.min_eq_left (Nat.le_of_lt hi)]at hla
 have hy:y.cells.toList.length=e:=by simpa using hs
 have e1:(a'++y.cells.toList++b).take (i*e)=a':=by rw [List.append_assoc, ← hla,List.take_left]
 have e2:(a'++y.cells.toList++b).drop (i*e+e)=b:=by
  rw [show i*e+e=(a'++y.cells.toList).length by simp only [List.length_append,hla,hy],List.drop_left]
 refine ⟨y,d3,d4,d2, ?_,hs,hl,ho,by rw [e1];exact h3,h5,by rw [e2];exact h2,yf _ _ _⟩
 rw [List.append_assoc, ← hla,List.drop_left, ← hy,List.take_left]
theorem qa5 {E:Env} {e:Nat} {xs:List V} {p q:List Value} {d0 d1 d2:Cnt} {i:Nat} {x x':V} {y':Value} (hx:xs[i]? =some x)
 (h0:ql E e (xs.take i) p d0) (hs:y'.cells.size=e) (hl:x'.cells.length=e) (ho:zO y'.cells.toList) (h1:Rel E x' y' d1) (h2:ql E e (xs.drop (i+1)) q d2):
 ql E e (xs.set i x') (p++y'.cells.toList++q) (qg (qg d0 d1) d2):=by
 rw [qbm hx]
 exact QT (QT h0 (ZV hs hl ho h1)) h2
theorem qfz {x z x':V} {off:Nat} (h:jE x off z=some x'):
 x'.cells=x.cells.take off++z.cells++x.cells.drop (off+z.cells.length)∧off+z.cells.length≤x.cells.length∧x'.cells.length=x.cells.length:=by
 unfold jE at h
 split at h
 ·rename_i hh
  obtain ⟨rfl,hl⟩:=hh
  simp only [Option.some.injEq]at h;subst h
  refine ⟨?_,by omega,hl⟩
  simp [List.drop_eq_nil_of_le (Nat.le_of_eq hl.symm)]
 ·split at h
  ·rename_i hle
   simp only [Option.some.injEq]at h;subst h
   refine ⟨rfl,hle, ?_⟩
   show (x.cells.take off++z.cells++x.cells.drop (off+z.cells.length)).length=_
   simp only [List.length_append,List.length_take,List.length_drop];omega
  ·cases h
theorem qeZ {E:Env} {x z x':V} {vz:Value} {ys:List Value} {off:Nat} {d0 dz d2:Cnt} (h:jE x off z=some x') (hz:Rel E z vz dz) (hzl:z.cells.length=vz.cells.size)
 (h0:qk E (x.cells.take off) (ys.take off) d0) (h2:qk E (x.cells.drop (off+z.cells.length)) (ys.drop (off+z.cells.length)) d2):
 ∃ y' c',y'.cells.toList=zg ys off vz.cells.toList∧Rel E x' y' c'∧cle c' (qg d0 (qg dz d2)):=by
 unfold jE at h
 split at h
 ·rename_i hh
  obtain ⟨rfl,hl⟩:=hh
  simp only [Option.some.injEq]at h;subst h
  refine ⟨vz,dz, ?_,hz,fun b=>by simp only [qg];omega⟩
  have hn:(ys.drop (0+z.cells.length)).length=0:=by rw [yr h2,List.length_drop];omega
  simp only [zg,List.take_zero,List.nil_append,Array.length_toList]
  rw [← hzl,List.length_eq_zero_iff.1 hn,List.append_nil]
 ·split at h
  ·simp only [Option.some.injEq]at h;subst h
   have hc:=ZX hz hzl
   have:=x5 (x5 h0 hc) h2
   refine ⟨.agg (ys.take off++vz.cells.toList++ys.drop (off+z.cells.length)).toArray,_, ?_,XE this, ?_⟩
   ·simp only [Value.cells,zg,Array.length_toList,hzl]
   ·intro b;simp only [qg];omega
  ·cases h
theorem qdG {E:Env} {x:V} {y:Value} {cx:Cnt} {agg:Bool} {n off:Nat} {z:V} (hx:Rel E x y cx) (hl:x.cells.length=y.cells.size) (ho:zO y.cells.toList)
 (hz:qT agg n x off=some z):
 ∃ vz d0 d1 d2,Rel E z vz d1∧z.cells.length=vz.cells.size∧off+z.cells.length≤x.cells.length∧vz.cells.toList=(y.cells.toList.drop off).take z.cells.length∧
  qk E (x.cells.take off) (y.cells.toList.take off) d0∧qk E (x.cells.drop (off+z.cells.length)) (y.cells.toList.drop (off+z.cells.length)) d2∧cx=qg d0 (qg d1 d2)∧
  (agg=true→z.cells.length=n∧vz= .agg ((y.cells.toList.drop off).take n).toArray)∧(agg=false→y.cells[off]? =some vz):=by
 have hc:=ZX hx hl
 unfold qT at hz
 cases agg with
 |true=>
  simp only [if_true]at hz
  split at hz
  ·rename_i hh
   obtain ⟨rfl,hn,hA⟩:=hh
   simp only [Option.some.injEq]at hz;subst hz
   have hlen:y.cells.toList.length=x.cells.length:=by simpa using hl.symm
   refine ⟨y,c0,cx,c0,hx,hl,by omega, ?_,by simp [qk], ?_,by rw [qV,xQ],fun _=>⟨hn, ?_⟩,(fun h=>nomatch h)⟩
   ·simp only [List.drop_zero];rw [List.take_of_length_le (by omega)]
   ·rw [Nat.zero_add,List.drop_eq_nil_of_le (by omega),List.drop_eq_nil_of_le (by omega)];simp [qk]
   ·cases x with
    |a cs=>
     simp only [Rel]at hx
     obtain ⟨vs,rfl,-⟩:=hx
     simp only [Value.cells,List.drop_zero]at hlen ⊢
     rw [List.take_of_length_le (by omega)]
    |_=>simp [V.isA]at hA
  ·split at hz
   ·rename_i hle
    simp only [Option.some.injEq]at hz;subst hz
    obtain ⟨d0,d1,d2,h0,h1,h2,rfl⟩:=XC hc off n hle
    have hzl:(V.a ((x.cells.drop off).take n)).cells.length=n:=by
     show ((x.cells.drop off).take n).length=n
     simp only [List.length_take,List.length_drop];omega
    have hyl:((y.cells.toList.drop off).take n).length=n:=by
     simp only [List.length_take,List.length_drop,Array.length_toList, ← hl];omega
    refine ⟨.agg ((y.cells.toList.drop off).take n).toArray,d0,d1,d2,XE h1, ?_,by rw [hzl];exact hle,by rw [hzl];rfl,h0,by rw [hzl];exact h2,rfl,fun _=>⟨hzl,rfl⟩,(fun h=>nomatch h)⟩
    rw [hzl];simp only [Value.cells,List.size_toArray];exact hyl.symm
   ·cases hz
 |false=>
  simp only [Bool.false_eq_true,if_false]at hz
  have hlt:off < x.cells.length:=(List.getElem?_eq_some_iff.1 hz).1
  obtain ⟨d0,d1,d2,h0,h1,h2,rfl⟩:=XC hc off 1 (by omega)
  have e1:(x.cells.drop off).take 1=[z]:=by
   rw [List.take_one,List.head?_drop,hz];rfl
  rw [e1]at h1
  obtain ⟨vz,e2,h3⟩:=XB h1
  have h4:y.cells.toList[off]? =some vz:=by
   have:=congrArg List.head? e2
   simpa [List.head?_take,List.head?_drop]using this
  have hone:vz.oneCell=true:=ho vz (List.mem_of_getElem? h4)
  have hvz:vz.cells= #[vz]:=J6 (by cases vz<;>simp_all [Value.oneCell,zM])
  have hzl:z.cells.length=1:=by
   cases z with
   |a cs=>simp only [Rel]at h3;obtain ⟨vs,rfl,-⟩:=h3;simp [Value.oneCell]at hone
   |_=>rfl
  refine ⟨vz,d0,d1,d2,h3,by rw [hvz,hzl];rfl,by omega,by rw [hzl,e2,hvz],h0,by rw [hzl];exact h2,rfl,(fun h=>nomatch h),fun _=>by simpa using h4⟩
theorem qlB {l:List Value} {o n:Nat}:zg l o ((l.drop o).take n)=l:=by
 unfold zg
 rw [List.append_assoc]
 by_cases h:o+n≤l.length
 ·have e:((l.drop o).take n).length=n:=by simp;omega
  rw [e, ← List.drop_drop,List.take_append_drop,List.take_append_drop]
 ·have e:(l.drop o).take n=l.drop o:=List.take_of_length_le (by simp;omega)
  have e2:l.drop (o+(l.drop o).length)=[]:=List.drop_eq_nil_of_le (by simp;omega)
  rw [e,e2,List.append_nil,List.take_append_drop]
theorem qjd(d:Nat): ∀ (xs:List V) (j:Nat),(zb d j xs).1.length=xs.length:=by intro xs;induction xs<;>intro j<;>simp_all [zb]
theorem qeb(d j:Nat) (y:V):(qG d j y).1.cells.length=y.cells.length:=by
 cases y with
 |a cs=>simp only [qG,V.cells,qjd]
 |o=>rfl
 |b=>rfl
 |f=>rfl
 |v x=>show (if qZ (V.v x)then V.v x else .d).cells.length=_;split<;>rfl
 |p=>rfl
 |s=>rfl
 |q=>rfl
 |i=>rfl
 |n=>rfl
 |m=>rfl
 |w o es=>cases o<;>rfl
 |t vs=>show (if qZ (V.t vs)then V.t vs else .d).cells.length=_;split<;>rfl
 |d=>rfl
theorem qdy {d:Nat}: ∀ {T:Mem} {k:Key} {ob:Ob},(∀ k ob,(k,ob) ∈ T→k.1 ≠ d)→qp (kW d T) k=some ob→k.1 ≠ d
 |[],k,ob,hf,h=>by simp [kW,qp]at h
 |(u,e,xs)::r,k,ob,hf,h=>by
  simp only [kW,qp]at h
  split at h
  ·rename_i hu;subst hu;exact hf _ _ (List.mem_cons_self)
  ·exact qdy (fun k ob hk=>hf k ob (List.mem_cons_of_mem _ hk)) h
theorem qlY {d:Nat} {st:St} {k:Key} {ob:Ob} (h:qp (q9 d st).T k=some ob):k.1 ≠ d:=qdy (fun k ob hk=>Xa d hk) h
section
variable {P:Program} {N:Nat} {E:Env} {c:Cnt} {st st':St} {a:Act} {d:Nat} {call:qS}
theorem ZG {E E':Env} {c c1 c':Cnt} (h:Adv E c1 E' c') (hl:cle c1 c):Adv E c E' c':=
 ⟨h.sizes,h.os,h.tape,h.output,h.size,fun b hb hc=>h.frame b hb (by have:=hl b;omega),h.sub,fun b hb=>(h.own b hb).imp (fun h=>by have:=hl b;omega) id,
  fun τ b hb=>(h.imm τ b hb).imp id (fun h=>h.imp (fun h=>by have:=hl b;omega) id)⟩
theorem kM {E E':Env} {c c':Cnt} (hw:E'.w=E.w) (hI:E'.I=E.I) (hl:cle c' c):Adv E c E' c':=by
 refine ⟨fun b n h=>by rw [hw];exact h,by rw [hw],by rw [hw],by rw [hw],by rw [hw];exact Nat.le_refl _,fun b _ _=>by rw [hw],fun τ b h=>by rw [hI];exact h,fun b h=> .inl (by have:=hl b;omega),fun τ b h=> .inl (by rw [← hI];exact h)⟩
theorem jw {E E':Env} {c c':Cnt} (hw:E'.w=E.w) (hI:E'.I=E.I) (hl:cle c' c) (h:Good E c):Good E' c':=by
 have:=h.le hl
 exact ⟨this.one,fun τ b hb=>by rw [hw];exact this.imm τ b (by rw [← hI];exact hb),fun b hb=>by rw [hI]at*;exact this.sub b hb,fun b hb=>by rw [hw];exact this.bnd b hb,this.lay.same hI hw⟩
theorem qkY {p:Operand} {hp p':AO} {t:TypeId} {agg:Bool} {n:Nat} (h1:trO p hp=some p') (ht:ke P t=some (agg,n))
 (hs:qh call st (.ld d agg n p')=some st') (h:FRel N E st a.tmps c) (hd:d < N):
 zp N E c st' a (some d) (Sem.run P (do pure (.value (← Instr.loadAt t (a.eval p)))) E.w):=by
 simp only [qh]at hs
 split at hs
 case h_2=>cases hs
 rename_i pv hpv
 have hp:=qB h.σ h1 hpv
 split at hs
 case h_2=>cases hs
 rename_i y hy
 split at hs
 ·
  rename_i hown
  split at hs
  case h_2=>cases hs
  rename_i y' hy'
  split at hs
  case h_2=>cases hs
  rename_i T' hT'
  simp only [Option.some.injEq]at hs;subst hs
  obtain ⟨c1,hσ1,hT1,hle1⟩:=Qe d h.σ h.T
  unfold jF at hT'
  split at hT'
  case h_2=>cases hT'
  rename_i k idx off
  split at hT'
  case h_2=>cases hT'
  rename_i ob hg
  split at hT'
  case h_2=>cases hT'
  rename_i x hx
  split at hT'
  case h_2=>cases hT'
  rename_i x' hst
  simp only [Option.some.injEq]at hT';subst hT'
  simp only [yN,hg,hx]at hy'
  have hkd:=qlY hg
  have hp1:Rel (E.drop d) (.p k idx off) (a.eval p) c0:=by
   have:=qeX (d:=d) hp
   simp only [qA,if_neg hkd]at this;exact this
  simp only [Rel]at hp1
  obtain ⟨-,b',base',e',y7,hμ',hpe⟩:=hp1
  obtain ⟨co,cr,hob,hrest,rfl⟩:=zW hT1 hg
  rcases hob with ⟨_,_,_,_,hn1,-⟩|⟨⟨A0,hn1⟩,-⟩|⟨b,base,lim,cells,ty,fz,ce,hμ,hw,hl,hf,hs,hr,rfl⟩
  ·rw [hn1]at hμ';cases hμ'
  ·rw [hn1]at hμ';cases hμ'
  rw [hμ]at hμ';cases hμ'
  obtain ⟨yv,d0,d1,d2,e1,hs1,hl1,ho1,hr0,hr1,hr2,rfl⟩:=K5 hr hx
  obtain ⟨vz,f0,f1,f2,hz,hzl,hzle,hzc,hz0,hz2,rfl,hzT,hzF⟩:=qdG hr1 (by rw [hl1,hs1]) ho1 hy'
  obtain ⟨E2,cO,hn,hzz,hTO,hleO⟩:=KV (d:=d) (j:=0) (fun i _=>kz E d i) hz
  have hcl:=qeb d 0 y'
  have hidx:idx < ob.2.length:=(List.getElem?_eq_some_iff.1 hx).1
  have hm:idx*ob.1+ob.1≤ob.2.length*ob.1:=by rw [← Nat.succ_mul];exact Nat.mul_le_mul_right _ hidx
  have e2:seg cells (base'+idx*ob.1) ob.1=yv.cells.toList:=by rw [← e1,kG hm]
  obtain ⟨y2,cx,hy2,hx2,hlx⟩:=qeZ (E:=E2) hst hzz (by rw [hcl];exact hzl) (yA hz0 (hn.mono _)) (by rw [hcl];exact yA hz2 (hn.mono _))
  have hy2':y2.cells.toList=yv.cells.toList:=by rw [hy2,hzc];exact qlB
  have hx'l:=(qfz hst).2.2
  have hR:=qa5 hx (zZ hr0 (hn.mono _)) (by rw [← Array.length_toList,hy2',Array.length_toList];exact hs1) (by rw [hx'l];exact hl1) (by rw [hy2'];exact ho1) hx2 (zZ hr2 (hn.mono _))
  have hseg:(seg cells base' (ob.2.length*ob.1)).take (idx*ob.1)++y2.cells.toList++(seg cells base' (ob.2.length*ob.1)).drop (idx*ob.1+ob.1)=seg cells base' (ob.2.length*ob.1):=by
   rw [hy2', ← e1,List.append_assoc, ← List.drop_drop,List.take_append_drop,List.take_append_drop]
  rw [hseg]at hR
  have hO:yC E2 k (ob.1,ob.2.set idx x') (qg (qv b') (qg (qg d0 cx) d2)):=
   .inr (.inr ⟨b',base',y7,cells,ty,fz,_,hn.hμ _ _ hμ,by rw [hn.hw];exact hw,hl,hf,by simpa using hs,by simpa using hR,rfl⟩)
  have hTT:qn E2 ((qG d 0 y').2.2++((k,ob.1,ob.2.set idx x')::qy (q9 d st).T k)) (qg cO (qg (qg (qv b') (qg (qg d0 cx) d2)) cr)):=
   yT hTO ⟨_,_,hO,zH hrest (hn.mono _),rfl⟩
  have hcle:cle (qg cO (qg (qg (qv b') (qg (qg d0 cx) d2)) cr)) c:=by
   intro z
   have q1:=hle1 z;have q2:=hleO z;have q3:=hlx z
   simp only [qg,c0]at*;omega
  have hrun:(Instr.loadAt t (a.eval p)).run P E.w= .ok vz E.w:=by
   unfold ke at ht
   split at ht
   case h_2=>cases ht
   rename_i dd i hu hi
   simp only [Option.some.injEq,Prod.mk.injEq]at ht
   obtain ⟨rfl,rfl⟩:=ht
   rw [hpe]
   have hrun:=qbh (P:=P) (w:=E.w) (t:=t) (o:=base'+idx*ob.1+off) hu hi hw
   simp only [Instr.loadAt,Instr.sureAddr,Sem.run_bind,Sem.run_pure,Result.andThen_ok]
   cases hag:jU dd with
   |true=>
    obtain ⟨q1,q2⟩:=hzT hag
    have hlen:(seg cells (base'+idx*ob.1) ob.1).length=ob.1:=by rw [e2];simpa using hs1
    simp only [seg,List.length_take,List.length_drop,Array.length_toList]at hlen
    rcases Nat.eq_zero_or_pos i.size with h0|h0
    ·rw [q2,h0]
     simp only [loadVar,Sem.run_bind,XI hu,hag,if_true,jC hi,h0,loadCells,loadCellsFrom,Sem.run_pure,Result.andThen_ok]
     simp [Sem.run]
    ·rw [q2, ← e2,kG (by omega)]
     exact hrun.1 hag (by omega)
   |false=>
    have q1:=hzF hag
    have h8:(seg cells (base'+idx*ob.1) ob.1)[off]? =some vz:=by rw [e2];simpa using q1
    exact hrun.2 hag vz (by simpa [Nat.add_assoc]using Qa h8)
  simp only [Sem.run_bind,hrun,Result.andThen_ok,Sem.run_pure]
  refine ⟨E2,_,hn.hw,jx hn.hout,⟨by simpa [Act.put]using h.sz, ?_,hTT,jw hn.hw hn.hI hcle (h.g.drop d)⟩,(kM (E:=E) hn.hw hn.hI hcle)⟩
  exact QX (xq hσ1 (hn.mono _)) hzz (by rw [h.sz];exact hd)
 ·rename_i hz0
  simp only [Bool.not_eq_true,Bool.not_eq_false']at hz0
  simp only [Option.some.injEq]at hs;subst hs
  obtain ⟨b,base,e,idx,off,xs,x,cells,ty,fz,cr,hpe,hw,hx,hz,hr⟩:=qdH h.T hp hy
  obtain ⟨v,hrun,hv⟩:=qfc (P:=P) (t:=t) hw hx hz hr ht (by simpa using hz0)
  rw [hpe]
  simp only [Sem.run_bind,hrun,Result.andThen_ok,Sem.run_pure]
  exact (ze h hd hv).to1 h
theorem qkZ {p:Operand} {hp p':AO} {t:TypeId} {agg:Bool} {n:Nat} (h1:trO p hp=some p') (ht:ke P t=some (agg,n))
 (hs:qh call st (.ldq d agg n p')=some st') (h:FRel N E st a.tmps c) (hd:d < N):
 qE N E st st' (some d) (Sem.run P (do pure (.value (← Instr.loadAt t (a.eval p)))) E.w):=by
 simp only [qh]at hs
 split at hs
 case h_2=>cases hs
 rename_i pv hpv
 have hp:=qB h.σ h1 hpv
 split at hs
 case h_2=>cases hs
 rename_i y hy
 split at hs
 case isFalse=>cases hs
 rename_i hz0
 simp only [Option.some.injEq]at hs;subst hs
 obtain ⟨b,base,e,idx,off,xs,x,cells,ty,fz,cr,hpe,hw,hx,hz,hr⟩:=qdH h.T hp hy
 obtain ⟨v,hrun,hv⟩:=qfc (P:=P) (t:=t) hw hx hz hr ht hz0
 rw [hpe]
 simp only [Sem.run_bind,hrun,Result.andThen_ok,Sem.run_pure]
 exact ze h hd hv
end
end Go.Vm
namespace Go.Vm
variable [Lay]
theorem qfw {l:List Value} {o:Nat} {vs:List Value} (h:o+vs.length≤l.length) (j:Nat):
 (zg l o vs)[j]? =if j < o then l[j]? else if j < o+vs.length then vs[j - o]? else l[j]? :=by
 have hl:(l.take o).length=o:=by simp;omega
 unfold zg
 split
 ·rename_i h1
  rw [List.append_assoc,List.getElem?_append_left (by omega),List.getElem?_take,if_pos h1]
 ·rename_i h1
  rw [List.append_assoc,List.getElem?_append_right (by omega),hl]
  split
  ·rw [List.getElem?_append_left (by omega)]
  ·rw [List.getElem?_append_right (by omega),List.getElem?_drop]
   congr 1;omega
theorem qfm {cells cells':Array Value} {base n o:Nat} {vs:List Value} (h:cells'.toList=zg cells.toList (base+o) vs) (hn:o+vs.length≤n) (hb:base+n≤cells.size):
 seg cells' base n=zg (seg cells base n) o vs:=by
 have hl:(seg cells base n).length=n:=XJ hb
 have hsz:cells.toList.length=cells.size:=Array.length_toList
 have hc:base+o+vs.length≤cells.toList.length:=by omega
 apply List.ext_getElem?
 intro j
 rw [qfw (by rw [hl];exact hn)]
 simp only [seg,List.getElem?_take,List.getElem?_drop,h]
 rw [qfw hc]
 by_cases hj:j < n
 ·simp only [if_pos hj]
  by_cases h1:j < o
  ·rw [if_pos h1,if_pos (by omega)]
  ·rw [if_neg h1,if_neg (by omega)]
   by_cases h2:j < o+vs.length
   ·rw [if_pos h2,if_pos (by omega)];congr 1;omega
   ·rw [if_neg h2,if_neg (by omega)]
 ·simp only [if_neg hj]
  rw [if_neg (by omega),if_neg (by omega)]
theorem qlz {A B C vs:List Value} {off:Nat} (h:off+vs.length≤B.length):zg (A++(B++C)) (A.length+off) vs=A++zg B off vs++C:=by
 have e1:(A++(B++C)).take (A.length+off)=A++B.take off:=by
  rw [List.take_append,List.take_of_length_le (by omega),Nat.add_sub_cancel_left,List.take_append_of_le_length (by omega)]
 have e2:(A++(B++C)).drop (A.length+off+vs.length)=B.drop (off+vs.length)++C:=by
  rw [Nat.add_assoc,List.drop_length_add_append,List.drop_append_of_le_length (by omega)]
 simp only [zg,e1,e2,List.append_assoc]
theorem qlA {L:List Value} {i e off:Nat} {vs:List Value} (h:off+vs.length≤e) (hL:i*e+e≤L.length):
 zg L (i*e+off) vs=L.take (i*e)++zg ((L.drop (i*e)).take e) off vs++L.drop (i*e+e):=by
 have h1:((L.drop (i*e)).take e).length=e:=by simp;omega
 have h2:(L.take (i*e)).length=i*e:=by simp;omega
 have h3:L=L.take (i*e)++((L.drop (i*e)).take e++L.drop (i*e+e)):=by rw [← List.drop_drop,List.take_append_drop,List.take_append_drop]
 have:=qlz (A:=L.take (i*e)) (B:=(L.drop (i*e)).take e) (C:=L.drop (i*e+e)) (vs:=vs) (off:=off) (by omega)
 rw [← h3,h2]at this
 exact this
section
variable {P:Program} {N:Nat} {E:Env} {c:Cnt} {st st':St} {a:Act} {d:Nat} {call:qS}
theorem qle {p x:Operand} {hp hx p' x':AO} {t:TypeId} {n:Nat} (h1:trO p hp=some p') (h2:trO x hx=some x') (ht:(P.info? t).map (·.size)=some n)
 (hs:qh call st (.st n p' x')=some st') (h:FRel N E st a.tmps c):
 zp N E c st' a none (Sem.run P (do Instr.storeAt t (a.eval p) (a.eval x);pure .skip) E.w):=by
 simp only [qh]at hs
 split at hs
 case h_2=>cases hs
 rename_i pv yv hpv hyv
 have hp:=qB h.σ h1 hpv
 have hy:=qB h.σ h2 hyv
 split at hs
 case isFalse=>cases hs
 rename_i hh
 obtain ⟨hyl,hyo⟩:=hh
 rw [Option.map_eq_some_iff]at hs
 obtain ⟨T',hT',rfl⟩:=hs
 obtain ⟨hyls,hyon⟩:=K9 hy hyo
 unfold jF at hT'
 split at hT'
 case h_2=>cases hT'
 rename_i k idx off
 split at hT'
 case h_2=>cases hT'
 rename_i ob hg
 split at hT'
 case h_2=>cases hT'
 rename_i xe hx
 split at hT'
 case h_2=>cases hT'
 rename_i x'' hst
 simp only [Option.some.injEq]at hT';subst hT'
 simp only [Rel]at hp
 obtain ⟨-,b',base',e',y7,hμ',hpe⟩:=hp
 obtain ⟨co,cr,hob,hrest,rfl⟩:=zW h.T hg
 rcases hob with ⟨_,_,_,_,hn1,-⟩|⟨⟨A0,hn1⟩,-⟩|⟨b,base,lim,cells,ty,fz,ce,hμ,hw,hl,hf,hsz,hr,rfl⟩
 ·rw [hn1]at hμ';cases hμ'
 ·rw [hn1]at hμ';cases hμ'
 rw [hμ]at hμ';cases hμ'
 obtain ⟨v,d0,d1,d2,e1,hs1,hl1,ho1,hr0,hr1,hr2,rfl⟩:=K5 hr hx
 have hxl:=ZX hr1 (by rw [hl1,hs1])
 obtain ⟨hsc,hsle,hsl⟩:=qfz hst
 obtain ⟨f0,f1,f2,g0,g1,g2,rfl⟩:=XC hxl off yv.cells.length hsle
 have hidx:idx < ob.2.length:=(List.getElem?_eq_some_iff.1 hx).1
 have hm:idx*ob.1+ob.1≤ob.2.length*ob.1:=by rw [← Nat.succ_mul];exact Nat.mul_le_mul_right _ hidx
 have hvl:(a.eval x).cells.toList.length=yv.cells.length:=(Array.length_toList).trans hyls.symm
 have hcl:cells.toList.length=cells.size:=Array.length_toList
 have hrun:=qbi (P:=P) (b:=b') (o:=base'+idx*ob.1+off) (a.eval x).cells.toList 0 E.w cells hw hf (by rw [hvl];omega) hyon
 obtain ⟨w',cells',hrun,hW,hc'⟩:=hrun
 rw [Nat.add_zero]at hc'
 have hpresent:Instr.storeAt t (a.eval p) (a.eval x)=storeVar t ⟨b',base'+idx*ob.1+off,none⟩ (a.eval x):=by rw [hpe];rfl
 have hrun':(Instr.storeAt t (a.eval p) (a.eval x)).run P E.w= .ok () w':=by
  rw [hpresent]
  rw [Option.map_eq_some_iff]at ht
  obtain ⟨i,hi,hin⟩:=ht
  simp only [storeVar,Sem.run_bind,jC hi,Result.andThen_ok]
  rw [if_neg (by rw [hin, ← hyl,hyls];simp)]
  exact hrun
 have hg:=h.g
 have hg':Good E (qg (qg (qv b') (qg d0 (qg (qg f0 (qg f1 f2)) d2))) cr):=hg
 obtain ⟨hmono,hσ',hgood,hadv⟩:=qaq (N:=N) (T':=[]) h.σ hg' hW
 have hnewcells:cells'.size=cells.size:=by
  rw [← Array.length_toList,hc',Jk (by omega),hcl]
 have m1: ∀ x:Cnt,cle x (qg d0 (qg (qg f0 (qg f1 f2)) d2))→Mono E {E with w:=w'} x:=fun x hx=>hmono x (yc hx (jt _ _))
 have hy0:Rel {E with w:=w'} yv (a.eval x) c0:=zP hy (m1 c0 (Kk _))
 obtain ⟨y2,cx,hy2,hx2,hlx⟩:=qeZ (E:={E with w:=w'}) hst hy0 hyls (yA g0 (m1 f0 fun z=>by simp only [qg];omega)) (yA g2 (m1 f2 fun z=>by simp only [qg];omega))
 have e2:seg cells (base'+idx*ob.1) ob.1=v.cells.toList:=by rw [← e1,kG hm]
 have hv:v.cells.toList.length=ob.1:=by rw [Array.length_toList];exact hs1
 have hones:zO y2.cells.toList:=by
  rw [hy2]
  intro z hz
  simp only [zg,List.mem_append]at hz
  rcases hz with (hz|hz)|hz
  ·exact ho1 z (List.mem_of_mem_take hz)
  ·exact hyon z hz
  ·exact ho1 z (List.mem_of_mem_drop hz)
 have hy2l:y2.cells.size=ob.1:=by rw [← Array.length_toList,hy2,Jk (by rw [hvl,hv];omega),hv]
 have hR:=qa5 hx (zZ hr0 (m1 d0 fun z=>by simp only [qg];omega)) hy2l (by rw [hsl];exact hl1) hones hx2 (zZ hr2 (m1 d2 fun z=>by simp only [qg];omega))
 have hlenS:(seg cells base' (ob.2.length*ob.1)).length=ob.2.length*ob.1:=XJ (by omega)
 have hseg:(seg cells base' (ob.2.length*ob.1)).take (idx*ob.1)++y2.cells.toList++(seg cells base' (ob.2.length*ob.1)).drop (idx*ob.1+ob.1)=seg cells' base' (ob.2.length*ob.1):=by
  have q:=qfm (cells:=cells) (cells':=cells') (base:=base') (n:=ob.2.length*ob.1) (o:=idx*ob.1+off) (vs:=(a.eval x).cells.toList) (by rw [hc',Nat.add_assoc]) (by omega) (by omega)
  have q2:=qlA (L:=seg cells base' (ob.2.length*ob.1)) (i:=idx) (e:=ob.1) (off:=off) (vs:=(a.eval x).cells.toList) (by omega) (by rw [hlenS];exact hm)
  rw [q,q2,e1,hy2]
 rw [hseg]at hR
 simp only [Sem.run_bind,hrun',Result.andThen_ok,Sem.run_pure]
 refine ⟨{E with w:=w'},qg (qg (qv b') (qg (qg d0 cx) d2)) cr,rfl,Zw,⟨by simpa [Act.put]using h.sz, ?_, ?_, ?_⟩, ?_⟩
 ·simpa [Act.put]using hσ'
 ·refine ⟨_,cr,.inr (.inr ⟨b',base',y7,cells',ty,fz,_,hμ,(hW.self _ _ _ hw).1,by omega,by rw [hnewcells];exact hf,by simpa using hsz,by simpa using hR,rfl⟩),zH hrest (hmono cr (yx _ _)),rfl⟩
 ·exact hgood.le fun z=>by have:=hlx z;simp only [qg,c0]at*;omega
 ·exact hadv.le fun z=>by have:=hlx z;simp only [qg,c0]at*;omega
theorem qk9 {o:Oper} {x:Operand} {hx x':AO} (ho:o.op= .nilCheck x) (h1:trO x hx=some x') (hs:qh call st (.nilc d x')=some st') (h:FRel N E st a.tmps c) (hd:d < N):
 qE N E st st' (some d) ((execOp a.eval o).run P E.w):=by
 simp only [qh]at hs
 split at hs
 ·rename_i hy
  have hr:=qB h.σ h1 hy
  simp only [Option.some.injEq]at hs;subst hs
  have hr':=hr
  simp only [Rel]at hr'
  obtain ⟨-,b,base,e,lim,-,he⟩:=hr'
  have key:(execOp a.eval o).run P E.w= .ok (.value (a.eval x)) E.w:=by simp [execOp,ho,he]
  rw [key];exact ze h hd hr
 ·rename_i hy
  have hr:=qB h.σ h1 hy
  simp only [Option.some.injEq]at hs;subst hs
  have hr':=hr
  simp only [Rel]at hr'
  obtain ⟨-,b,base,e,cells,T,fz,-,-,he,-⟩:=hr'
  have key:(execOp a.eval o).run P E.w= .ok (.value (a.eval x)) E.w:=by simp [execOp,ho,he]
  rw [key];exact ze h hd hr
 ·rename_i hy
  have hr:=qB h.σ h1 hy
  simp only [Option.some.injEq]at hs;subst hs
  have hr':=hr
  simp only [Rel]at hr'
  obtain ⟨fs,cs,c1,c2,he,-⟩:=hr'
  have key:(execOp a.eval o).run P E.w= .ok (.value (a.eval x)) E.w:=by simp [execOp,ho,he]
  rw [key];exact ze h hd hr
 ·cases hs
theorem qkS {x:Operand} {hx x':AO} {s:TypeId} {f:Nat} {fl:Field} {n:Nat} (h1:trO x hx=some x') (hf:ZM P s f=some fl) (hn:(P.info? fl.type).map (·.size)=some n) (hn0:n ≠ 0)
 (hs:qh call st (.fa d x' fl.offset)=some st') (h:FRel N E st a.tmps c) (hd:d < N):
 qE N E st st' (some d) (Sem.run P (do pure (.value (← Instr.fieldAt s (a.eval x) f))) E.w):=by
 have hrun: ∀ b o,a.eval x= .pointer (some ⟨b,o,none⟩)→Sem.run P (do pure (.value (← Instr.fieldAt s (a.eval x) f)):Sem Next) E.w= .ok (.value (.pointer (some ⟨b,o+fl.offset,none⟩))) E.w:=by
  intro b o he
  unfold ZM at hf
  split at hf
  ·rename_i fs hu
   rw [Option.map_eq_some_iff]at hn
   obtain ⟨i,hi,hin⟩:=hn
   simp only [he,Instr.fieldAt,Sem.run_bind,zx hu,Result.andThen_ok,hf,Instr.sureAddr,Sem.run_pure,fieldPlace,jC hi,hin]
   rw [if_neg (by simpa [hin]using hn0)]
   simp [xP]
  ·cases hf
 simp only [qh]at hs
 split at hs
 ·rename_i k idx o hx
  simp only [Option.some.injEq]at hs;subst hs
  have hr:=qB h.σ h1 hx
  simp only [Rel]at hr
  obtain ⟨-,b,base,e,lim,hμ,he⟩:=hr
  rw [hrun _ _ he]
  refine ze h hd ?_
  simp only [Rel];exact ⟨by trivial,b,base,e,lim,hμ,by simp [Nat.add_assoc]⟩
 ·rename_i τ xs idx o hx
  simp only [Option.some.injEq]at hs;subst hs
  have hr:=qB h.σ h1 hx
  simp only [Rel]at hr
  obtain ⟨-,b,base,e,cells,T,fz,hI,hw,he,hR⟩:=hr
  rw [hrun _ _ he]
  refine ze h hd ?_
  simp only [Rel];exact ⟨by trivial,b,base,e,cells,T,fz,hI,hw,by simp [Nat.add_assoc],hR⟩
 ·cases hs
theorem qkV {x i:Operand} {hx hi x' i':AO} {t et:TypeId} {ei:TypeInfo} (h1:trO x hx=some x') (h2:trO i hi=some i') (ht:slT P t=some (et,ei))
 (hs:qh call st (.ia d ei.size x' i')=some st') (h:FRel N E st a.tmps c) (hd:d < N):
 qE N E st st' (some d) (Sem.run P (do pure (.value (← Instr.indexAt t (a.eval x) (a.eval i)))) E.w):=by
 simp only [qh]at hs
 split at hs
 case h_2=>cases hs
 rename_i xv k iv hxv hiv
 have hrx:=qB h.σ h1 hxv
 have hri:=qB h.σ h2 hiv
 simp only [Rel]at hri
 rw [Option.map_eq_some_iff]at hs
 obtain ⟨z,hz,rfl⟩:=hs
 unfold slT at ht
 split at ht
 case h_2=>cases ht
 rename_i e hu
 rw [Option.map_eq_some_iff]at ht
 obtain ⟨ei',hei,heq⟩:=ht
 simp only [Prod.mk.injEq]at heq
 obtain ⟨rfl,rfl⟩:=heq
 have hrun: ∀ A len cap,a.eval x= .slice (some A) len cap→0≤iv→iv < len→Sem.run P (do pure (.value (← Instr.indexAt t (a.eval x) (a.eval i))):Sem Next) E.w= .ok (.value (.pointer (some (A.add (iv.toNat*ei'.size))))) E.w:=by
  intro A len cap he h0 h1
  simp only [he,hri.1,Instr.indexAt,asIntOf,Sem.run_bind,Sem.run_pure,Result.andThen_ok,zx hu]
  rw [if_pos ⟨h0,h1⟩]
  simp [jC hei]
 unfold yb at hz
 split at hz
 ·rename_i k lo len
  split at hz
  case h_2=>cases hz
  rename_i ob hg
  split at hz
  case isFalse=>cases hz
  rename_i hh
  obtain ⟨he,hle⟩:=hh
  rw [Option.map_eq_some_iff]at hz
  obtain ⟨j,hj,rfl⟩:=hz
  unfold zI at hj
  split at hj
  case isFalse=>cases hj
  rename_i hb
  simp only [Option.some.injEq]at hj;subst hj
  simp only [Rel]at hrx
  obtain ⟨-,⟨A0,-,-,h0,-⟩|⟨b,base,e',lim,cap,A,hμ,hcap,hroom,hpos,hA,hv⟩⟩:=hrx
  ·subst h0;omega
  ·rw [hrun _ _ _ hv hb.1 hb.2]
   obtain ⟨c1,c2,ho,-,-⟩:=zW h.T hg
   have hee:e'=ei'.size:=by
    rcases ho with ⟨_,_,_,_,q1,-⟩|⟨⟨A0,q1⟩,-⟩|⟨b2,base2,lim2,cells,T,fz,c3,q1,-⟩
    ·rw [q1]at hμ;cases hμ
    ·rw [q1]at hμ;cases hμ
    ·rw [q1]at hμ;cases hμ;exact he
   have hA':A=⟨b,base+lo*e',none⟩:=by
    rcases hA with hA|hA
    ·omega
    ·exact hA
   refine ze h hd ?_
   rw [hA',xP]
   simp only [Rel]
   refine ⟨by trivial,b,base,e',lim,hμ, ?_⟩
   rw [hee,Nat.add_zero,Nat.add_mul];simp only [Nat.add_assoc]
 ·rename_i τ xs
  split at hz
  case h_2=>cases hz
  rename_i j hj
  split at hz
  case isFalse=>cases hz
  rename_i hcl
  simp only [Option.some.injEq]at hz;subst hz
  unfold zI at hj
  split at hj
  case isFalse=>cases hj
  rename_i hb
  simp only [Option.some.injEq]at hj;subst hj
  simp only [Rel]at hrx
  obtain ⟨-,A,cap,hv,hcap,hR⟩:=hrx
  rcases hR with hR|⟨b,base,e',cells,T,fz,rfl,hI,hw,hR⟩
  ·subst hR;simp only [List.length_nil]at hb;omega
  ·have hjl:iv.toNat < xs.length:=by omega
   rw [hrun _ _ _ hv hb.1 hb.2]
   obtain ⟨y,-,-,-,-,-,hl,-⟩:=K5 hR (List.getElem?_eq_getElem hjl)
   have hee:e'=ei'.size:=by rw [← hl, ← hcl,List.getElem?_eq_getElem hjl];rfl
   refine ze h hd ?_
   rw [xP]
   simp only [Rel]
   exact ⟨by trivial,b,base,e',cells,T,fz,hI,hw,by rw [hee,Nat.add_zero],hR⟩
 ·cases hz
end
end Go.Vm
