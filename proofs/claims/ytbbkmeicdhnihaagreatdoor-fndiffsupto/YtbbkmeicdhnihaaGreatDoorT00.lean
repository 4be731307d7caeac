import Derived.Calls
import Derived.Orders
import Derived.Wp
import Derived.Laws.Cells
set_option autoImplicit false
namespace Go.Vm
abbrev Key:=Nat × Nat
inductive V where
 |v (x:Value)
 |p (k:Key) (idx off:Nat)
 |s (k:Key) (lo len:Nat)
 |q (τ:Bool) (xs:List V) (idx off:Nat)
 |i (τ:Bool) (xs:List V)
 |o (e:Nat) (xs:List V)
 |n (e:Nat)
 |b (x:V)
 |f (fn:Fn) (first caps:List V)
 |a (cs:List V)
 |t (vs:List V)
 |m (k:Key)
 |w (o:Option Bool) (es:List (Int × Int))
 |d
 deriving Inhabited
def V.cells:V→List V
 | .a cs=>cs
 |x=>[x]
def V.dead:V→Bool
 | .d=>true
 |_=>false
def V.isA:V→Bool
 | .a _=>true
 |_=>false
def yP:Value→Bool
 | .agg _=>true
 |_=>false
def V.one:V→Bool
 | .v x=>x.oneCell
 | .a _| .t _| .d=>false
 |_=>true
inductive AO where
 |t (n:Nat)
 |c (x:V)
inductive Md where
 |ro (fz:Bool)
 |io (fz:Bool)
inductive AI where
 |mv (d:Nat) (x:AO)
 |pick (d:Nat) (c a b:AO)
 |new (d:Nat) (x:AO)
 |build (d:Nat) (z:V) (parts:List (Nat × Nat × AO))
 |mks (d:Nat) (e:Nat) (parts:List AO)
 |mk (d:Nat) (e:Nat) (z:V) (bytes:Nat) (len cap:AO)
 |ld (d:Nat) (agg:Bool) (size:Nat) (a:AO)
 |ldq (d:Nat) (agg:Bool) (size:Nat) (a:AO)
 |st (size:Nat) (a x:AO)
 |nilc (d:Nat) (x:AO)
 |bin (d:Nat) (op:BinOp) (x y:AO)
 |eqs (d:Nat) (k:Nat) (neg:Bool) (x y:AO)
 |un (d:Nat) (op:UnOp) (x:AO)
 |sl (d:Nat) (e:Nat) (x:AO) (lo hi:Option AO)
 |ssl (d:Nat) (x:AO) (lo hi:Option AO)
 |slen (d:Nat) (x:AO)
 |fa (d:Nat) (x:AO) (off:Nat)
 |fld (d:Nat) (agg:Bool) (size:Nat) (x:AO) (off:Nat)
 |ia (d:Nat) (e:Nat) (x i:AO)
 |ix (d:Nat) (x i:AO)
 |ext (d:Nat) (x:AO) (i:Nat)
 |fun (d:Nat) (fn:Fn) (first caps:List AO)
 |call (d:Option Nat) (f:AO) (args:List AO) (m:Md)
 |app (d:Nat) (e bytes:Nat) (x y:AO)
 |len (d:Nat) (x:AO)
 |mx (d:Nat) (max:Bool) (args:List AO)
 |cpy (d:Option Nat) (x y:AO)
 |int (d:Nat) (k:IntKind) (x:AO)
 |str (d:Nat) (x:AO)
 |byt (d:Nat) (x:AO)
 |mkm (d:Nat)
 |mset (m k v:AO)
 |mget (d:Nat) (m k:AO)
 |men (d:Nat) (m k:AO)
 |mes (m s v:AO)
 |gd (j:Nat) (want:Bool) (d:Option Nat) (i:AI)
structure Dp where
 k:Nat
 ks:List Key
inductive AC where
 |reg (is:List AI)
 |dreg (plan:List Dp) (is:List AI)
 |seq (x y:AC)
 |cond (x:AO) (thn els:AC)
 |block (id:Nat) (x:AC)
 |loop (live:List Nat) (keys:List Key) (x:AC)
 |opn (os:List (Nat × Key × Nat)) (x:AC)
 |opd (os:List (Nat × Nat × Option Nat)) (x:AC)
 |nam (ls:List Nat) (ks:List Key) (x:AC)
 |keep (ls:List Nat) (x:AC)
 |exit (id:Nat)
 |ret
 |skip
inductive AR where
 |tmp (t:Nat)
 |cell (t:Nat) (agg:Bool) (size:Nat)
structure AF where
 nargs:Nat
 ntmps:Nat
 res:List AR
 body:AC
abbrev Ob:=Nat × List V
abbrev Sl:=List (Nat × V)
abbrev Mem:=List (Key × Ob)
structure St where
 σ:Sl
 T:Mem
def qF:Sl→Nat→Option V
 |[],_=>none
 |(u,x)::r,t=>if u=t then some x else qF r t
def qt:Mem→Key→Option Ob
 |[],_=>none
 |(u,x)::r,k=>if u=k then some x else qt r k
def qE:Mem→Key→Mem
 |[],_=>[]
 |(u,x)::r,k=>if u=k then r else (u,x)::qE r k
def qps:Mem→Key→Ob→Mem
 |[],_,_=>[]
 |(u,x)::r,k,y=>if u=k then (u,y)::r else (u,x)::qps r k y
def St.put(st:St) (d:Nat) (x:V):St:={st with σ:=(d,x)::st.σ}
mutual
def qN(d:Nat):V→V
 | .p k idx off=>if k.1=d then .d else .p k idx off
 | .s k lo len=>if k.1=d then .d else .s k lo len
 | .f fn first caps=> .f fn (qB d first) (qB d caps)
 | .a cs=> .a (qB d cs)
 | .t vs=> .t (qB d vs)
 | .m k=>if k.1=d then .d else .m k
 |x=>x
def qB(d:Nat):List V→List V
 |[]=>[]
 |x::xs=>qN d x::qB d xs
end
def x5(d:Nat):Sl→Sl
 |[]=>[]
 |(t,x)::r=>(t,qN d x)::x5 d r
def Q7(d:Nat):Mem→Mem
 |[]=>[]
 |(k,e,xs)::r=>(k,e,qB d xs)::Q7 d r
mutual
def clB:V→Bool
 | .v _| .q .. | .i .. | .o .. | .b .. | .n _| .w .. =>true
 | .f _ first caps=>xX first&&xX caps
 |_=>false
def xX:List V→Bool
 |[]=>true
 |x::xs=>clB x&&xX xs
end
def clE:V→Bool
 | .a cs=>xX cs
 |x=>clB x
def qC:List V→Bool
 |[]=>true
 |x::xs=>clE x&&qC xs
def yV(k:Key) (ob:Ob):V→Option V
 | .s k' lo len=>if k'=k∧lo=0∧len=ob.2.length then some (.o ob.1 ob.2)else none
 | .p k' idx off=>if k'=k∧idx=0∧off=0 then (match ob.2 with|[y]=>some (.b y)|_=>none)else none
 |_=>none
def kC(k:Key) (ob:Ob):List V→Option (List V)
 |[]=>none
 |x::r=>match yV k ob x with
  |some x'=>some (x'::r)
  |none=>(kC k ob r).map (x:: ·)
def kD(k:Key) (ob:Ob):V→Option V
 | .a cs=>(kC k ob cs).map .a
 |x=>yV k ob x
def zG(k:Key) (ob:Ob):List V→Option (List V)
 |[]=>none
 |x::r=>match kD k ob x with
  |some x'=>some (x'::r)
  |none=>(zG k ob r).map (x:: ·)
def jz(k:Key) (ob:Ob):Mem→Mem
 |[]=>[]
 |(u,e,xs)::r=>match zG k ob xs with
  |some xs'=>(u,e,xs')::r
  |none=>(u,e,xs)::jz k ob r
def qgr(T:Mem) (k:Key):Mem:=
 match qt T k with
 |none=>T
 |some ob=>if qC ob.2 then jz k ob (qE T k)else qE T k
def qdc:List Key→Mem→Mem
 |[],T=>T
 |k::ks,T=>qdc ks (qgr T k)
def J7(d:Nat):Mem→List Key
 |[]=>[]
 |(k,_)::r=>if k.1=d then k::J7 d r else J7 d r
def qiI(ks:List Key):Mem→List Key
 |[]=>[]
 |(k,_)::r=>if ks.contains k then qiI ks r else k::qiI ks r
def Q4(d:Nat):Mem→Mem
 |[]=>[]
 |(k,x)::r=>if k.1=d then Q4 d r else (k,x)::Q4 d r
def zr(d:Nat) (st:St):St:=
 {σ:=x5 d st.σ,T:=Q7 d (Q4 d (qdc (J7 d st.T) st.T))}
def zL(σ:Sl):List Nat→Sl
 |[]=>[]
 |t::r=>match qF σ t with
  |some x=>(t,x)::zL σ r
  |none=>zL σ r
def xh(T:Mem):List Key→Mem
 |[]=>[]
 |k::r=>match qt T k with
  |some x=>(k,x)::xh (qE T k) r
  |none=>xh T r
mutual
def xd:V→List Key
 | .p k _ _=>[k]
 | .s k _ _=>[k]
 | .m k=>[k]
 | .f _ first caps=>YD first++YD caps
 | .a cs=>YD cs
 | .t vs=>YD vs
 |_=>[]
def YD:List V→List Key
 |[]=>[]
 |x::xs=>xd x++YD xs
end
def xY:Sl→List Key
 |[]=>[]
 |(_,x)::r=>xd x++xY r
def xZ(k:Key):List Key→Bool
 |[]=>false
 |u::r=>if u=k then true else xZ k r
def qje(ks:List Key):Mem→List Key
 |[]=>[]
 |(k,_)::r=>if xZ k ks=true then qje ks r else k::qje ks r
def qjE(T:Mem) (k:Key):Mem:=
 match qt T k with
 |none=>T
 |some ob=>if qC ob.2 then jz k ob (qE T k)else T
def qo2:List Key→Mem→Mem
 |[],T=>T
 |k::ks,T=>qo2 ks (qjE T k)
def CN:Nat:=100000
def NB:Nat:=200000
mutual
def qW(d i:Nat) (nm:Bool):V→V
 | .p k a b=>if NB≤k.1 then .d else .p k a b
 | .s k a b=>if NB≤k.1 then .d else .s k a b
 | .m k=>if NB≤k.1 then .d else .m k
 | .f fn x y=> .f fn (zV d i false x) (zV d i false y)
 | .a cs=> .a (zV d i nm cs)
 | .t vs=> .t (zV d i false vs)
 | .n e=>if nm then .s (d,i) 0 0 else .n e
 |x=>x
def zV(d i:Nat) (nm:Bool):List V→List V
 |[]=>[]
 |x::xs=>qW d i nm x::zV d (i+1) nm xs
end
def Q8(d:Nat):Nat→List V→Mem
 |_,[]=>[]
 |i,.n e::xs=>((d,i),e,[])::Q8 d (i+1) xs
 |i,_::xs=>Q8 d (i+1) xs
def yx(d i:Nat):V→Mem
 | .n e=>[((d,i),e,[])]
 | .a cs=>Q8 d i cs
 |_=>[]
def kw:Sl→Sl
 |[]=>[]
 |(t,x)::r=>(t,qW (NB+t) 0 true x)::kw r
def jx:Sl→Mem
 |[]=>[]
 |(t,x)::r=>yx (NB+t) 0 x++jx r
def jw(d i:Nat) (bx:Bool):List V→List V
 |[x]=>if bx then [qW d i true x]else (if clE x then [x]else [qW 0 0 false x])
 |xs=>if qC xs then xs else zV 0 0 false xs
def XT(d i:Nat) (bx:Bool):List V→Mem
 |[x]=>if bx then yx d i x else []
 |_=>[]
def xx(bx:List Key):Mem→Mem
 |[]=>[]
 |(k,e,xs)::r=>if NB≤k.1 then xx bx r else
  XT (2*NB+k.1) (10*k.2) (xZ k bx) xs++(k,e,jw (2*NB+k.1) (10*k.2) (xZ k bx) xs)::xx bx r
def YF(k:Key):Nat→List Key→Option Nat
 |_,[]=>none
 |i,u::r=>if u=k then some i else YF k (i+1) r
def kb(tb:List Key) (k:Key):Option Key:=
 match YF k 0 tb with
 |some i=>some (CN,i)
 |none=>if k.1=CN then none else some k
mutual
def zc(tb:List Key):V→V
 | .p k a b=>match kb tb k with|some k'=> .p k' a b|none=> .d
 | .s k a b=>match kb tb k with|some k'=> .s k' a b|none=> .d
 | .m k=>match kb tb k with|some k'=> .m k'|none=> .d
 | .f fn x y=> .f fn (z8 tb x) (z8 tb y)
 | .a cs=> .a (z8 tb cs)
 | .t vs=> .t (z8 tb vs)
 |x=>x
def z8(tb:List Key):List V→List V
 |[]=>[]
 |x::xs=>zc tb x::z8 tb xs
end
def Zg(tb:List Key):Sl→Sl
 |[]=>[]
 |(t,x)::r=>(t,zc tb x)::Zg tb r
def jY(tb:List Key):Mem→Mem
 |[]=>[]
 |(k,e,xs)::r=>match kb tb k with
  |some k'=>(k',e,if qC xs then xs else z8 tb xs)::jY tb r
  |none=>jY tb r
def xp:Sl→List Key
 |[]=>[]
 |(_,.p k _ _)::r=>k::xp r
 |_::r=>xp r
def qij:Option Ob→List Key
 |some (_,[x])=>xd x
 |_=>[]
def xW(T:Mem):List Key→List Key
 |[]=>[]
 |k::r=>qij (qt T k)++xW T r
def ju(n:Nat):List Key→List Key
 |[]=>[]
 |k::r=>if n≤k.1 then k::ju n r else ju n r
def qcx:List Key→Nat
 |(n,_)::_=>n
 |[]=>0
def YB(n:Nat) (bx:List Key) (σ:Sl) (T:Mem):St:=
 {σ:=Zg (ju n (xY (kw σ)++xW (jx σ++xx bx T) bx)) (kw σ),
  T:=jY (ju n (xY (kw σ)++xW (jx σ++xx bx T) bx)) (xh (jx σ++xx bx T) (xY (kw σ)++xW (jx σ++xx bx T) bx))}
def qy(g:Mem→V→V × Mem):Mem→List V→List V × Mem
 |T,[]=>([],T)
 |T,x::xs=>((g T x).1::(qy g (g T x).2 xs).1,(qy g (g T x).2 xs).2)
def qz:Nat→Mem→V→V × Mem
 |0,T,x=>(match x with| .a cs=> .a (cs.map fun _=> .d)|_=> .d,T)
 |n+1,T,x=>
  let es (T:Mem) (xs:List V):List V × Mem:=if qC xs then (xs,T)else qy (qz n) T xs
  match x with
  | .s k lo len=>match qt T k with
    |none=>(.d,T)
    |some ob=>if lo+len≤ob.2.length then
     (if lo=0 then (.o ob.1 (((es (qE T k) ob.2).1.drop lo).take len),(es (qE T k) ob.2).2)
     else (.o ob.1 (es (qE T k) ((ob.2.drop lo).take len)).1,(es (qE T k) ((ob.2.drop lo).take len)).2))else (.d,T)
  | .p k idx off=>match qt T k with
    |some (_,[x])=>if idx=0∧off=0 then (.b ((es (qE T k) [x]).1.headD .d),(es (qE T k) [x]).2)else (.d,T)
    |_=>(.d,T)
  | .f fn first caps=>
    let r:=qy (qz n) T first
    let r':=qy (qz n) r.2 caps
    (.f fn r.1 r'.1,r'.2)
  | .a cs=>let r:=qy (qz n) T cs;(.a r.1,r.2)
  | .t vs=>let r:=qy (qz n) T vs;(.t r.1,r.2)
  | .n e=>(.o e [],T)
  | .m k=>match qt T k with
    |some (_,[.w _ es])=>(.w none es,qE T k)
    |_=>(.d,T)
  |x=>(x,T)
def zf(n:Nat) (T:Mem) (x:V):V × Mem:=if clE x then (x,T)else qz n T x
def XG(T:Mem) (k:Key):Mem:=
 match qt T k with
 |none=>T
 |some ob=>if qC ob.2 then T else (k,ob.1,(qy (zf 30) (qE T k) ob.2).1)::(qy (zf 30) (qE T k) ob.2).2
def Q3(bx:List Key):List Key→Mem→Mem
 |[],T=>T
 |k::ks,T=>Q3 bx ks (if xZ k bx then T else XG T k)
def X2(bx k0:List Key) (T:Mem):Mem:=xh (Q3 bx k0 T) k0
def kB(ls:List Nat) (ks:List Key) (st:St):St:=
 YB (qcx ks) (xp (zL st.σ ls)) (zL st.σ ls) (X2 (xp (zL st.σ ls)) (xY (zL st.σ ls)++xW st.T (xp (zL st.σ ls))) st.T)
mutual
def zb(τ:Bool):V→V
 | .o _ xs=> .i τ (qT τ xs)
 | .n _=> .i τ []
 | .b x=> .q τ [zb τ x] 0 0
 | .f fn first caps=> .f fn (qT τ first) (qT τ caps)
 | .a cs=> .a (qT τ cs)
 | .t vs=> .t (qT τ vs)
 | .w none es=> .w (some τ) es
 |x=>x
def qT(τ:Bool):List V→List V
 |[]=>[]
 |x::xs=>zb τ x::qT τ xs
end
mutual
def zd:V→Bool
 | .q τ xs _ _=> !τ&&qH xs
 | .i τ xs=> !τ&&qH xs
 | .o _ xs=>qH xs
 | .b x=>zd x
 | .f _ first caps=>qH first&&qH caps
 | .a cs=>qH cs
 | .t vs=>qH vs
 | .w (some τ) _=> !τ
 | .v _| .d| .n _| .w none _=>true
 | .p .. | .s .. | .m _=>false
def qH:List V→Bool
 |[]=>true
 |x::xs=>zd x&&qH xs
end
mutual
def zk:V→Bool
 | .o .. | .b _| .w none _=>false
 | .f _ first caps=>ya first&&ya caps
 | .a cs=>ya cs
 | .t vs=>ya vs
 |_=>true
def ya:List V→Bool
 |[]=>true
 |x::xs=>zk x&&ya xs
end
def zB(d:Nat) (j:Nat):V→V × Nat × Mem
 | .o e xs=>(.s (d,j) 0 xs.length,j+1,[((d,j),e,xs)])
 | .b x=>(.p (d,j) 0 0,j+1,[((d,j),x.cells.length,[x])])
 | .w none es=>(.m (d,j),j+1,[((d,j),0,[.w (some true) es])])
 |x=>(if zk x then x else .d,j,[])
def zx(d:Nat):Nat→List V→List V × Nat × Mem
 |j,[]=>([],j,[])
 |j,x::xs=>((zB d j x).1::(zx d (zB d j x).2.1 xs).1,(zx d (zB d j x).2.1 xs).2.1,(zB d j x).2.2++(zx d (zB d j x).2.1 xs).2.2)
def qX(d:Nat) (j:Nat):V→V × Nat × Mem
 | .a cs=>(.a (zx d j cs).1,(zx d j cs).2)
 | .f fn first caps=>(.f fn (zx d j first).1 (zx d (zx d j first).2.1 caps).1,(zx d (zx d j first).2.1 caps).2.1,(zx d j first).2.2++(zx d (zx d j first).2.1 caps).2.2)
 |x=>zB d j x
def kX(d:Nat):Nat→List V→List V × Nat × Mem
 |j,[]=>([],j,[])
 |j,x::xs=>((qX d j x).1::(kX d (qX d j x).2.1 xs).1,(kX d (qX d j x).2.1 xs).2.1,(qX d j x).2.2++(kX d (qX d j x).2.1 xs).2.2)
def yn(d:Nat):V→V × Mem
 | .t vs=>(.t (kX d 0 vs).1,(kX d 0 vs).2.2)
 |x=>((qX d 0 x).1,(qX d 0 x).2.2)
def YA(d:Nat) (x:V) (st:St):St:=
 if !zk x then {σ:=(d,(yn d x).1)::(zr d st).σ,T:=(yn d x).2++(zr d st).T} else st.put d x
def ev(σ:Sl):AO→Option V
 | .t n=>qF σ n
 | .c x=>some x
def evL(σ:Sl):List AO→Option (List V)
 |[]=>some []
 |x::xs=>match ev σ x,evL σ xs with
  |some y,some ys=>some (y::ys)
  |_,_=>none
def zh(agg:Bool) (n:Nat) (x:V) (off:Nat):Option V:=
 if agg then
  if off=0∧x.cells.length=n∧x.isA then some x
  else if off+n≤x.cells.length then some (.a ((x.cells.drop off).take n))else none
 else x.cells[off]?
def yT:List V→Bool
 |[]=>true
 |x::xs=>x.one&&yT xs
def Z2(x:V) (off:Nat) (y:V):Option V:=
 if off=0∧y.cells.length=x.cells.length then some y
 else if off+y.cells.length≤x.cells.length then some (.a (x.cells.take off++y.cells++x.cells.drop (off+y.cells.length)))
 else none
def _root_.Go.Sem.val? {α:Type}:Sem α→Option α
 | .pure a=>some a
 |_=>none
def lim:Nat:=1099511627776
def jM(T:Mem) (e:Nat):V→Option (List V)
 | .s k lo len=>match qt T k with
   |some ob=>if ob.1=e∧lo+len≤ob.2.length then some ((ob.2.drop lo).take len)else none
   |none=>none
 | .i _ xs=>some xs
 | .n _=>some []
 |_=>none
def zm(c:UInt8):V:= .v (.int .u8 c.toNat)
def jq:List V→Option (List UInt8)
 |[]=>some []
 | .v (.int .u8 n)::r=>match jq r with
   |some l=>some (UInt8.ofNat n.toNat::l)
   |none=>none
 |_=>none
def ZT:V→Option Nat
 | .s _ _ len=>some len
 | .i _ xs=>some xs.length
 | .n _=>some 0
 |_=>none
def yI:V:= .v (.tuple #[])
abbrev ze:=Nat→List V→Option (V × List V)
def jd(T:Mem):List V→List V
 |[]=>[]
 |x::xs=>zb true (qz 30 T x).1::jd T xs
def xG(T:Mem):V→V→Mem
 | .s k lo _,.o e xs=>match qt T k with
   |some ob=>if lo=0∧ob.1=e then [(k,e,xs)]else []
   |none=>[]
 | .p k idx off,.b x=>match qt T k with
   |some ob=>if idx=0∧off=0∧ob.1=x.cells.length then [(k,x.cells.length,[x])]else []
   |none=>[]
 |_,_=>[]
def QX(T:Mem):List V→List V→Mem
 |x::xs,y::ys=>xG T x y++QX T xs ys
 |_,_=>[]
def Qk(T:Mem):V→V→Mem
 | .a cs,.a ds=>QX T cs ds
 | .f _ fs cs,.f _ gs ds=>QX T fs gs++QX T cs ds
 |x,y=>xG T x y
def ZJ(T:Mem):List V→List V→Mem
 |x::xs,y::ys=>Qk T x y++ZJ T xs ys
 |_,_=>[]
def callee:V→Option (Nat × List V × List V)
 | .f (.func f) first caps=>some (f,first,caps)
 |_=>none
def kM:Option Nat→V→St→St
 |some d,x,st=>YA d x st
 |none,_,st=>st
def fzV(fz:Bool) (x:V):V:=if fz then zb false x else x
def kP(call:ze) (d:Option Nat) (g:Nat) (xs:List V) (m:Md) (st:St):Option St:=
 match m with
 | .ro fz=>
   match call g (jd st.T xs)with
   |some (r,_)=>if zd r then some (kM d (fzV fz r) st)else none
   |none=>none
 | .io fz=>
   match call g (qy (qz 30) st.T xs).1 with
   |some (r,outs)=>some (kM d (fzV fz r) {σ:=st.σ,T:=ZJ st.T xs outs++(qy (qz 30) st.T xs).2})
   |none=>none
def qPc:V→Option Int
 | .v (.int _ n)=>some n
 |_=>none
def qD(op:BinOp):V→V→Option V
 | .v (.int k a),.v (.int k' b)=>(binOp op 0 (.int k a) (.int k' b)).val?.map .v
 | .v (.string a),.v (.string b)=>(binOp op 0 (.string a) (.string b)).val?.map .v
 |_,_=>none
def eqA:Nat→List V→List V→Option Bool
 |c,[],[]=>if c=0 then some true else none
 |c,.v (.int k a)::xs,.v (.int k' b)::ys=>if c % 4=1∧k=k' then (eqA (c / 4) xs ys).map fun r=>(a==b)&&r else none
 |c,.v (.string a)::xs,.v (.string b)::ys=>if c % 4=2 then (eqA (c / 4) xs ys).map fun r=>(a==b)&&r else none
 |c,.v (.bool a)::xs,.v (.bool b)::ys=>if c % 4=3 then (eqA (c / 4) xs ys).map fun r=>(a==b)&&r else none
 |_,_,_=>none
def eqV:Nat→V→V→Option Bool
 |0,.v (.bool a),.v (.bool b)=>some (a==b)
 |1,.v (.pointer none),.v (.pointer none)=>some true
 |1,.v (.pointer none),.p .. |1,.v (.pointer none),.q .. |1,.p ..,.v (.pointer none)|1,.q ..,.v (.pointer none)=>some false
 |2,.n _,.n _=>some true
 |2,.i _ (_::_),.n _|2,.n _,.i _ (_::_)=>some false
 |2,.s _ _ (_+1),.n _|2,.n _,.s _ _ (_+1)=>some false
 |3,.f ..,.v .nilFunc|3,.v .nilFunc,.f .. =>some false
 |3,.v .nilFunc,.v .nilFunc=>some true
 |k+4,.a xs,.a ys=>eqA k xs ys
 |_,_,_=>none
def Qm(σ:Sl):List V→List (Nat × Nat × AO)→Option (List V)
 |z,[]=>some z
 |z,(off,size,x)::r=>match ev σ x with
  |some y=>if y.dead=false∧y.cells.length=size∧off+size≤z.length then Qm σ (z.take off++y.cells++z.drop (off+size)) r else none
  |none=>none
def qU(k:Int):List (Int × Int)→Option Int
 |[]=>none
 |(a,b)::r=>if a=k then some b else qU k r
def zF(k v:Int):List (Int × Int)→List (Int × Int)
 |[]=>[(k,v)]
 |(a,b)::r=>if a=k then (k,v)::r else (a,b)::zF k v r
def zy(k:Int):List (Int × Int)→Nat
 |[]=>0
 |(a,_)::r=>if a=k then 0 else zy k r+1
def xt(T:Mem):V→Option (List (Int × Int))
 | .w (some _) es=>some es
 | .m k=>match qt T k with
   |some (_,[.w _ es])=>some es
   |_=>none
 |_=>none
def j0(T:Mem) (x:V) (es:List (Int × Int)):Option Mem:=
 match x with
 | .m k=>match qt T k with
   |some _=>some ((k,0,[.w (some true) es])::qE T k)
   |none=>none
 |_=>none
def yj(i:Int) (n:Nat):Option Nat:=if 0≤i∧i < n then some i.toNat else none
def xH(d:Nat):Option V→Option Nat
 |none=>some d
 |some (.v (.int _ i))=>if 0≤i then some i.toNat else none
 |_=>none
def evO(σ:Sl):Option AO→Option (Option V)
 |none=>some none
 |some x=>(ev σ x).map some
def XK(e:Nat):List V→Bool
 |[]=>true
 |x::_=>x.cells.length==e
def YN(T:Mem) (e:Nat) (x:V) (lo hi:Option V):Option V:=
 match ZT x with
 |none=>none
 |some n=>match xH 0 lo,xH n hi with
  |some l,some h=>if l≤h∧h≤n then
   match x with
   | .s k l0 _=>match qt T k with
     |some ob=>if ob.1=e then some (.s k (l0+l) (h - l))else none
     |none=>none
   | .i τ xs=>if XK e xs then some (.i τ ((xs.drop l).take (h - l)))else none
   | .n e=>some (.n e)
   |_=>none
   else none
  |_,_=>none
def jj(T:Mem) (e:Nat) (x:V) (i:Int):Option V:=
 match x with
 | .s k lo len=>match qt T k with
   |some ob=>if ob.1=e∧lo+len≤ob.2.length then (yj i len).map fun j=> .p k (lo+j) 0 else none
   |none=>none
 | .i τ xs=>match yj i xs.length with
   |some j=>if (xs[j]?.getD .d).cells.length=e then some (.q τ xs j 0)else none
   |none=>none
 |_=>none
def x6(T:Mem) (agg:Bool) (size:Nat):V→Option V
 | .p k idx off=>match qt T k with
   |some ob=>match ob.2[idx]? with
    |some x=>zh agg size x off
    |none=>none
   |none=>none
 | .q _ xs idx off=>match xs[idx]? with
   |some x=>zh agg size x off
   |none=>none
 |_=>none
def Z3(T:Mem) (a y:V):Option Mem:=
 match a with
 | .p k idx off=>match qt T k with
   |some ob=>match ob.2[idx]? with
    |some x=>match Z2 x off y with
     |some x'=>some ((k,ob.1,ob.2.set idx x')::qE T k)
     |none=>none
    |none=>none
   |none=>none
 |_=>none
def QW(T:Mem) (e:Nat) (x:V):Option (List V × Mem):=
 match x with
 | .n _=>some ([],T)
 | .s k lo len=>match qt T k with
   |some ob=>if ob.1=e∧lo+len≤ob.2.length then some ((ob.2.drop lo).take len,qE T k)else none
   |none=>none
 |_=>none
def JQ(T:Mem) (e:Nat) (y:V):Option (List V × Mem):=
 match jM T e y with
 |some ys=>if ya ys then some (ys,T)else QW T e y
 |none=>none
def qj(call:ze) (st:St):AI→Option St
 | .mv d x=>(ev st.σ x).map (st.put d)
 | .pick d c x y=>match ev st.σ c with
   |some (.v (.bool true))=>(ev st.σ x).map (st.put d)
   |some (.v (.bool false))=>(ev st.σ y).map (st.put d)
   |_=>none
 | .new d x=>match ev st.σ x with
   |some y=>if yT y.cells then
    some {σ:=(d,.p (d,0) 0 0)::(zr d st).σ,T:=((d,0),y.cells.length,[qN d y])::(zr d st).T}
    else none
   |none=>none
 | .build d z parts=>(Qm st.σ z.cells parts).map fun cs=>st.put d (.a cs)
 | .mks d e parts=>match evL st.σ parts with
   |some ys=>if ys.all (fun y=>yT y.cells&&y.cells.length==e)then
    some {σ:=(d,.s (d,0) 0 ys.length)::(zr d st).σ,T:=((d,0),e,qB d ys)::(zr d st).T}
    else none
   |none=>none
 | .mk d e z bytes len cap=>match ev st.σ len,ev st.σ cap with
   |some (.v (.int _ l)),some (.v (.int _ c))=>
    if 0≤l∧l=c∧l*bytes≤lim∧l≤lim∧z.cells.length=e∧yT z.cells∧clE z then
     some {σ:=(d,.s (d,0) 0 l.toNat)::(zr d st).σ,T:=((d,0),e,List.replicate l.toNat z)::(zr d st).T}
    else none
   |_,_=>none
 | .ld d agg size a=>match ev st.σ a with
   |some p=>match x6 st.T agg size p with
    |some y=>if !zk y then
     match x6 (zr d st).T agg size p with
     |some y'=>match Z3 (zr d st).T p (qX d 0 y').1 with
      |some T'=>some {σ:=(d,(qX d 0 y').1)::(zr d st).σ,T:=(qX d 0 y').2.2++T'}
      |none=>none
     |none=>none
     else some (st.put d y)
    |none=>none
   |none=>none
 | .ldq d agg size a=>match ev st.σ a with
   |some p=>match x6 st.T agg size p with
    |some y=>if zk y then some (st.put d y)else none
    |none=>none
   |none=>none
 | .st size a x=>match ev st.σ a,ev st.σ x with
   |some p,some y=>if y.cells.length=size∧yT y.cells then (Z3 st.T p y).map fun T'=>{st with T:=T'} else none
   |_,_=>none
 | .nilc d x=>match ev st.σ x with
   |some (.p k idx off)=>some (st.put d (.p k idx off))
   |some (.q τ xs idx off)=>some (st.put d (.q τ xs idx off))
   |some (.f (.func g) first caps)=>some (st.put d (.f (.func g) first caps))
   |_=>none
 | .bin d op x y=>match ev st.σ x,ev st.σ y with
   |some x,some y=>(qD op x y).map (st.put d)
   |_,_=>none
 | .eqs d k neg x y=>match ev st.σ x,ev st.σ y with
   |some x,some y=>(eqV k x y).map fun r=>st.put d (.v (.bool (r != neg)))
   |_,_=>none
 | .un d op x=>match ev st.σ x with
   |some (.v x)=>(Op.unary op x).val?.map fun r=>st.put d (.v r)
   |_=>none
 | .sl d e x lo hi=>match ev st.σ x,evO st.σ lo,evO st.σ hi with
   |some x,some lo,some hi=>(YN st.T e x lo hi).map (st.put d)
   |_,_,_=>none
 | .ssl d x lo hi=>match ev st.σ x,evO st.σ lo,evO st.σ hi with
   |some (.v (.string s)),some lo,some hi=>match xH 0 lo,xH s.size hi with
    |some l,some h=>if l≤h∧h≤s.size then some (st.put d (.v (.string (s.extract l h))))else none
    |_,_=>none
   |_,_,_=>none
 | .slen d x=>match ev st.σ x with
   |some (.v (.string s))=>some (st.put d (.v (.int .i64 s.size)))
   |_=>none
 | .fa d x off=>match ev st.σ x with
   |some (.p k idx o)=>some (st.put d (.p k idx (o+off)))
   |some (.q τ xs idx o)=>some (st.put d (.q τ xs idx (o+off)))
   |_=>none
 | .fld d agg size x off=>match ev st.σ x with
   |some (.a cs)=>(zh agg size (.a cs) off).map (st.put d)
   |_=>none
 | .ia d e x i=>match ev st.σ x,ev st.σ i with
   |some x,some (.v (.int _ i))=>(jj st.T e x i).map (st.put d)
   |_,_=>none
 | .ix d x i=>match ev st.σ x,ev st.σ i with
   |some (.v (.string s)),some (.v (.int _ i))=>(yj i s.size).map fun j=>st.put d (zm (s.data[j]?.getD 0))
   |_,_=>none
 | .ext d x i=>match ev st.σ x with
   |some (.t vs)=>(vs[i]?).map (st.put d)
   |_=>none
 | .fun d fn first caps=>match evL st.σ first,evL st.σ caps with
   |some a,some b=>some (st.put d (.f fn a b))
   |_,_=>none
 | .call d f args m=>match ev st.σ f with
   |some f=>match callee f,evL st.σ args with
    |some (g,first,caps),some xs=>kP call d g (first++xs++caps) m st
    |_,_=>none
   |none=>none
 | .app d e bytes x y=>match ev st.σ x,ev st.σ y with
   |some x,some y=>match JQ st.T e y with
    |some (ys,Ty)=>match QW Ty e x with
     |some (xs,T)=>
      if ys.all (fun y=>yT y.cells&&y.cells.length==e)&&decide ((xs.length+ys.length)*bytes≤lim)&&decide (xs.length+ys.length≤lim)then
       some {σ:=(d,.s (d,0) 0 (xs.length+ys.length))::(zr d {st with T:=T}).σ,T:=((d,0),e,qB d (xs++ys))::(zr d {st with T:=T}).T}
      else none
     |none=>none
    |none=>none
   |_,_=>none
 | .len d x=>match ev st.σ x with
   |some x=>(ZT x).map fun n=>st.put d (.v (.int .i64 n))
   |none=>none
 | .mx d max args=>match evL st.σ args with
   |some [.v (.int k a),.v (.int _ b)]=>some (st.put d (.v (.int k (if max then (if b > a then b else a)else (if b < a then b else a)))))
   |_=>none
 | .cpy .. =>none
 | .int d k x=>match ev st.σ x with
   |some (.v (.int _ n))=>some (st.put d (.v (.int k (k.wrap n))))
   |_=>none
 | .str d x=>match ev st.σ x with
   |some x=>match jM st.T 1 x with
    |some xs=>(jq xs).map fun l=>st.put d (.v (.string ⟨l.toArray⟩))
    |none=>none
   |none=>none
 | .byt d x=>match ev st.σ x with
   |some (.v (.string s))=>if s.size≤lim then
    some {σ:=(d,.s (d,0) 0 s.size)::(zr d st).σ,T:=((d,0),1,s.data.toList.map zm)::(zr d st).T}
    else none
   |_=>none
 | .mkm d=>some {σ:=(d,.m (d,0))::(zr d st).σ,T:=((d,0),0,[.w (some true) []])::(zr d st).T}
 | .mset m k v=>match ev st.σ m,ev st.σ k,ev st.σ v with
   |some m,some (.v (.int .i64 k)),some (.v (.int .i64 v))=>match xt st.T m with
    |some es=>(j0 st.T m (zF k v es)).map fun T'=>{st with T:=T'}
    |none=>none
   |_,_,_=>none
 | .mget d m k=>match ev st.σ m,ev st.σ k with
   |some m,some (.v (.int .i64 k))=>(xt st.T m).map fun es=>st.put d (.v (.int .i64 ((qU k es).getD 0)))
   |_,_=>none
 | .men d m k=>match ev st.σ m,ev st.σ k with
   |some m,some (.v (.int .i64 k))=>match xt st.T m with
    |some es=>(j0 st.T m (zF k ((qU k es).getD 0) es)).map fun T'=>{σ:=(d,.t [.v (.int .i64 ((qU k es).getD 0)),.v (.int .i64 (zy k es))])::st.σ,T:=T'}
    |none=>none
   |_,_=>none
 | .mes m s v=>match ev st.σ m,ev st.σ s,ev st.σ v with
   |some m,some (.v (.int .i64 s)),some (.v (.int .i64 v))=>match xt st.T m with
    |some es=>match yj s es.length with
     |some i=>(j0 st.T m (es.modify i fun e=>(e.1,v))).map fun T'=>{st with T:=T'}
     |none=>none
    |none=>none
   |_,_,_=>none
 | .gd .. =>none
def qp(call:ze) (st:St):AI→Option St
 | .gd j want d i=>match qF st.σ j with
  |some (.v (.bool b))=>if b=want then qj call st i else some (match d with|some d=>st.put d yI|none=>st)
  |some (.v _)=>some (match d with|some d=>st.put d yI|none=>st)
  |_=>none
 |i=>qj call st i
def xn(call:ze):List AI→St→Option St
 |[],st=>some st
 |i::is,st=>match qp call st i with
  |some st'=>xn call is st'
  |none=>none
def qQ:AO→List Nat
 | .t n=>[n]
 | .c _=>[]
def Zk:Option AO→List Nat
 |some x=>qQ x
 |none=>[]
def QE:List AO→List Nat
 |[]=>[]
 |x::xs=>qQ x++QE xs
def qgI:List (Nat × Nat × AO)→List Nat
 |[]=>[]
 |(_,_,x)::xs=>qQ x++qgI xs
def qY:AI→List Nat
 | .mv _ x| .new _ x| .ld _ _ _ x| .ldq _ _ _ x| .nilc _ x| .un _ _ x| .slen _ x| .fa _ x _| .fld _ _ _ x _| .ext _ x _| .len _ x| .int _ _ x| .str _ x| .byt _ x=>qQ x
 | .mkm _=>[]
 | .pick _ a b c| .mset a b c| .mes a b c=>qQ a++(qQ b++qQ c)
 | .build _ _ ps=>qgI ps
 | .mks _ _ ps| .mx _ _ ps=>QE ps
 | .mk _ _ _ _ a b| .st _ a b| .bin _ _ a b| .eqs _ _ _ a b| .ia _ _ a b| .ix _ a b| .app _ _ _ a b| .cpy _ a b| .mget _ a b| .men _ a b=>qQ a++qQ b
 | .sl _ _ x a b=>qQ x++(Zk a++Zk b)
 | .ssl _ x a b=>qQ x++(Zk a++Zk b)
 | .fun _ _ a b=>QE a++QE b
 | .call _ f xs _=>qQ f++QE xs
 | .gd j _ _ i=>j::qY i
def qx:AI→Option Nat
 | .mv d _| .new d _| .ld d _ _ _| .ldq d _ _ _| .nilc d _| .un d _ _| .slen d _| .fa d _ _| .fld d _ _ _ _| .ext d _ _| .len d _| .int d _ _| .str d _| .byt d _
 | .pick d _ _ _| .build d _ _| .mks d _ _| .mx d _ _| .mk d _ _ _ _ _| .bin d _ _ _| .eqs d _ _ _ _| .ia d _ _ _| .ix d _ _| .app d _ _ _ _| .sl d _ _ _ _| .ssl d _ _ _| .fun d _ _ _| .mkm d| .mget d _ _| .men d _ _=>some d
 | .st .. | .mset .. | .mes .. =>none
 | .cpy d _ _| .call d _ _ _| .gd _ _ d _=>d
def x8(T:Mem):List Key→Mem
 |[]=>[]
 |k::r=>match qt T k with
  |some x=>(k,x)::x8 T r
  |none=>x8 T r
def Dp.own(p:Dp) (d:Option Nat) (k:Key):Bool:=(p.k==1&&p.ks.contains k)||(p.k != 0&&d==some k.1)
def qL(f:Key→Bool):Mem→Mem
 |[]=>[]
 |(k,x)::r=>if f k then (k,x)::qL f r else qL f r
def XQ(p:Dp) (d:Option Nat) (T' T:Mem):Mem:=
 if p.k=0 then T else qL (p.own d) T'++qL (fun k=> !p.own d k) T
def kd(call:ze) (p:Dp) (i:AI) (st:St):Option St:=
 match qp call {σ:=zL st.σ (qY i),T:=x8 st.T p.ks} i with
 |none=>none
 |some st'=>match qx i with
  |none=>some {σ:=st.σ,T:=XQ p none st'.T st.T}
  |some d=>match qF st'.σ d with
   |some x=>some {σ:=(d,x)::st.σ,T:=XQ p (some d) st'.T st.T}
   |none=>none
def zZ(call:ze):List Dp→List AI→St→Option St
 |[],[],st=>some st
 |p::ps,i::is,st=>match kd call p i st with
  |some st'=>zZ call ps is st'
  |none=>none
 |_,_,_=>none
def yg:List Dp→List AI→List Nat
 |p::ps,i::is=>if p.k=0 then yg ps is else (match qx i with|some d=>d::yg ps is|none=>yg ps is)
 |_,_=>[]
def kg:List Nat→St→St
 |[],st=>st
 |d::ds,st=>kg ds (zr d st)
def YI:Mem→Bool
 |[]=>true
 |(k,_)::r=>(qt r k).isNone&&YI r
def qae(d:Nat) (k:Key) (i:Nat) (st:St):St:=
 match qt st.T k with
 |some ob=>match ob.2[i]? with
  |some x=>{σ:=st.σ,T:=(qX d 0 x).2.2++((k,ob.1,ob.2.set i (qX d 0 x).1)::qE st.T k)}
  |none=>st
 |none=>st
def kY:List (Nat × Key × Nat)→St→St
 |[],st=>st
 |(d,k,i)::r,st=>kY r (qae d k i (zr d st))
def jL(σ:Sl) (d r:Nat) (i:Option Nat):List (Nat × Key × Nat):=
 match qF σ r with
 |some (.p k idx _)=>match i with
  |none=>[(d,k,idx)]
  |some _=>[]
 |some (.s k lo _)=>match i with
  |some i=>match qF σ i with
   |some (.v (.int _ n))=>[(d,k,lo+n.toNat)]
   |_=>[]
  |none=>[]
 |_=>[]
def XI(st:St) (d r:Nat) (i:Option Nat):List (Nat × Key × Nat):=
 match i with
 |none=>[]
 |some i=>match qF st.σ r with
  |some (.p k _ _)=>match qt st.T k with
   |some (_,[.a (.s k' lo _::_)])=>match qF st.σ i with
    |some (.v (.int _ n))=>[(d,k',lo+n.toNat)]
    |_=>[]
   |_=>[]
  |_=>[]
def Qx:List (Nat × Nat × Option Nat)→St→St
 |[],st=>st
 |(d,r,none)::os,st=>Qx os (kY (jL st.σ d r none) st)
 |(d,r,some i)::os,st=>Qx os (kY (jL st.σ d r (some i)) (kY (XI st d r (some i)) st))
inductive AX where
 |normal
 |exit (id:Nat)
 |ret
def qu(call:ze):Nat→AC→St→Option (AX × St)
 |0,_,_=>none
 |n+1,c,st=>match c with
  | .skip=>some (.normal,st)
  | .ret=>some (.ret,st)
  | .exit id=>some (.exit id,st)
  | .reg is=>(xn call is st).map fun st=>(.normal,st)
  | .dreg plan is=>match zZ call plan is (kg (yg plan is) st)with
    |some st=>if YI st.T then some (.normal,st)else none
    |none=>none
  | .seq x y=>match qu call n x st with
    |some (.normal,st')=>qu call n y st'
    |r=>r
  | .cond c x y=>match ev st.σ c with
    |some (.v (.bool true))=>qu call n x st
    |some (.v (.bool false))=>qu call n y st
    |_=>none
  | .block id x=>match qu call n x st with
    |some (.exit id',st')=>if id'=id then some (.normal,st')else some (.exit id',st')
    |r=>r
  | .opn os x=>qu call n x (kY os st)
  | .opd os x=>qu call n x (Qx os st)
  | .nam ls ks x=>qu call n x (kB ls ks st)
  | .keep ls x=>qu call n x {σ:=zL st.σ ls,T:=st.T}
  | .loop ls ks x=>match qu call n x (kB ls ks st)with
    |some (.normal,st')=>qu call n (.loop ls ks x) st'
    |r=>r
def zq:Nat→List V→List V × Mem
 |_,[]=>([],[])
 |i,x::xs=>((yn i x).1::(zq (i+1) xs).1,(yn i x).2++(zq (i+1) xs).2)
def xO:Nat→List V→Sl
 |_,[]=>[]
 |i,x::xs=>(i,x)::xO (i+1) xs
def Zh(st:St):AR→Option (V × Mem)
 | .tmp t=>(qF st.σ t).map fun x=>(x,st.T)
 | .cell t agg size=>match qF st.σ t with
   |some (.p k 0 0)=>match qt st.T k with
    |some (_,[x])=>(zh agg size x 0).bind fun y=>if x.cells.length=y.cells.length then some (y,qE st.T k)else none
    |_=>none
   |_=>none
def jA(σ:Sl):Mem→List AR→Option (List V × Mem)
 |T,[]=>some ([],T)
 |T,r::rs=>match Zh {σ,T} r with
  |some (x,T')=>match jA σ T' rs with
   |some (xs,T'')=>some (x::xs,T'')
   |none=>none
  |none=>none
def jT:List V→V
 |[x]=>x
 |xs=> .t xs
inductive AE where
 |fn (af:AF)
 |prim (g:List V→Option (V × List V))
def qw(af:AF) (xs:List V) (st:St):Option (V × List V):=
 match jA st.σ st.T af.res with
 |some (rs,T)=>
  let r:=qz 30 T (jT rs)
  some (r.1,(qy (qz 30) r.2 xs).1)
 |none=>none
def zt(prog:Nat→Option AE):Nat→ze
 |0,_,_=>none
 |n+1,f,args=>match prog f with
  |some (.prim g)=>g args
  |some (.fn af)=>
   if args.length=af.nargs then
    match qu (zt prog n) n af.body {σ:=xO 0 (zq 0 args).1,T:=(zq 0 args).2} with
    |some (.normal,st)|some (.ret,st)=>qw af (zq 0 args).1 st
    |_=>none
   else none
  |none=>none
end Go.Vm
set_option linter.unusedVariables false
set_option linter.unusedSimpArgs false
namespace Go.Vm
abbrev Cnt:=Nat→Nat
def c0:Cnt:=fun _=>0
def qA(b:Nat):Cnt:=fun n=>if n=b then 1 else 0
def qh(x y:Cnt):Cnt:=fun n=>x n+y n
theorem XE(x:Cnt):qh x c0=x:=rfl
theorem zo(x:Cnt):qh c0 x=x:=funext fun n=>Nat.zero_add _
theorem QZ(x y:Cnt):qh x y=qh y x:=funext fun n=>Nat.add_comm _ _
theorem xc(x y z:Cnt):qh (qh x y) z=qh x (qh y z):=funext fun n=>Nat.add_assoc _ _ _
inductive Loc where
 |emp (A:Option Addr)
 |at (b base e lim:Nat)
 |mp (b:Nat)
structure Env where
 w:World
 I:Bool→Nat→Prop
 μ:Key→Option Loc
def Env.cl(E:Env):Env:={E with μ:=fun _=>none}
def seg(cells:Array Value) (base n:Nat):List Value:=(cells.toList.drop base).take n
def Q9(fz:Nat × Nat) (n:Nat):Prop:=n≤fz.1∨fz.2≤fz.1
def yy(l:List Value):Prop:= ∀ z ∈ l,z.oneCell=true
def yF:Nat→List (Int × Int)→List MapEntry
 |_,[]=>[]
 |i,(a,b)::r=>{key:= .int .i64 a,val:= .int .i64 b,born:=i}::yF (i+1) r
def kj(es:List (Int × Int)) (ents:Array MapEntry) (clk:Nat):Prop:=ents.toList=yF 0 es∧clk=es.length
mutual
def Rel:Env→V→Value→Cnt→Prop
 |_,.v x,y,c=>y=x∧yP x=false∧c=c0
 |E,.p k idx off,y,c=>c=c0∧ ∃ b base e lim,E.μ k=some (.at b base e lim)∧y= .pointer (some ⟨b,base+idx*e+off,none⟩)
 |E,.s k lo len,y,c=>c=c0∧((∃ A,E.μ k=some (.emp A)∧lo=0∧len=0∧y= .slice A 0 0)∨
  ∃ b base e lim cap A,E.μ k=some (.at b base e lim)∧len≤cap∧base+(lo+cap)*e≤lim∧(lo=0→0 < cap)∧(cap=0∨A=⟨b,base+lo*e,none⟩)∧y= .slice (some A) len cap)
 |E,.q τ xs idx off,y,c=>c=c0∧ ∃ b base e cells T fz,E.I τ b∧E.w.heap[b]? =some (.cells cells T fz)∧
  y= .pointer (some ⟨b,base+idx*e+off,none⟩)∧qn E.cl e xs (seg cells base (xs.length*e)) c0
 |E,.i τ xs,y,c=>c=c0∧ ∃ A cap,y= .slice A xs.length cap∧xs.length≤cap∧
  (xs=[]∨ ∃ b base e cells T fz,A=some ⟨b,base,none⟩∧E.I τ b∧E.w.heap[b]? =some (.cells cells T fz)∧qn E.cl e xs (seg cells base (xs.length*e)) c0)
 |E,.o e xs,y,c=>(xs=[]∧(∃ A,y= .slice A 0 0)∧c=c0)∨
  ∃ b base cap cells T fz c1,y= .slice (some ⟨b,base,none⟩) xs.length cap∧0 < cap∧xs.length≤cap∧base+cap*e≤cells.size∧
   E.w.heap[b]? =some (.cells cells T fz)∧Q9 fz cells.size∧qn E.cl e xs (seg cells base (xs.length*e)) c1∧c=qh (qA b) c1
 |_,.n _,y,c=>y= .slice none 0 0∧c=c0
 |E,.b x,y,c=> ∃ b base cells T fz c1 z,y= .pointer (some ⟨b,base,none⟩)∧base+z.cells.size≤cells.size∧
  E.w.heap[b]? =some (.cells cells T fz)∧Q9 fz cells.size∧z.cells.toList=seg cells base z.cells.size∧x.cells.length=z.cells.size∧yy z.cells.toList∧
  Rel E.cl x z c1∧c=qh (qA b) c1
 |E,.f fn first caps,y,c=> ∃ fs cs c1 c2,y= .func fn fs cs∧qk E first fs.toList c1∧qk E caps cs.toList c2∧c=qh c1 c2
 |E,.a xs,y,c=> ∃ vs,y= .agg vs∧qk E xs vs.toList c
 |E,.t xs,y,c=> ∃ vs,y= .tuple vs∧qk E xs vs.toList c
 |E,.m k,y,c=>c=c0∧ ∃ b,E.μ k=some (.mp b)∧y= .map (some b)
 |E,.w none es,y,c=> ∃ b ents clk,y= .map (some b)∧E.w.heap[b]? =some (.map ents clk)∧kj es ents clk∧c=qA b
 |E,.w (some τ) es,y,c=> ∃ b ents clk,y= .map (some b)∧E.w.heap[b]? =some (.map ents clk)∧kj es ents clk∧E.I τ b∧c=c0
 |_,.d,_,c=>c=c0
def qk:Env→List V→List Value→Cnt→Prop
 |_,[],ys,c=>ys=[]∧c=c0
 |E,x::xs,ys,c=> ∃ y ys' c1 c2,ys=y::ys'∧Rel E x y c1∧qk E xs ys' c2∧c=qh c1 c2
def qn:Env→Nat→List V→List Value→Cnt→Prop
 |_,_,[],ys,c=>ys=[]∧c=c0
 |E,e,x::xs,ys,c=> ∃ y ys' c1 c2,ys=y.cells.toList++ys'∧y.cells.size=e∧x.cells.length=e∧yy y.cells.toList∧Rel E x y c1∧qn E e xs ys' c2∧c=qh c1 c2
end
theorem Zf {E:Env} {e:Nat}: ∀ {xs:List V} {ys:List Value} {c:Cnt},qn E e xs ys c→ys.length=xs.length*e
 |[],ys,c,h=>by simp only [qn]at h;simp [h.1]
 |x::xs,ys,c,h=>by
  simp only [qn]at h
  obtain ⟨y,ys',c1,c2,rfl,hy,-,-,-,h2,-⟩:=h
  have:=Zf h2
  simp only [List.length_append,Array.length_toList,List.length_cons,this,hy,Nat.add_mul]
  omega
theorem xM {E:Env}: ∀ {xs:List V} {ys:List Value} {c:Cnt},qk E xs ys c→ys.length=xs.length
 |[],ys,c,h=>by simp only [qk]at h;simp [h.1]
 |x::xs,ys,c,h=>by
  simp only [qk]at h
  obtain ⟨y,ys',c1,c2,rfl,-,h2,-⟩:=h
  simp [xM h2]
structure Mono (E E':Env) (c:Cnt):Prop where
 hI: ∀ τ b,E.I τ b→E'.I τ b∧E'.w.heap[b]? =E.w.heap[b]?
 hc: ∀ b,c b ≠ 0→E'.w.heap[b]? =E.w.heap[b]?
 hμ: ∀ k l,E.μ k=some l→E'.μ k=some l
theorem Mono.le {E E':Env} {c c':Cnt} (h:Mono E E' c) (hl: ∀ b,c' b≤c b):Mono E E' c':=
 ⟨h.hI,fun b hb=>h.hc b (by have:=hl b;omega),h.hμ⟩
theorem Mono.cl {E E':Env} {c:Cnt} (h:Mono E E' c):Mono E.cl E'.cl c:=
 ⟨h.hI,h.hc,fun k l hk=>by simp [Env.cl]at hk⟩
theorem Mono.left {E E':Env} {c1 c2:Cnt} (h:Mono E E' (qh c1 c2)):Mono E E' c1:=h.le fun b=>Nat.le_add_right _ _
theorem Mono.right {E E':Env} {c1 c2:Cnt} (h:Mono E E' (qh c1 c2)):Mono E E' c2:=h.le fun b=>Nat.le_add_left _ _
mutual
theorem y7: ∀ {x:V} {E E':Env} {y:Value} {c:Cnt},Rel E x y c→Mono E E' c→Rel E' x y c
 | .v x,E,E',y,c,h,m=>by simpa only [Rel]using h
 | .p k idx off,E,E',y,c,h,m=>by
   simp only [Rel]at h ⊢
   obtain ⟨h0,b,base,e,lim,h1,h2⟩:=h
   exact ⟨h0,b,base,e,lim,m.hμ _ _ h1,h2⟩
 | .s k lo len,E,E',y,c,h,m=>by
   simp only [Rel]at h ⊢
   obtain ⟨h0,⟨A,h⟩|⟨b,base,e,lim,cap,A,h1,h2⟩⟩:=h
   ·exact ⟨h0,.inl ⟨A,m.hμ _ _ h.1,h.2⟩⟩
   ·exact ⟨h0,.inr ⟨b,base,e,lim,cap,A,m.hμ _ _ h1,h2⟩⟩
 | .q τ xs idx off,E,E',y,c,h,m=>by
   simp only [Rel]at h ⊢
   obtain ⟨h0,b,base,e,cells,T,fz,hI,hw,hy,hr⟩:=h
   have:=m.hI τ b hI
   exact ⟨h0,b,base,e,cells,T,fz,this.1,by rw [this.2,hw],hy,yN hr (m.cl.le fun _=>Nat.zero_le _)⟩
 | .i τ xs,E,E',y,c,h,m=>by
   simp only [Rel]at h ⊢
   obtain ⟨h0,A,cap,hy,hle,h⟩:=h
   refine ⟨h0,A,cap,hy,hle, ?_⟩
   rcases h with h|⟨b,base,e,cells,T,fz,hA,hI,hw,hr⟩
   ·exact .inl h
   ·have:=m.hI τ b hI
    exact .inr ⟨b,base,e,cells,T,fz,hA,this.1,by rw [this.2,hw],yN hr (m.cl.le fun _=>Nat.zero_le _)⟩
 | .o e xs,E,E',y,c,h,m=>by
   simp only [Rel]at h ⊢
   rcases h with h|⟨b,base,cap,cells,T,fz,c1,hy,hA,hle,hs,hw,hf,hr,rfl⟩
   ·exact .inl h
   ·have hb:E'.w.heap[b]? =E.w.heap[b]? :=m.hc b (by simp [qh,qA])
    exact .inr ⟨b,base,cap,cells,T,fz,c1,hy,hA,hle,hs,by rw [hb,hw],hf,yN hr m.right.cl,rfl⟩
 | .n e,E,E',y,c,h,m=>by simpa only [Rel]using h
 | .b x,E,E',y,c,h,m=>by
   simp only [Rel]at h ⊢
   obtain ⟨b,base,cells,T,fz,c1,z,hy,hle,hw,hf,hz,hl,ho,hr,rfl⟩:=h
   have hb:E'.w.heap[b]? =E.w.heap[b]? :=m.hc b (by simp [qh,qA])
   exact ⟨b,base,cells,T,fz,c1,z,hy,hle,by rw [hb,hw],hf,hz,hl,ho,y7 hr m.right.cl,rfl⟩
 | .f fn first caps,E,E',y,c,h,m=>by
   simp only [Rel]at h ⊢
   obtain ⟨fs,cs,c1,c2,hy,h1,h2,rfl⟩:=h
   exact ⟨fs,cs,c1,c2,hy,x9 h1 m.left,x9 h2 m.right,rfl⟩
 | .a xs,E,E',y,c,h,m=>by
   simp only [Rel]at h ⊢
   obtain ⟨vs,hy,h⟩:=h
   exact ⟨vs,hy,x9 h m⟩
 | .t xs,E,E',y,c,h,m=>by
   simp only [Rel]at h ⊢
   obtain ⟨vs,hy,h⟩:=h
   exact ⟨vs,hy,x9 h m⟩
 | .m k,E,E',y,c,h,m=>by
   simp only [Rel]at h ⊢
   obtain ⟨h0,b,h1,h2⟩:=h
   exact ⟨h0,b,m.hμ _ _ h1,h2⟩
 | .w none es,E,E',y,c,h,m=>by
   simp only [Rel]at h ⊢
   obtain ⟨b,ents,clk,h1,h2,h3,rfl⟩:=h
   exact ⟨b,ents,clk,h1,by rw [m.hc b (by simp [qA]),h2],h3,rfl⟩
 | .w (some τ) es,E,E',y,c,h,m=>by
   simp only [Rel]at h ⊢
   obtain ⟨b,ents,clk,h1,h2,h3,h4,h5⟩:=h
   have:=m.hI τ b h4
   exact ⟨b,ents,clk,h1,by rw [this.2,h2],h3,this.1,h5⟩
 | .d,E,E',y,c,h,m=>by simpa only [Rel]using h
theorem x9: ∀ {xs:List V} {E E':Env} {ys:List Value} {c:Cnt},qk E xs ys c→Mono E E' c→qk E' xs ys c
 |[],E,E',ys,c,h,m=>by simpa only [qk]using h
 |x::xs,E,E',ys,c,h,m=>by
  simp only [qk]at h ⊢
  obtain ⟨y,ys',c1,c2,hy,h1,h2,rfl⟩:=h
  exact ⟨y,ys',c1,c2,hy,y7 h1 m.left,x9 h2 m.right,rfl⟩
theorem yN: ∀ {xs:List V} {E E':Env} {e:Nat} {ys:List Value} {c:Cnt},qn E e xs ys c→Mono E E' c→qn E' e xs ys c
 |[],E,E',e,ys,c,h,m=>by simpa only [qn]using h
 |x::xs,E,E',e,ys,c,h,m=>by
  simp only [qn]at h ⊢
  obtain ⟨y,ys',c1,c2,hy,hs,hl,ho,h1,h2,rfl⟩:=h
  exact ⟨y,ys',c1,c2,hy,hs,hl,ho,y7 h1 m.left,yN h2 m.right,rfl⟩
end
end Go.Vm
namespace Go.Vm
theorem jR(E:Env) (c:Cnt):Mono E.cl E c:=⟨fun τ b h=>⟨h,rfl⟩,fun b _=>rfl,fun k l h=>by simp [Env.cl]at h⟩
theorem qxj(E:Env) (c:Cnt):Mono E E c:=⟨fun τ b h=>⟨h,rfl⟩,fun b _=>rfl,fun k l h=>h⟩
theorem jV {E:Env}: ∀ {xs xs':List V} {ys ys':List Value} {c c':Cnt},qk E xs ys c→qk E xs' ys' c'→qk E (xs++xs') (ys++ys') (qh c c')
 |[],xs',ys,ys',c,c',h,h'=>by
  simp only [qk]at h;obtain ⟨rfl,rfl⟩:=h;simpa [zo]using h'
 |x::xs,xs',ys,ys',c,c',h,h'=>by
  simp only [qk]at h
  obtain ⟨y,r,c1,c2,rfl,h1,h2,rfl⟩:=h
  simp only [List.cons_append,qk]
  exact ⟨y,r++ys',c1,qh c2 c',rfl,h1,jV h2 h',(xc _ _ _)⟩
theorem XX {E:Env}: ∀ {xs xs':List V} {zs:List Value} {c:Cnt},qk E (xs++xs') zs c→
 ∃ ys ys' c1 c2,zs=ys++ys'∧qk E xs ys c1∧qk E xs' ys' c2∧c=qh c1 c2
 |[],xs',zs,c,h=>⟨[],zs,c0,c,rfl,by simp [qk],h,(zo _).symm⟩
 |x::xs,xs',zs,c,h=>by
  simp only [List.cons_append,qk]at h
  obtain ⟨y,r,c1,c2,rfl,h1,h2,rfl⟩:=h
  obtain ⟨ys,ys',d1,d2,rfl,h3,h4,rfl⟩:=XX h2
  exact ⟨y::ys,ys',qh c1 d1,d2,rfl,by simp only [qk];exact ⟨y,ys,c1,d1,rfl,h1,h3,rfl⟩,h4,(xc _ _ _).symm⟩
theorem YL {E:Env} {e:Nat}: ∀ {xs xs':List V} {ys ys':List Value} {c c':Cnt},qn E e xs ys c→qn E e xs' ys' c'→qn E e (xs++xs') (ys++ys') (qh c c')
 |[],xs',ys,ys',c,c',h,h'=>by
  simp only [qn]at h;obtain ⟨rfl,rfl⟩:=h;simpa [zo]using h'
 |x::xs,xs',ys,ys',c,c',h,h'=>by
  simp only [qn]at h
  obtain ⟨y,r,c1,c2,rfl,hs,hl,ho,h1,h2,rfl⟩:=h
  simp only [List.cons_append,qn]
  exact ⟨y,r++ys',c1,qh c2 c',by simp,hs,hl,ho,h1,YL h2 h',(xc _ _ _)⟩
theorem qak {E:Env} {e:Nat}: ∀ {xs xs':List V} {zs:List Value} {c:Cnt},qn E e (xs++xs') zs c→
 ∃ ys ys' c1 c2,zs=ys++ys'∧qn E e xs ys c1∧qn E e xs' ys' c2∧c=qh c1 c2
 |[],xs',zs,c,h=>⟨[],zs,c0,c,rfl,by simp [qn],h,(zo _).symm⟩
 |x::xs,xs',zs,c,h=>by
  simp only [List.cons_append,qn]at h
  obtain ⟨y,r,c1,c2,rfl,hs,hl,ho,h1,h2,rfl⟩:=h
  obtain ⟨ys,ys',d1,d2,rfl,h3,h4,rfl⟩:=qak h2
  exact ⟨y.cells.toList++ys,ys',qh c1 d1,d2,by simp,by simp only [qn];exact ⟨y,ys,c1,d1,rfl,hs,hl,ho,h1,h3,rfl⟩,h4,(xc _ _ _).symm⟩
theorem yU {E:Env} {x:V} {y:Value} {c:Cnt} (h:Rel E x y c):qk E [x] [y] c:=by
 simp only [qk];exact ⟨y,[],c,c0,rfl,h,⟨rfl,rfl⟩,rfl⟩
theorem qaj {E:Env} {e:Nat} {x:V} {y:Value} {c:Cnt} (hs:y.cells.size=e) (hl:x.cells.length=e) (ho:yy y.cells.toList) (h:Rel E x y c):
 qn E e [x] y.cells.toList c:=by
 simp only [qn];exact ⟨y,[],c,c0,by simp,hs,hl,ho,h,⟨rfl,rfl⟩,rfl⟩
theorem qc8 {E:Env} {e:Nat} {x:V} {ys:List Value} {c:Cnt} (h:qn E e [x] ys c):
 ∃ y,ys=y.cells.toList∧y.cells.size=e∧x.cells.length=e∧yy y.cells.toList∧Rel E x y c:=by
 simp only [qn]at h
 obtain ⟨y,r,c1,c2,rfl,hs,hl,ho,h1,⟨rfl,rfl⟩,rfl⟩:=h
 exact ⟨y,by simp,hs,hl,ho,h1⟩
theorem qc6 {E:Env} {x:V} {ys:List Value} {c:Cnt} (h:qk E [x] ys c): ∃ y,ys=[y]∧Rel E x y c:=by
 simp only [qk]at h
 obtain ⟨y,r,c1,c2,rfl,h1,⟨rfl,rfl⟩,rfl⟩:=h
 exact ⟨y,rfl,h1⟩
theorem qgD {α:Type}: ∀ {xs:List α} {i:Nat} {x:α},xs[i]? =some x→xs=xs.take i++[x]++xs.drop (i+1)
 |[],i,x,h=>by simp at h
 |a::xs,0,x,h=>by simp at h;simp [h]
 |a::xs,i+1,x,h=>by
  have:=qgD (xs:=xs) (i:=i) (x:=x) (by simpa using h)
  simp only [List.take_succ_cons,List.drop_succ_cons,List.cons_append]
  rw [← this]
theorem qjP {α:Type} {xs:List α} {i:Nat} {x x':α} (h:xs[i]? =some x):xs.set i x'=xs.take i++[x']++xs.drop (i+1):=by
 have hl:i < xs.length:=(List.getElem?_eq_some_iff.1 h).1
 rw [List.set_eq_take_append_cons_drop,if_pos hl]
 simp
theorem qge {E:Env} {xs:List V} {ys:List Value} {c:Cnt} {i:Nat} {x:V} (h:qk E xs ys c) (hx:xs[i]? =some x):
 ∃ y c1 c2,ys[i]? =some y∧Rel E x y c1∧c=qh c1 c2∧ ∀ x' y' c1',Rel E x' y' c1'→qk E (xs.set i x') (ys.set i y') (qh c1' c2):=by
 have hsp:=qgD hx
 rw [hsp]at h
 obtain ⟨a,b,d1,d2,rfl,h1,h2,rfl⟩:=XX h
 obtain ⟨a',b',d3,d4,rfl,h3,h4,rfl⟩:=XX h1
 obtain ⟨y,rfl,h5⟩:=qc6 h4
 have hla:=xM h3
 have hi:i < xs.length:=(List.getElem?_eq_some_iff.1 hx).1
 rw [List.length_take,Nat.min_eq_left (Nat.le_of_lt hi)]at hla
 refine ⟨y,d4,qh d3 d2,by rw [List.append_assoc,List.getElem?_append_right (by omega)];simp [hla],h5, ?_, ?_⟩
 ·rw [← xc,QZ d4 d3]
 ·intro x' y' c1' h'
  have e1:(a'++[y]++b).set i y'=a'++[y']++b:=by
   rw [List.append_assoc,List.set_append_right _ _ (by omega)];simp [hla]
  rw [e1,qjP hx]
  have:=jV (jV h3 (yU h')) h2
  rwa [QZ d3 c1',xc]at this
theorem qAo {E:Env} {e:Nat} {xs:List V} {ys:List Value} {c:Cnt} {i:Nat} {x:V} (h:qn E e xs ys c) (hx:xs[i]? =some x):
 ∃ y c1 c2,(ys.drop (i*e)).take e=y.cells.toList∧y.cells.size=e∧x.cells.length=e∧yy y.cells.toList∧Rel E x y c1∧c=qh c1 c2∧
  ∀ x' y' c1',y'.cells.size=e→x'.cells.length=e→yy y'.cells.toList→Rel E x' y' c1'→
   qn E e (xs.set i x') (ys.take (i*e)++y'.cells.toList++ys.drop (i*e+e)) (qh c1' c2):=by
 have hsp:=qgD hx
 rw [hsp]at h
 obtain ⟨a,b,d1,d2,rfl,h1,h2,rfl⟩:=qak h
 obtain ⟨a',b',d3,d4,rfl,h3,h4,rfl⟩:=qak h1
 obtain ⟨y,rfl,hs,hl,ho,h5⟩:=qc8 h4
 have hla:=Zf h3
 have hi:i < xs.length:=(List.getElem?_eq_some_iff.1 hx).1
 rw [List.length_take,Nat.min_eq_left (Nat.le_of_lt hi)]at hla
 have hy:y.cells.toList.length=e:=by simpa using hs
 refine ⟨y,d4,qh d3 d2, ?_,hs,hl,ho,h5, ?_, ?_⟩
 ·rw [List.append_assoc, ← hla,List.drop_left, ← hy,List.take_left]
 ·rw [← xc,QZ d4 d3]
 ·intro x' y' c1' hs' hl' ho' h'
  have e1:(a'++y.cells.toList++b).take (i*e)=a':=by rw [List.append_assoc, ← hla,List.take_left]
  have e2:(a'++y.cells.toList++b).drop (i*e+e)=b:=by
   rw [show i*e+e=(a'++y.cells.toList).length by simp only [List.length_append,hla,hy],List.drop_left]
  rw [e1,e2,qjP hx]
  have:=YL (YL h3 (qaj hs' hl' ho' h')) h2
  rwa [QZ d3 c1',xc]at this
theorem ja {E:Env} {e:Nat} {xs:List V} {ys:List Value} {c:Cnt} (n:Nat) (h:qn E e xs ys c):
 ∃ c1 c2,qn E e (xs.take n) (ys.take (n*e)) c1∧qn E e (xs.drop n) (ys.drop (n*e)) c2∧c=qh c1 c2:=by
 by_cases hn:n≤xs.length
 ·rw [← List.take_append_drop n xs]at h
  obtain ⟨a,b,d1,d2,rfl,h1,h2,rfl⟩:=qak h
  have hla:=Zf h1
  rw [List.length_take,Nat.min_eq_left hn]at hla
  exact ⟨d1,d2,by rw [← hla,List.take_left];exact h1,by rw [← hla,List.drop_left];exact h2,rfl⟩
 ·have hn':xs.length≤n:=by omega
  have hla:=Zf h
  have hm:ys.length≤n*e:=by rw [hla];exact Nat.mul_le_mul_right _ hn'
  rw [List.take_of_length_le hn',List.drop_eq_nil_of_le hn',List.take_of_length_le hm,List.drop_eq_nil_of_le hm]
  exact ⟨c,c0,h,by simp [qn],rfl⟩
theorem qh7 {y:Value} (h:yP y=false):y.cells= #[y]:=by cases y<;>simp_all [yP,Value.cells]
theorem qal {E:Env}: ∀ {x:V} {y:Value} {c:Cnt},Rel E x y c→x.cells.length=y.cells.size→qk E x.cells y.cells.toList c
 | .a cs,y,c,h,hl=>by simp only [Rel]at h;obtain ⟨vs,rfl,h⟩:=h;exact h
 | .v x,y,c,h,hl=>by
   have h':=h;simp only [Rel]at h;obtain ⟨rfl,h1,-⟩:=h
   rw [qh7 h1];exact yU h'
 | .p ..,y,c,h,hl=>by have h':=h;simp only [Rel]at h;obtain ⟨-,b,base,e,lim,-,rfl⟩:=h;exact yU h'
 | .s ..,y,c,h,hl=>by
   have h':=h;simp only [Rel]at h
   obtain ⟨-,⟨A,-,-,-,rfl⟩|⟨b,base,e,lim,cap,A,-,-,-,-,-,rfl⟩⟩:=h<;>exact yU h'
 | .q ..,y,c,h,hl=>by have h':=h;simp only [Rel]at h;obtain ⟨-,b,base,e,cells,T,fz,-,-,rfl,-⟩:=h;exact yU h'
 | .i ..,y,c,h,hl=>by have h':=h;simp only [Rel]at h;obtain ⟨-,A,cap,rfl,-⟩:=h;exact yU h'
 | .o ..,y,c,h,hl=>by
   have h':=h;simp only [Rel]at h
   rcases h with ⟨-,⟨A,rfl⟩,-⟩|⟨b,base,cap,cells,T,fz,c1,rfl,-⟩<;>exact yU h'
 | .n ..,y,c,h,hl=>by have h':=h;simp only [Rel]at h;obtain ⟨rfl,-⟩:=h;exact yU h'
 | .b ..,y,c,h,hl=>by have h':=h;simp only [Rel]at h;obtain ⟨b,base,cells,T,fz,c1,z,rfl,-⟩:=h;exact yU h'
 | .f ..,y,c,h,hl=>by have h':=h;simp only [Rel]at h;obtain ⟨fs,cs,c1,c2,rfl,-⟩:=h;exact yU h'
 | .t ..,y,c,h,hl=>by have h':=h;simp only [Rel]at h;obtain ⟨vs,rfl,-⟩:=h;exact yU h'
 | .m ..,y,c,h,hl=>by have h':=h;simp only [Rel]at h;obtain ⟨-,b,-,rfl⟩:=h;exact yU h'
 | .w none _,y,c,h,hl=>by have h':=h;simp only [Rel]at h;obtain ⟨b,ents,clk,rfl,-⟩:=h;exact yU h'
 | .w (some _) _,y,c,h,hl=>by have h':=h;simp only [Rel]at h;obtain ⟨b,ents,clk,rfl,-⟩:=h;exact yU h'
 | .d,y,c,h,hl=>by
   simp only [Rel]at h;subst h
   simp only [V.cells,List.length_singleton]at hl ⊢
   match hy:y.cells.toList with
   |[]=>simp [hy, ← Array.length_toList]at hl
   |[z]=>exact yU (by simp [Rel])
   |_::_::_=>simp [hy, ← Array.length_toList]at hl
theorem qjB {E:Env}: ∀ {x:V} {y:Value} {c:Cnt},Rel E x y c→x ≠ .d→x.cells.length=y.cells.size
 | .a cs,y,c,h,_=>by simp only [Rel]at h;obtain ⟨vs,rfl,h⟩:=h;have:=xM h;simpa [V.cells,Value.cells]using this.symm
 | .v x,y,c,h,_=>by simp only [Rel]at h;obtain ⟨rfl,h1,-⟩:=h;rw [qh7 h1];rfl
 | .p ..,y,c,h,_=>by simp only [Rel]at h;obtain ⟨-,b,base,e,lim,-,rfl⟩:=h;rfl
 | .s ..,y,c,h,_=>by simp only [Rel]at h;obtain ⟨-,⟨A,-,-,-,rfl⟩|⟨b,base,e,lim,cap,A,-,-,-,-,-,rfl⟩⟩:=h<;>rfl
 | .q ..,y,c,h,_=>by simp only [Rel]at h;obtain ⟨-,b,base,e,cells,T,fz,-,-,rfl,-⟩:=h;rfl
 | .i ..,y,c,h,_=>by simp only [Rel]at h;obtain ⟨-,A,cap,rfl,-⟩:=h;rfl
 | .o ..,y,c,h,_=>by simp only [Rel]at h;rcases h with ⟨-,⟨A,rfl⟩,-⟩|⟨b,base,cap,cells,T,fz,c1,rfl,-⟩<;>rfl
 | .n ..,y,c,h,_=>by simp only [Rel]at h;obtain ⟨rfl,-⟩:=h;rfl
 | .b ..,y,c,h,_=>by simp only [Rel]at h;obtain ⟨b,base,cells,T,fz,c1,z,rfl,-⟩:=h;rfl
 | .f ..,y,c,h,_=>by simp only [Rel]at h;obtain ⟨fs,cs,c1,c2,rfl,-⟩:=h;rfl
 | .t ..,y,c,h,_=>by simp only [Rel]at h;obtain ⟨vs,rfl,-⟩:=h;rfl
 | .m ..,y,c,h,_=>by simp only [Rel]at h;obtain ⟨-,b,-,rfl⟩:=h;rfl
 | .w none _,y,c,h,_=>by simp only [Rel]at h;obtain ⟨b,ents,clk,rfl,-⟩:=h;rfl
 | .w (some _) _,y,c,h,_=>by simp only [Rel]at h;obtain ⟨b,ents,clk,rfl,-⟩:=h;rfl
 | .d,y,c,h,hd=>absurd rfl hd
theorem qAq {E:Env}: ∀ {x:V} {y:Value} {c:Cnt},Rel E x y c→x.one=true→y.oneCell=true
 | .a cs,y,c,h,ho=>by simp [V.one]at ho
 | .v x,y,c,h,ho=>by simp only [Rel]at h;obtain ⟨rfl,h1,-⟩:=h;exact ho
 | .p ..,y,c,h,_=>by simp only [Rel]at h;obtain ⟨-,b,base,e,lim,-,rfl⟩:=h;rfl
 | .s ..,y,c,h,_=>by simp only [Rel]at h;obtain ⟨-,⟨A,-,-,-,rfl⟩|⟨b,base,e,lim,cap,A,-,-,-,-,-,rfl⟩⟩:=h<;>rfl
 | .q ..,y,c,h,_=>by simp only [Rel]at h;obtain ⟨-,b,base,e,cells,T,fz,-,-,rfl,-⟩:=h;rfl
 | .i ..,y,c,h,_=>by simp only [Rel]at h;obtain ⟨-,A,cap,rfl,-⟩:=h;rfl
 | .o ..,y,c,h,_=>by simp only [Rel]at h;rcases h with ⟨-,⟨A,rfl⟩,-⟩|⟨b,base,cap,cells,T,fz,c1,rfl,-⟩<;>rfl
 | .n ..,y,c,h,_=>by simp only [Rel]at h;obtain ⟨rfl,-⟩:=h;rfl
 | .b ..,y,c,h,_=>by simp only [Rel]at h;obtain ⟨b,base,cells,T,fz,c1,z,rfl,-⟩:=h;rfl
 | .f ..,y,c,h,_=>by simp only [Rel]at h;obtain ⟨fs,cs,c1,c2,rfl,-⟩:=h;rfl
 | .t ..,y,c,h,ho=>by simp [V.one]at ho
 | .m ..,y,c,h,_=>by simp only [Rel]at h;obtain ⟨-,b,-,rfl⟩:=h;rfl
 | .w none _,y,c,h,_=>by simp only [Rel]at h;obtain ⟨b,ents,clk,rfl,-⟩:=h;rfl
 | .w (some _) _,y,c,h,_=>by simp only [Rel]at h;obtain ⟨b,ents,clk,rfl,-⟩:=h;rfl
 | .d,y,c,h,ho=>by simp [V.one]at ho
theorem qoH {E:Env}: ∀ {xs:List V} {ys:List Value} {c:Cnt},qk E xs ys c→yT xs=true→yy ys
 |[],ys,c,h,_=>by simp only [qk]at h;simp [h.1,yy]
 |x::xs,ys,c,h,ho=>by
  simp only [qk]at h
  obtain ⟨y,r,c1,c2,rfl,h1,h2,-⟩:=h
  simp only [yT,Bool.and_eq_true]at ho
  intro z hz
  rcases List.mem_cons.1 hz with rfl|hz
  ·exact qAq h1 ho.1
  ·exact qoH h2 ho.2 z hz
theorem qgn {E:Env} {x:V} {y:Value} {c:Cnt} (h:Rel E x y c) (ho:yT x.cells=true):x.cells.length=y.cells.size∧yy y.cells.toList:=by
 have hd:x ≠ .d:=by rintro rfl;simp [V.cells,yT,V.one]at ho
 have hs:=qjB h hd
 exact ⟨hs,qoH (qal h hs) ho⟩
theorem qc9 {E:Env} {cs:List V} {ys:List Value} {c:Cnt} (h:qk E cs ys c):Rel E (.a cs) (.agg ys.toArray) c:=by
 simp only [Rel];exact ⟨_,rfl,by simpa using h⟩
mutual
theorem YM: ∀ {x:V} {E:Env} {y:Value} {c:Cnt},Rel E x y c→clB x=true→Rel E.cl x y c
 | .v x,E,y,c,h,_=>by simpa only [Rel]using h
 | .q ..,E,y,c,h,_=>by simp only [Rel]at h ⊢;exact h
 | .i ..,E,y,c,h,_=>by simp only [Rel]at h ⊢;exact h
 | .o ..,E,y,c,h,_=>by simp only [Rel]at h ⊢;exact h
 | .b ..,E,y,c,h,_=>by simp only [Rel]at h ⊢;exact h
 | .f fn first caps,E,y,c,h,hc=>by
   simp only [clB,Bool.and_eq_true]at hc
   simp only [Rel]at h ⊢
   obtain ⟨fs,cs,c1,c2,hy,h1,h2,rfl⟩:=h
   exact ⟨fs,cs,c1,c2,hy,qgf h1 hc.1,qgf h2 hc.2,rfl⟩
 | .p ..,E,y,c,h,hc=>by simp [clB]at hc
 | .s ..,E,y,c,h,hc=>by simp [clB]at hc
 | .n ..,E,y,c,h,hc=>by simpa only [Rel]using h
 | .a ..,E,y,c,h,hc=>by simp [clB]at hc
 | .t ..,E,y,c,h,hc=>by simp [clB]at hc
 | .m ..,E,y,c,h,hc=>by simp [clB]at hc
 | .w none _,E,y,c,h,hc=>by simp only [Rel]at h ⊢;exact h
 | .w (some _) _,E,y,c,h,hc=>by simp only [Rel]at h ⊢;exact h
 | .d,E,y,c,h,hc=>by simp [clB]at hc
theorem qgf: ∀ {xs:List V} {E:Env} {ys:List Value} {c:Cnt},qk E xs ys c→xX xs=true→qk E.cl xs ys c
 |[],E,ys,c,h,_=>by simpa only [qk]using h
 |x::xs,E,ys,c,h,hc=>by
  simp only [xX,Bool.and_eq_true]at hc
  simp only [qk]at h ⊢
  obtain ⟨y,r,c1,c2,hy,h1,h2,rfl⟩:=h
  exact ⟨y,r,c1,c2,hy,YM h1 hc.1,qgf h2 hc.2,rfl⟩
end
theorem qjA {x:V} {E:Env} {y:Value} {c:Cnt} (h:Rel E x y c) (hc:clE x=true):Rel E.cl x y c:=by
 cases x<;>first|exact YM h hc|skip
 simp only [clE]at hc
 simp only [Rel]at h ⊢
 obtain ⟨vs,hy,h⟩:=h
 exact ⟨vs,hy,qgf h hc⟩
theorem qgg: ∀ {xs:List V} {E:Env} {e:Nat} {ys:List Value} {c:Cnt},qn E e xs ys c→qC xs=true→qn E.cl e xs ys c
 |[],E,e,ys,c,h,_=>by simpa only [qn]using h
 |x::xs,E,e,ys,c,h,hc=>by
  simp only [qC,Bool.and_eq_true]at hc
  simp only [qn]at h ⊢
  obtain ⟨y,r,c1,c2,hy,hs,hl,ho,h1,h2,rfl⟩:=h
  exact ⟨y,r,c1,c2,hy,hs,hl,ho,qjA h1 hc.1,qgg h2 hc.2,rfl⟩
structure Renamed (d:Nat) (E E':Env):Prop where
 hw:E'.w=E.w
 hI:E'.I=E.I
 hμ: ∀ k:Key,k.1 ≠ d→E'.μ k=E.μ k
theorem Renamed.cl {d:Nat} {E E':Env} (h:Renamed d E E'):E'.cl=E.cl:=by
 obtain ⟨w,I,μ⟩:=E;obtain ⟨w',I',μ'⟩:=E'
 have:=h.hw;have:=h.hI
 simp_all [Env.cl]
mutual
theorem qgm {d:Nat}: ∀ {x:V} {E E':Env} {y:Value} {c:Cnt},Rel E x y c→Renamed d E E'→Rel E' (qN d x) y c
 | .v x,E,E',y,c,h,r=>by simpa only [Rel,qN]using h
 | .p k idx off,E,E',y,c,h,r=>by
   simp only [qN];split
   ·simp only [Rel]at h ⊢;exact h.1
   ·rename_i hk;simp only [Rel]at h ⊢;rw [r.hμ k hk];exact h
 | .s k lo len,E,E',y,c,h,r=>by
   simp only [qN];split
   ·simp only [Rel]at h ⊢;exact h.1
   ·rename_i hk;simp only [Rel]at h ⊢;rw [r.hμ k hk];exact h
 | .q ..,E,E',y,c,h,r=>by simp only [Rel,qN]at h ⊢;rw [r.hI,r.hw,r.cl];exact h
 | .i ..,E,E',y,c,h,r=>by simp only [Rel,qN]at h ⊢;rw [r.hI,r.hw,r.cl];exact h
 | .o ..,E,E',y,c,h,r=>by simp only [Rel,qN]at h ⊢;rw [r.hw,r.cl];exact h
 | .n ..,E,E',y,c,h,r=>by simpa only [Rel,qN]using h
 | .b ..,E,E',y,c,h,r=>by simp only [Rel,qN]at h ⊢;rw [r.hw,r.cl];exact h
 | .f fn first caps,E,E',y,c,h,r=>by
   simp only [Rel,qN]at h ⊢
   obtain ⟨fs,cs,c1,c2,hy,h1,h2,rfl⟩:=h
   exact ⟨fs,cs,c1,c2,hy,qc5 h1 r,qc5 h2 r,rfl⟩
 | .a cs,E,E',y,c,h,r=>by
   simp only [Rel,qN]at h ⊢
   obtain ⟨vs,hy,h⟩:=h
   exact ⟨vs,hy,qc5 h r⟩
 | .t cs,E,E',y,c,h,r=>by
   simp only [Rel,qN]at h ⊢
   obtain ⟨vs,hy,h⟩:=h
   exact ⟨vs,hy,qc5 h r⟩
 | .m k,E,E',y,c,h,r=>by
   simp only [qN];split
   ·simp only [Rel]at h ⊢;exact h.1
   ·rename_i hk;simp only [Rel]at h ⊢;rw [r.hμ k hk];exact h
 | .w none _,E,E',y,c,h,r=>by simp only [Rel,qN]at h ⊢;rw [r.hw];exact h
 | .w (some _) _,E,E',y,c,h,r=>by simp only [Rel,qN]at h ⊢;rw [r.hw,r.hI];exact h
 | .d,E,E',y,c,h,r=>by simpa only [Rel,qN]using h
theorem qc5 {d:Nat}: ∀ {xs:List V} {E E':Env} {ys:List Value} {c:Cnt},qk E xs ys c→Renamed d E E'→qk E' (qB d xs) ys c
 |[],E,E',ys,c,h,r=>by simpa only [qk,qB]using h
 |x::xs,E,E',ys,c,h,r=>by
  simp only [qk,qB]at h ⊢
  obtain ⟨y,t,c1,c2,hy,h1,h2,rfl⟩:=h
  exact ⟨y,t,c1,c2,hy,qgm h1 r,qc5 h2 r,rfl⟩
end
theorem Q6(d:Nat): ∀ xs:List V,(qB d xs).length=xs.length
 |[]=>rfl
 |x::xs=>by simp [qB,Q6 d xs]
theorem qmX(d:Nat) (x:V):(qN d x).cells.length=x.cells.length:=by
 cases x<;>simp only [qN]
 case p=>split<;>rfl
 case s=>split<;>rfl
 case m=>split<;>rfl
 case a=>simp [V.cells,Q6]
 all_goals rfl
theorem qjx {d:Nat}: ∀ {xs:List V} {E E':Env} {e:Nat} {ys:List Value} {c:Cnt},qn E e xs ys c→Renamed d E E'→qn E' e (qB d xs) ys c
 |[],E,E',e,ys,c,h,r=>by simpa only [qn,qB]using h
 |x::xs,E,E',e,ys,c,h,r=>by
  simp only [qn,qB]at h ⊢
  obtain ⟨y,t,c1,c2,hy,hs,hl,ho,h1,h2,rfl⟩:=h
  exact ⟨y,t,c1,c2,hy,hs,by rw [qmX];exact hl,ho,qgm h1 r,qjx h2 r,rfl⟩
end Go.Vm
namespace Go.Vm
def xQ(E:Env) (k:Key) (ob:Ob) (c:Cnt):Prop:=
 (∃ b ents clk es,E.μ k=some (.mp b)∧E.w.heap[b]? =some (.map ents clk)∧kj es ents clk∧ob.2=[.w (some true) es]∧c=qA b)∨
 ((∃ A,E.μ k=some (.emp A))∧ob.2=[]∧c=c0)∨
 ∃ b base lim cells T fz c1,E.μ k=some (.at b base ob.1 lim)∧E.w.heap[b]? =some (.cells cells T fz)∧cells.size=lim∧Q9 fz cells.size∧
  base+ob.2.length*ob.1≤lim∧qn E ob.1 ob.2 (seg cells base (ob.2.length*ob.1)) c1∧c=qh (qA b) c1
def qq(E:Env):Mem→Cnt→Prop
 |[],c=>c=c0
 |(k,ob)::r,c=> ∃ c1 c2,xQ E k ob c1∧qq E r c2∧c=qh c1 c2
def cle(c c':Cnt):Prop:= ∀ b,c b≤c' b
theorem za(c:Cnt):cle c c:=fun _=>Nat.le_refl _
theorem yZ {a b c:Cnt} (h:cle a b) (h':cle b c):cle a c:=fun n=>Nat.le_trans (h n) (h' n)
theorem kN {a b c d:Cnt} (h:cle a c) (h':cle b d):cle (qh a b) (qh c d):=fun n=>Nat.add_le_add (h n) (h' n)
theorem YC(a b:Cnt):cle a (qh a b):=fun n=>Nat.le_add_right _ _
theorem xJ(a b:Cnt):cle b (qh a b):=fun n=>Nat.le_add_left _ _
theorem qxy {E E':Env} {k:Key} {ob:Ob} {c:Cnt} (h:xQ E k ob c) (m:Mono E E' c):xQ E' k ob c:=by
 rcases h with ⟨b,ents,clk,es,h1,h2,h3,h4,rfl⟩|⟨⟨A,h1⟩,h2,h3⟩|⟨b,base,lim,cells,T,fz,c1,hμ,hw,hl,hf,hs,hr,rfl⟩
 ·exact .inl ⟨b,ents,clk,es,m.hμ _ _ h1,by rw [m.hc b (by simp [qA]),h2],h3,h4,rfl⟩
 ·exact .inr (.inl ⟨⟨A,m.hμ _ _ h1⟩,h2,h3⟩)
 ·have hb:E'.w.heap[b]? =E.w.heap[b]? :=m.hc b (by simp [qh,qA])
  exact .inr (.inr ⟨b,base,lim,cells,T,fz,c1,m.hμ _ _ hμ,by rw [hb,hw],hl,hf,hs,yN hr m.right,rfl⟩)
theorem yo {E E':Env}: ∀ {T:Mem} {c:Cnt},qq E T c→Mono E E' c→qq E' T c
 |[],c,h,m=>h
 |(k,ob)::r,c,h,m=>by
  obtain ⟨c1,c2,h1,h2,rfl⟩:=h
  exact ⟨c1,c2,qxy h1 m.left,yo h2 m.right,rfl⟩
theorem ke {E:Env}: ∀ {T T':Mem} {c c':Cnt},qq E T c→qq E T' c'→qq E (T++T') (qh c c')
 |[],T',c,c',h,h'=>by simp only [qq]at h;subst h;simpa [zo]using h'
 |(k,ob)::r,T',c,c',h,h'=>by
  obtain ⟨c1,c2,h1,h2,rfl⟩:=h
  exact ⟨c1,qh c2 c',h1,ke h2 h',xc _ _ _⟩
theorem yH {E:Env}: ∀ {T:Mem} {c:Cnt} {k:Key} {ob:Ob},qq E T c→qt T k=some ob→
 ∃ c1 c2,xQ E k ob c1∧qq E (qE T k) c2∧c=qh c1 c2
 |[],c,k,ob,h,hg=>by simp [qt]at hg
 |(u,x)::r,c,k,ob,h,hg=>by
  obtain ⟨c1,c2,h1,h2,rfl⟩:=h
  simp only [qt]at hg
  simp only [qE]
  split at hg
  ·rename_i hu;subst hu;simp only [Option.some.injEq]at hg;subst hg
   rw [if_pos rfl];exact ⟨c1,c2,h1,h2,rfl⟩
  ·rename_i hu
   rw [if_neg hu]
   obtain ⟨d1,d2,h3,h4,rfl⟩:=yH h2 hg
   exact ⟨d1,qh c1 d2,h3,⟨c1,d2,h1,h4,rfl⟩,by rw [← xc,QZ c1 d1,xc]⟩
theorem qpO {E:Env} (d:Nat): ∀ {T:Mem} {c:Cnt},qq E T c→ ∃ c',qq E (Q4 d T) c'∧cle c' c
 |[],c,h=>⟨c,h,za _⟩
 |(u,x)::r,c,h=>by
  obtain ⟨c1,c2,h1,h2,rfl⟩:=h
  simp only [Q4]
  obtain ⟨c',h3,h4⟩:=qpO d h2
  split
  ·exact ⟨c',h3,yZ h4 (xJ _ _)⟩
  ·exact ⟨qh c1 c',⟨c1,c',h1,h3,rfl⟩,kN (za _) h4⟩
theorem qcD(d:Nat): ∀ {T:Mem} {k:Key} {ob:Ob},(k,ob) ∈ Q4 d T→k.1 ≠ d
 |[],k,ob,h=>by simp [Q4]at h
 |(u,x)::r,k,ob,h=>by
  simp only [Q4]at h
  split at h
  ·exact qcD d h
  ·rename_i hu
   rcases List.mem_cons.1 h with h|h
   ·cases h;exact hu
   ·exact qcD d h
theorem qxx {d:Nat} {E E':Env} {k:Key} {e:Nat} {xs:List V} {c:Cnt} (h:xQ E k (e,xs) c) (r:Renamed d E E') (hk:k.1 ≠ d):xQ E' k (e,qB d xs) c:=by
 rcases h with ⟨b,ents,clk,es,h1,h2,h3,h4,rfl⟩|⟨⟨A,h1⟩,h2,h3⟩|⟨b,base,lim,cells,T,fz,c1,hμ,hw,hl,hf,hs,hr,rfl⟩
 ·refine .inl ⟨b,ents,clk,es,by rw [r.hμ k hk];exact h1,by rw [r.hw];exact h2,h3, ?_,rfl⟩
  simp only at h4;subst h4;rfl
 ·refine .inr (.inl ⟨⟨A,by rw [r.hμ k hk];exact h1⟩, ?_,h3⟩)
  simp only at h2;subst h2;rfl
 ·refine .inr (.inr ⟨b,base,lim,cells,T,fz,c1,by rw [r.hμ k hk];exact hμ,by rw [r.hw];exact hw,hl,hf, ?_, ?_,rfl⟩)
  ·simpa only [Q6]using hs
  ·simpa only [Q6]using qjx hr r
theorem qpP {d:Nat} {E E':Env}: ∀ {T:Mem} {c:Cnt},qq E T c→Renamed d E E'→(∀ k ob,(k,ob) ∈ T→k.1 ≠ d)→qq E' (Q7 d T) c
 |[],c,h,r,hk=>h
 |(k,e,xs)::t,c,h,r,hk=>by
  obtain ⟨c1,c2,h1,h2,rfl⟩:=h
  exact ⟨c1,c2,qxx h1 r (hk k _ (List.mem_cons_self)),qpP h2 r (fun k ob h=>hk k ob (List.mem_cons_of_mem _ h)),rfl⟩
theorem qpp {cells:Array Value} {base n m:Nat}:(seg cells base n).take m=seg cells base (min m n):=by
 simp [seg,List.take_take]
theorem qoR {E:Env} {k:Key} {ob:Ob} {c1:Cnt} (ho:xQ E k ob c1) (hc:qC ob.2=true) {x x':V} {y:Value} {c:Cnt}
 (h:Rel E x y c) (hr:yV k ob x=some x'):Rel E x' y (qh c c1)∧x'.cells.length=x.cells.length:=by
 cases x with
 |s k' lo len=>
  simp only [yV]at hr
  split at hr
  ·rename_i hk
   obtain ⟨rfl,rfl,rfl⟩:=hk
   simp only [Option.some.injEq]at hr;subst hr
   refine ⟨?_,rfl⟩
   simp only [Rel]at h ⊢
   obtain ⟨rfl,h⟩:=h
   rw [zo]
   rcases ho with ⟨b,ents,clk,es,h1,-⟩|⟨⟨A0,h1⟩,h2,h3⟩|⟨b,base,lim,cells,T,fz,c2,hμ,hw,hl,hf,hs,hrr,rfl⟩
   ·rcases h with ⟨A,hμ',-⟩|⟨b,base,e,lim,cap,A,hμ',-⟩<;>(rw [h1]at hμ';cases hμ')
   ·rcases h with ⟨A,-,-,-,rfl⟩|⟨b,base,e,lim,cap,A,hμ',-⟩
    ·exact .inl ⟨h2,⟨A,rfl⟩,h3⟩
    ·rw [h1]at hμ';cases hμ'
   ·rcases h with ⟨A,h1,-⟩|⟨b',base',e,kV,cap,A,hμ',hle,hroom,hpos,hA,rfl⟩
    ·rw [h1]at hμ;cases hμ
    ·rw [hμ]at hμ';cases hμ'
     have hp:=hpos trivial
     rcases hA with hA|hA
     ·omega
     ·exact .inr ⟨b,base,cap,cells,T,fz,c2,by rw [hA];simp,hp,hle,by rw [hl];simpa using hroom,hw,hf,qgg hrr hc,rfl⟩
  ·cases hr
 |p k' idx off=>
  simp only [yV]at hr
  split at hr
  ·rename_i hk
   obtain ⟨rfl,rfl,rfl⟩:=hk
   split at hr
   ·rename_i z hz
    simp only [Option.some.injEq]at hr;subst hr
    refine ⟨?_,rfl⟩
    simp only [Rel]at h ⊢
    obtain ⟨rfl,b',base',e',kV,hμ',rfl⟩:=h
    rw [zo]
    rcases ho with ⟨b,ents,clk,es,h1,-⟩|⟨⟨A0,h1⟩,h2,h3⟩|⟨b,base,lim,cells,T,fz,c2,hμ,hw,hl,hf,hs,hrr,rfl⟩
    ·rw [h1]at hμ';cases hμ'
    ·rw [hz]at h2;cases h2
    ·rw [hμ]at hμ';cases hμ'
     rw [hz]at hrr hs hc
     simp only [List.length_singleton,Nat.one_mul]at hrr hs
     obtain ⟨u,hu,hsz,hlx,hon,hR⟩:=qc8 hrr
     simp only [qC,Bool.and_true]at hc
     exact ⟨b',base',cells,T,fz,c2,u,by simp,by rw [hsz,hl];exact hs,hw,hf,by rw [hsz];exact hu.symm,by rw [hlx,hsz],hon,qjA hR hc,rfl⟩
   ·cases hr
  ·cases hr
 |_=>simp [yV]at hr
theorem qoI {E:Env} {k:Key} {ob:Ob} {c1:Cnt} (ho:xQ E k ob c1) (hc:qC ob.2=true): ∀ {cs cs':List V} {ys:List Value} {c:Cnt},
 qk E cs ys c→kC k ob cs=some cs'→qk E cs' ys (qh c c1)∧cs'.length=cs.length
 |[],cs',ys,c,h,hr=>by simp [kC]at hr
 |x::r,cs',ys,c,h,hr=>by
  simp only [qk]at h
  obtain ⟨y,ys',d1,d2,rfl,h1,h2,rfl⟩:=h
  simp only [kC]at hr
  split at hr
  ·rename_i x' hx
   simp only [Option.some.injEq]at hr;subst hr
   refine ⟨?_,rfl⟩
   simp only [qk]
   exact ⟨y,ys',qh d1 c1,d2,rfl,(qoR ho hc h1 hx).1,h2,by rw [xc,xc,QZ d2 c1]⟩
  ·rw [Option.map_eq_some_iff]at hr
   obtain ⟨t,ht,rfl⟩:=hr
   have:=qoI ho hc h2 ht
   refine ⟨?_,by simp [this.2]⟩
   simp only [qk]
   exact ⟨y,ys',d1,qh d2 c1,rfl,h1,this.1,xc _ _ _⟩
theorem qAr {E:Env} {k:Key} {ob:Ob} {c1:Cnt} (ho:xQ E k ob c1) (hc:qC ob.2=true) {x x':V} {y:Value} {c:Cnt}
 (h:Rel E x y c) (hr:kD k ob x=some x'):Rel E x' y (qh c c1)∧x'.cells.length=x.cells.length:=by
 cases x with
 |a cs=>
  simp only [kD,Option.map_eq_some_iff]at hr
  obtain ⟨cs',hr,rfl⟩:=hr
  simp only [Rel]at h ⊢
  obtain ⟨vs,hy,h⟩:=h
  have:=qoI ho hc h hr
  exact ⟨⟨vs,hy,this.1⟩,this.2⟩
 |_=>exact qoR ho hc h hr
theorem qoL {E:Env} {k:Key} {ob:Ob} {c1:Cnt} (ho:xQ E k ob c1) (hc:qC ob.2=true) {e:Nat}: ∀ {xs xs':List V} {ys:List Value} {c:Cnt},
 qn E e xs ys c→zG k ob xs=some xs'→qn E e xs' ys (qh c c1)∧xs'.length=xs.length
 |[],xs',ys,c,h,hr=>by simp [zG]at hr
 |x::r,xs',ys,c,h,hr=>by
  simp only [qn]at h
  obtain ⟨y,ys',d1,d2,rfl,hs,hl,hon,h1,h2,rfl⟩:=h
  simp only [zG]at hr
  split at hr
  ·rename_i x' hx
   simp only [Option.some.injEq]at hr;subst hr
   refine ⟨?_,rfl⟩
   have:=qAr ho hc h1 hx
   simp only [qn]
   exact ⟨y,ys',qh d1 c1,d2,rfl,hs,by rw [this.2];exact hl,hon,this.1,h2,by rw [xc,xc,QZ d2 c1]⟩
  ·rw [Option.map_eq_some_iff]at hr
   obtain ⟨t,ht,rfl⟩:=hr
   have:=qoL ho hc h2 ht
   refine ⟨?_,by simp [this.2]⟩
   simp only [qn]
   exact ⟨y,ys',d1,qh d2 c1,rfl,hs,hl,hon,h1,this.1,xc _ _ _⟩
theorem qpQ {E:Env} {k:Key} {ob:Ob} {c1:Cnt} (ho:xQ E k ob c1) (hc:qC ob.2=true): ∀ {T:Mem} {c:Cnt},
 qq E T c→ ∃ c',qq E (jz k ob T) c'∧cle c' (qh c c1)
 |[],c,h=>⟨c,h,YC _ _⟩
 |(u,e,xs)::r,c,h=>by
  obtain ⟨d1,d2,h1,h2,rfl⟩:=h
  simp only [jz]
  split
  ·rename_i xs' hx
   refine ⟨qh (qh d1 c1) d2,⟨qh d1 c1,d2, ?_,h2,rfl⟩,fun b=>by simp only [qh];omega⟩
   rcases h1 with ⟨b,ents,clk,es,q1,q2,q3,q4,q5⟩|⟨h3,h4,h5⟩|⟨b,base,lim,cells,T,fz,c2,hμ,hw,hl,hf,hs,hrr,rfl⟩
   ·simp only at q4;subst q4;simp [zG,kD,yV]at hx
   ·simp only at h4;subst h4;simp [zG]at hx
   ·have:=qoL ho hc hrr hx
    refine .inr (.inr ⟨b,base,lim,cells,T,fz,qh c2 c1,hμ,hw,hl,hf, ?_, ?_,xc _ _ _⟩)
    ·simpa only [this.2]using hs
    ·simpa only [this.2]using this.1
  ·obtain ⟨c',h3,h4⟩:=qpQ ho hc h2
   exact ⟨qh d1 c',⟨d1,c',h1,h3,rfl⟩,fun b=>by have:=h4 b;simp only [qh]at*;omega⟩
theorem qB9 {E:Env} {T:Mem} {c:Cnt} (k:Key) (h:qq E T c): ∃ c',qq E (qgr T k) c'∧cle c' c:=by
 unfold qgr
 split
 ·exact ⟨c,h,za _⟩
 ·rename_i ob hg
  obtain ⟨c1,c2,h1,h2,rfl⟩:=yH h hg
  split
  ·rename_i hc
   obtain ⟨c',h3,h4⟩:=qpQ h1 hc h2
   exact ⟨c',h3,by rw [QZ];exact h4⟩
  ·exact ⟨c2,h2,xJ _ _⟩
theorem qpR {E:Env}: ∀ (ks:List Key) {T:Mem} {c:Cnt},qq E T c→ ∃ c',qq E (qdc ks T) c'∧cle c' c
 |[],T,c,h=>⟨c,h,za _⟩
 |k::ks,T,c,h=>by
  obtain ⟨c1,h1,h2⟩:=qB9 k h
  obtain ⟨c3,h3,h4⟩:=qpR ks h1
  exact ⟨c3,h3,yZ h4 h2⟩
theorem qgF {E:Env}: ∀ (ks:List Key) {T:Mem} {c:Cnt},qq E T c→ ∃ c',qq E (xh T ks) c'∧cle c' c
 |[],T,c,h=>⟨c0,rfl,fun _=>Nat.zero_le _⟩
 |k::ks,T,c,h=>by
  simp only [xh]
  split
  ·rename_i ob hg
   obtain ⟨c1,c2,h1,h2,rfl⟩:=yH h hg
   obtain ⟨c3,h3,h4⟩:=qgF ks h2
   exact ⟨qh c1 c3,⟨c1,c3,h1,h3,rfl⟩,kN (za _) h4⟩
  ·exact qgF ks h
def zS(E:Env) (σ:Sl) (tmps:Array Value):Prop:= ∀ t x,qF σ t=some x→ ∃ y,tmps[t]? =some y∧Rel E x y c0
theorem jc {E E':Env} {σ:Sl} {tmps:Array Value} (h:zS E σ tmps) (m:Mono E E' c0):zS E' σ tmps:=
 fun t x hx=>let ⟨y,h1,h2⟩:=h t x hx;⟨y,h1,y7 h2 m⟩
theorem qmx(d:Nat): ∀ (σ:Sl) (t:Nat),qF (x5 d σ) t=(qF σ t).map (qN d)
 |[],t=>rfl
 |(u,x)::r,t=>by simp only [x5,qF];split<;>simp [qmx d r t]
theorem qAN {d:Nat} {E E':Env} {σ:Sl} {tmps:Array Value} (h:zS E σ tmps) (r:Renamed d E E'):zS E' (x5 d σ) tmps:=by
 intro t x hx
 rw [qmx,Option.map_eq_some_iff]at hx
 obtain ⟨z,hz,rfl⟩:=hx
 obtain ⟨y,h1,h2⟩:=h t z hz
 exact ⟨y,h1,qgm h2 r⟩
theorem qit {σ:Sl}: ∀ {ls:List Nat} {t:Nat} {x:V},qF (zL σ ls) t=some x→qF σ t=some x
 |[],t,x,h=>by simp [zL,qF]at h
 |l::ls,t,x,h=>by
  simp only [zL]at h
  split at h
  ·rename_i z hz
   simp only [qF]at h
   split at h
   ·rename_i he;subst he;rw [hz];exact h
   ·exact qit h
  ·exact qit h
theorem qpg {E:Env} {σ:Sl} {tmps:Array Value} (h:zS E σ tmps) (ls:List Nat):zS E (zL σ ls) tmps:=
 fun t x hx=>h t x (qit hx)
end Go.Vm
namespace Go.Vm
theorem qfT(g:Mem→V→V × Mem): ∀ (T:Mem) (xs:List V),(qy g T xs).1.length=xs.length
 |T,[]=>rfl
 |T,x::xs=>by simp [qy,qfT g _ xs]
def qba(g:Mem→V→V × Mem):Prop:= ∀ (E:Env) (T:Mem) (x:V) (y:Value) (c1 c2:Cnt),qq E T c1→Rel E x y c2→
 ∃ d1 d2,qq E (g T x).2 d1∧Rel E.cl (g T x).1 y d2∧cle (qh d1 d2) (qh c1 c2)∧((g T x).1.cells.length=x.cells.length)
theorem XW {g:Mem→V→V × Mem} (hg:qba g) {E:Env}: ∀ {xs:List V} {T:Mem} {ys:List Value} {c1 c2:Cnt},qq E T c1→qk E xs ys c2→
 ∃ d1 d2,qq E (qy g T xs).2 d1∧qk E.cl (qy g T xs).1 ys d2∧cle (qh d1 d2) (qh c1 c2)
 |[],T,ys,c1,c2,hT,h=>⟨c1,c2,hT,by simpa only [qy,qk]using h,za _⟩
 |x::xs,T,ys,c1,c2,hT,h=>by
  simp only [qk]at h
  obtain ⟨y,ys',e1,e2,rfl,h1,h2,rfl⟩:=h
  obtain ⟨d1,d2,h3,h4,h5,-⟩:=hg E T x y c1 e1 hT h1
  obtain ⟨d3,d4,h6,h7,h8⟩:=XW hg h3 h2
  refine ⟨d3,qh d2 d4,h6, ?_, ?_⟩
  ·simp only [qy,qk];exact ⟨y,ys',d2,d4,rfl,h4,h7,rfl⟩
  ·intro b;have:=h5 b;have:=h8 b;simp only [qh]at*;omega
theorem qjy {g:Mem→V→V × Mem} (hg:qba g) {E:Env} {e:Nat}: ∀ {xs:List V} {T:Mem} {ys:List Value} {c1 c2:Cnt},qq E T c1→qn E e xs ys c2→
 ∃ d1 d2,qq E (qy g T xs).2 d1∧qn E.cl e (qy g T xs).1 ys d2∧cle (qh d1 d2) (qh c1 c2)
 |[],T,ys,c1,c2,hT,h=>⟨c1,c2,hT,by simpa only [qy,qn]using h,za _⟩
 |x::xs,T,ys,c1,c2,hT,h=>by
  simp only [qn]at h
  obtain ⟨y,ys',e1,e2,rfl,hs,hl,ho,h1,h2,rfl⟩:=h
  obtain ⟨d1,d2,h3,h4,h5,h9⟩:=hg E T x y c1 e1 hT h1
  obtain ⟨d3,d4,h6,h7,h8⟩:=qjy hg h3 h2
  refine ⟨d3,qh d2 d4,h6, ?_, ?_⟩
  ·simp only [qy,qn];exact ⟨y,ys',d2,d4,rfl,hs,by rw [h9];exact hl,ho,h4,h7,rfl⟩
  ·intro b;have:=h5 b;have:=h8 b;simp only [qh]at*;omega
def kp(n:Nat) (T:Mem) (xs:List V):List V × Mem:=if qC xs then (xs,T)else qy (qz n) T xs
theorem qia(n:Nat) (T:Mem) (xs:List V):(kp n T xs).1.length=xs.length:=by
 unfold kp;split
 ·rfl
 ·exact qfT _ _ _
theorem qju {n:Nat} (hg:qba (qz n)) {E:Env} {e:Nat} {xs:List V} {T:Mem} {ys:List Value} {c1 c2:Cnt} (hT:qq E T c1) (h:qn E e xs ys c2):
 ∃ d1 d2,qq E (kp n T xs).2 d1∧qn E.cl e (kp n T xs).1 ys d2∧cle (qh d1 d2) (qh c1 c2):=by
 unfold kp;split
 ·rename_i hc;exact ⟨c1,c2,hT,qgg h hc,za _⟩
 ·exact qjy hg hT h
theorem QC {cells:Array Value} {base n a m:Nat} (h:a+m≤n):((seg cells base n).drop a).take m=seg cells (base+a) m:=by
 simp only [seg,List.drop_take,List.take_take,List.drop_drop]
 congr 1
 omega
theorem qas {cells:Array Value} {base n:Nat} (h:base+n≤cells.size):(seg cells base n).length=n:=by
 simp [seg];omega
theorem qfG(E:Env) (y:Value):Rel E .d y c0:=by simp [Rel]
theorem JV: ∀ n,qba (qz n)
 |0=>by
  intro E T x y c1 c2 hT h
  cases x with
  |a cs=>
   simp only [qz]
   refine ⟨c1,c0,hT, ?_,fun b=>by simp only [qh,c0];omega,by simp [V.cells]⟩
   simp only [Rel]at h ⊢
   obtain ⟨vs,rfl,h⟩:=h
   refine ⟨vs,rfl, ?_⟩
   have:=xM h
   clear h
   generalize vs.toList=l at this
   induction cs generalizing l with
   |nil=>cases l<;>simp_all [qk]
   |cons x xs ih=>
    cases l with
    |nil=>simp at this
    |cons z l=>
     simp only [List.map_cons,qk]
     exact ⟨z,l,c0,c0,rfl,qfG _ _,ih l (by simpa using this),rfl⟩
  |_=>
   simp only [qz]
   exact ⟨c1,c0,hT,qfG _ _,fun b=>by simp only [qh,c0];omega,by trivial⟩
 |n+1=>by
  have hg:=JV n
  intro E T x y c1 c2 hT h
  have hdead: ∃ d1 d2,qq E T d1∧Rel E.cl .d y d2∧cle (qh d1 d2) (qh c1 c2):=⟨c1,c0,hT,qfG _ _,fun b=>by simp only [qh,c0];omega⟩
  cases x with
  |s k lo len=>
   have he:qz (n+1) T (.s k lo len)=(match qt T k with
    |none=>(.d,T)
    |some ob=>if lo+len≤ob.2.length then
     (if lo=0 then (.o ob.1 (((kp n (qE T k) ob.2).1.drop lo).take len),(kp n (qE T k) ob.2).2)
     else (.o ob.1 (kp n (qE T k) ((ob.2.drop lo).take len)).1,(kp n (qE T k) ((ob.2.drop lo).take len)).2))else (.d,T)):=rfl
   rw [he]
   have hdead': ∃ d1 d2,qq E T d1∧Rel E.cl .d y d2∧cle (qh d1 d2) (qh c1 c2)∧V.d.cells.length=(V.s k lo len).cells.length:=
    let ⟨d1,d2,h1,h2,h3⟩:=hdead;⟨d1,d2,h1,h2,h3,rfl⟩
   split
   ·exact hdead'
   ·rename_i ob hgk
    split
    case isFalse=>exact hdead'
    rename_i hfull
    obtain ⟨a1,a2,ho,hD,rfl⟩:=yH hT hgk
    simp only [Rel]at h
    obtain ⟨rfl,h⟩:=h
    rcases ho with ⟨b,ents,clk,es,h1,-⟩|⟨⟨A0,h1⟩,h2,h3⟩|⟨b,base,lim,cells,Tt,fz,c3,hμ,hw,hl,hf,hs,hrr,rfl⟩
    ·rcases h with ⟨A,hμ',-⟩|⟨b,base,e,lim,cap,A,hμ',-⟩<;>(rw [h1]at hμ';cases hμ')
    ·subst h3
     rcases h with ⟨A,-,rfl,rfl,rfl⟩|⟨b,base,e,lim,cap,A,hμ',-⟩
     ·have hn:(kp n (qE T k) ob.2)=([],qE T k):=by rw [h2];rfl
      rw [if_pos rfl,hn]
      refine ⟨a2,c0,hD, ?_,fun b=>by simp only [qh,c0];omega,rfl⟩
      simp [Rel]
     ·rw [h1]at hμ';cases hμ'
    ·rcases h with ⟨A,h1,-⟩|⟨b',base',e,kV,cap,A,hμ',hle,hroom,hpos,hA,rfl⟩
     ·rw [h1]at hμ;cases hμ
     ·rw [hμ]at hμ';cases hμ'
      have hA':cap ≠ 0→A=⟨b,base+lo*ob.1,none⟩:=fun hc=>by
       rcases hA with hA|hA
       ·omega
       ·exact hA
      have hm:lo*ob.1+len*ob.1≤ob.2.length*ob.1:=by rw [← Nat.add_mul];exact Nat.mul_le_mul_right _ hfull
      have fin: ∀ (zs:List V) (T1:Mem) (d1 e3:Cnt),qq E T1 d1→qn E.cl ob.1 zs (seg cells (base+lo*ob.1) (len*ob.1)) e3→zs.length=len→cle (qh d1 e3) (qh a2 c3)→
       ∃ d1 d2,qq E T1 d1∧Rel E.cl (.o ob.1 zs) (.slice (some A) len cap) d2∧cle (qh d1 d2) (qh (qh (qh (qA b) c3) a2) c0)∧(V.o ob.1 zs).cells.length=(V.s k lo len).cells.length:=by
       intro zs T1 d1 e3 h4 h9 hlen' h6
       rcases Nat.eq_zero_or_pos cap with hc0|hcp
       ·refine ⟨d1,c0,h4, ?_, ?_,rfl⟩
        ·simp only [Rel]
         refine .inl ⟨List.length_eq_zero_iff.1 (by omega),⟨some A,by rw [hc0,show len=0 by omega]⟩,by trivial⟩
        ·intro z;have:=h6 z;simp only [qh,c0]at*;omega
       refine ⟨d1,qh (qA b) e3,h4, ?_, ?_,rfl⟩
       ·simp only [Rel]
        refine .inr ⟨b,base+lo*ob.1,cap,cells,Tt,fz,e3,by rw [hlen',hA' (by omega)],hcp,by rw [hlen'];exact hle, ?_,hw,hf,by rw [hlen'];exact h9,rfl⟩
        rw [hl];have:=Nat.add_mul lo cap ob.1;omega
       ·intro z;have:=h6 z;simp only [qh,c0]at*;omega
      split
      ·obtain ⟨d1,d2,h4,h5,h6⟩:=qju hg hD hrr
       obtain ⟨e1,e2,h7,h8,rfl⟩:=ja lo h5
       obtain ⟨e3,e4,h9,h10,rfl⟩:=ja len h8
       have hll:=qia n (qE T k) ob.2
       have hlen':(((kp n (qE T k) ob.2).1.drop lo).take len).length=len:=by
        simp only [List.length_take,List.length_drop,hll];omega
       rw [QC hm]at h9
       exact fin _ _ d1 e3 h4 h9 hlen' fun z=>by have:=h6 z;simp only [qh]at*;omega
      ·obtain ⟨e1,e2,h7,h8,rfl⟩:=ja lo hrr
       obtain ⟨e3,e4,h9,h10,rfl⟩:=ja len h8
       rw [QC hm]at h9
       obtain ⟨d1,d2,h4,h5,h6⟩:=qju hg hD h9
       have hll:=qia n (qE T k) ((ob.2.drop lo).take len)
       have hlen':(kp n (qE T k) ((ob.2.drop lo).take len)).1.length=len:=by
        rw [hll];simp only [List.length_take,List.length_drop];omega
       exact fin _ _ d1 d2 h4 h5 hlen' fun z=>by have:=h6 z;simp only [qh]at*;omega
  |p k idx off=>
   have he:qz (n+1) T (.p k idx off)=(match qt T k with
    |some (_,[x])=>if idx=0∧off=0 then (.b ((kp n (qE T k) [x]).1.headD .d),(kp n (qE T k) [x]).2)else (.d,T)
    |_=>(.d,T)):=rfl
   rw [he]
   have hdead': ∃ d1 d2,qq E T d1∧Rel E.cl .d y d2∧cle (qh d1 d2) (qh c1 c2)∧V.d.cells.length=(V.p k idx off).cells.length:=
    let ⟨d1,d2,h1,h2,h3⟩:=hdead;⟨d1,d2,h1,h2,h3,rfl⟩
   split
   ·rename_i e0 x hgk
    split
    ·rename_i hio
     obtain ⟨rfl,rfl⟩:=hio
     obtain ⟨a1,a2,ho,hD,rfl⟩:=yH hT hgk
     simp only [Rel]at h
     obtain ⟨rfl,b',base',e',kV,hμ',rfl⟩:=h
     rcases ho with ⟨b,ents,clk,es,h1,-⟩|⟨h1,h2,h3⟩|⟨b,base,lim,cells,Tt,fz,c3,hμ,hw,hl,hf,hs,hrr,rfl⟩
     ·rw [h1]at hμ';cases hμ'
     ·cases h2
     ·rw [hμ]at hμ';cases hμ'
      obtain ⟨d1,d2,h4,h5,h6⟩:=qju hg hD hrr
      simp only [List.length_singleton,Nat.one_mul]at hs h5
      have hll:=qia n (qE T k) [x]
      match hces:(kp n (qE T k) [x]).1,hll with
      |[x'],_=>
       rw [hces]at h5
       obtain ⟨u,hu,hsz,hlx,hon,hR⟩:=qc8 h5
       refine ⟨d1,qh (qA b') d2,h4, ?_, ?_,rfl⟩
       ·simp only [Rel,List.headD_cons]
        exact ⟨b',base',cells,Tt,fz,d2,u,by simp,by rw [hsz,hl];exact hs,hw,hf,by rw [hsz];exact hu.symm,by rw [hlx,hsz],hon,hR,rfl⟩
       ·intro z;have:=h6 z;simp only [qh]at*;omega
    ·exact hdead'
   ·exact hdead'
  |f fn first caps=>
   simp only [qz]
   simp only [Rel]at h
   obtain ⟨fs,cs,a1,a2,rfl,h1,h2,rfl⟩:=h
   obtain ⟨d1,d2,h3,h4,h5⟩:=XW hg hT h1
   obtain ⟨d3,d4,h6,h7,h8⟩:=XW hg h3 h2
   refine ⟨d3,qh d2 d4,h6, ?_, ?_,rfl⟩
   ·simp only [Rel];exact ⟨fs,cs,d2,d4,rfl,h4,h7,rfl⟩
   ·intro b;have:=h5 b;have:=h8 b;simp only [qh]at*;omega
  |a cs=>
   simp only [qz]
   simp only [Rel]at h
   obtain ⟨vs,rfl,h⟩:=h
   obtain ⟨d1,d2,h3,h4,h5⟩:=XW hg hT h
   exact ⟨d1,d2,h3,by simp only [Rel];exact ⟨vs,rfl,h4⟩,h5,by simp [V.cells,qfT]⟩
  |t vs=>
   simp only [qz]
   simp only [Rel]at h
   obtain ⟨ws,rfl,h⟩:=h
   obtain ⟨d1,d2,h3,h4,h5⟩:=XW hg hT h
   exact ⟨d1,d2,h3,by simp only [Rel];exact ⟨ws,rfl,h4⟩,h5,rfl⟩
  |n e=>
   simp only [qz]
   simp only [Rel]at h
   obtain ⟨rfl,rfl⟩:=h
   exact ⟨c1,c0,hT,by simp [Rel],za _,rfl⟩
  |m k=>
   have he:qz (n+1) T (.m k)=(match qt T k with
    |some (_,[.w _ es])=>(.w none es,qE T k)
    |_=>(.d,T)):=rfl
   rw [he]
   have hdead': ∃ d1 d2,qq E T d1∧Rel E.cl .d y d2∧cle (qh d1 d2) (qh c1 c2)∧V.d.cells.length=(V.m k).cells.length:=
    let ⟨d1,d2,h1,h2,h3⟩:=hdead;⟨d1,d2,h1,h2,h3,rfl⟩
   split
   ·rename_i e0 o0 es0 hgk
    obtain ⟨a1,a2,ho,hD,rfl⟩:=yH hT hgk
    simp only [Rel]at h
    obtain ⟨rfl,b',hμ',rfl⟩:=h
    rcases ho with ⟨b,ents,clk,es,h1,h2,h3,h4,rfl⟩|⟨⟨A0,h1⟩,-⟩|⟨b,base,lim,cells,Tt,fz,c3,h1,-⟩
    ·rw [h1]at hμ';cases hμ'
     simp only [List.cons.injEq,V.w.injEq,and_true]at h4
     obtain ⟨rfl,rfl⟩:=h4
     refine ⟨a2,qA b',hD, ?_,fun z=>by simp only [qh,c0];omega,rfl⟩
     simp only [Rel];exact ⟨b',ents,clk,rfl,h2,h3,by trivial⟩
    ·rw [h1]at hμ';cases hμ'
    ·rw [h1]at hμ';cases hμ'
   ·exact hdead'
  |w o es=>cases o<;>(simp only [qz];exact ⟨c1,c2,hT,YM h rfl,za _,by trivial⟩)
  |v x=>simp only [qz];exact ⟨c1,c2,hT,YM h rfl,za _,by trivial⟩
  |q=>simp only [qz];exact ⟨c1,c2,hT,YM h rfl,za _,by trivial⟩
  |i=>simp only [qz];exact ⟨c1,c2,hT,YM h rfl,za _,by trivial⟩
  |o=>simp only [qz];exact ⟨c1,c2,hT,YM h rfl,za _,by trivial⟩
  |b=>simp only [qz];exact ⟨c1,c2,hT,YM h rfl,za _,by trivial⟩
  |d=>simp only [qz];exact ⟨c1,c2,hT,by simpa only [Rel]using h,za _,by trivial⟩
end Go.Vm
namespace Go.Vm
structure Frozen (τ:Bool) (E E':Env) (c:Cnt):Prop where
 hw:E'.w=E.w
 hI: ∀ σ b,E.I σ b→E'.I σ b
 hc: ∀ b,c b ≠ 0→E'.I τ b
theorem Frozen.left {τ:Bool} {E E':Env} {c1 c2:Cnt} (h:Frozen τ E E' (qh c1 c2)):Frozen τ E E' c1:=
 ⟨h.hw,h.hI,fun b hb=>h.hc b (by simp only [qh];omega)⟩
theorem Frozen.right {τ:Bool} {E E':Env} {c1 c2:Cnt} (h:Frozen τ E E' (qh c1 c2)):Frozen τ E E' c2:=
 ⟨h.hw,h.hI,fun b hb=>h.hc b (by simp only [qh];omega)⟩
theorem Frozen.cl {τ:Bool} {E E':Env} {c:Cnt} (h:Frozen τ E E' c):Frozen τ E.cl E'.cl c:=⟨h.hw,h.hI,h.hc⟩
theorem Frozen.mono0 {τ:Bool} {E E':Env} {c:Cnt} (h:Frozen τ E E' c):Mono E.cl E'.cl c0:=
 ⟨fun σ b hb=>⟨h.hI σ b hb,by simp [Env.cl,h.hw]⟩,fun b hb=>by simp [Env.cl,h.hw],fun k l hk=>by simp [Env.cl]at hk⟩
theorem qlW(τ:Bool) (x:V):(zb τ x).cells.length=x.cells.length:=by
 have hL: ∀ xs,(qT τ xs).length=xs.length:=by intro xs;induction xs<;>simp_all [qT]
 cases x
 case w o es=>cases o<;>rfl
 all_goals simp [zb,V.cells,hL]
theorem qig(τ:Bool) (xs:List V):(qT τ xs).length=xs.length:=by induction xs<;>simp_all [qT]
mutual
theorem qam {τ:Bool}: ∀ {x:V} {E E':Env} {y:Value} {c:Cnt},Rel E.cl x y c→Frozen τ E E' c→Rel E'.cl (zb τ x) y c0
 | .v x,E,E',y,c,h,fr=>by simp only [Rel,zb]at h ⊢;exact ⟨h.1,h.2.1,trivial⟩
 | .p ..,E,E',y,c,h,fr=>by simp only [Rel]at h;obtain ⟨-,b,base,e,lim,hμ,-⟩:=h;simp [Env.cl]at hμ
 | .s ..,E,E',y,c,h,fr=>by
   simp only [Rel]at h;obtain ⟨-,⟨A,hμ,-⟩|⟨b,base,e,lim,cap,A,hμ,-⟩⟩:=h<;>simp [Env.cl]at hμ
 | .q ..,E,E',y,c,h,fr=>by
   have h0:c=c0:=by simp only [Rel]at h;exact h.1
   subst h0;exact y7 h fr.mono0
 | .i ..,E,E',y,c,h,fr=>by
   have h0:c=c0:=by simp only [Rel]at h;exact h.1
   subst h0;exact y7 h fr.mono0
 | .o e xs,E,E',y,c,h,fr=>by
   simp only [Rel,zb]at h ⊢
   refine ⟨trivial, ?_⟩
   rcases h with ⟨rfl,⟨A,rfl⟩,rfl⟩|⟨b,base,cap,cells,T,fz,c1,rfl,hA,hle,hs,hw,hf,hr,rfl⟩
   ·exact ⟨A,0,by simp [qT],by simp [qT],.inl (by simp [qT])⟩
   ·refine ⟨some ⟨b,base,none⟩,cap,by rw [qig],by rw [qig];exact hle, ?_⟩
    ·refine .inr ⟨b,base,e,cells,T,fz,rfl,fr.hc b (by simp [qh,qA]),by simp only [Env.cl]at hw ⊢;rw [fr.hw];exact hw, ?_⟩
     rw [qig]
     exact qoK hr fr.right.cl
 | .n e,E,E',y,c,h,fr=>by
   simp only [Rel,zb]at h ⊢
   obtain ⟨rfl,rfl⟩:=h
   exact ⟨trivial,none,0,rfl,Nat.le_refl _,.inl trivial⟩
 | .b x,E,E',y,c,h,fr=>by
   simp only [Rel,zb]at h ⊢
   obtain ⟨b,base,cells,T,fz,c1,z,rfl,hle,hw,hf,hz,hl,ho,hr,rfl⟩:=h
   refine ⟨trivial,b,base,z.cells.size,cells,T,fz,fr.hc b (by simp [qh,qA]),by simp only [Env.cl]at hw ⊢;rw [fr.hw];exact hw,by simp, ?_⟩
   simp only [List.length_singleton,Nat.one_mul]
   rw [← hz]
   exact qaj rfl (by rw [qlW];exact hl) ho (qam hr fr.right.cl)
 | .f fn first caps,E,E',y,c,h,fr=>by
   simp only [Rel,zb]at h ⊢
   obtain ⟨fs,cs,c1,c2,rfl,h1,h2,rfl⟩:=h
   exact ⟨fs,cs,c0,c0,rfl,qc3 h1 fr.left,qc3 h2 fr.right,rfl⟩
 | .a cs,E,E',y,c,h,fr=>by
   simp only [Rel,zb]at h ⊢
   obtain ⟨vs,rfl,h⟩:=h
   exact ⟨vs,rfl,qc3 h fr⟩
 | .t cs,E,E',y,c,h,fr=>by
   simp only [Rel,zb]at h ⊢
   obtain ⟨vs,rfl,h⟩:=h
   exact ⟨vs,rfl,qc3 h fr⟩
 | .m ..,E,E',y,c,h,fr=>by simp only [Rel]at h;obtain ⟨-,b,hμ,-⟩:=h;simp [Env.cl]at hμ
 | .w none es,E,E',y,c,h,fr=>by
   simp only [Rel,zb]at h ⊢
   obtain ⟨b,ents,clk,h1,h2,h3,rfl⟩:=h
   exact ⟨b,ents,clk,h1,by simp only [Env.cl]at h2 ⊢;rw [fr.hw];exact h2,h3,fr.hc b (by simp [qA]),by trivial⟩
 | .w (some σ) es,E,E',y,c,h,fr=>by
   have h0:c=c0:=by simp only [Rel]at h;obtain ⟨b,ents,clk,h1,h2,h3,h4,h5⟩:=h;exact h5
   subst h0;exact y7 h fr.mono0
 | .d,E,E',y,c,h,fr=>by simp [Rel,zb]
theorem qc3 {τ:Bool}: ∀ {xs:List V} {E E':Env} {ys:List Value} {c:Cnt},qk E.cl xs ys c→Frozen τ E E' c→qk E'.cl (qT τ xs) ys c0
 |[],E,E',ys,c,h,fr=>by simp only [qk,qT]at h ⊢;exact ⟨h.1,trivial⟩
 |x::xs,E,E',ys,c,h,fr=>by
  simp only [qk,qT]at h ⊢
  obtain ⟨y,t,c1,c2,rfl,h1,h2,rfl⟩:=h
  exact ⟨y,t,c0,c0,rfl,qam h1 fr.left,qc3 h2 fr.right,rfl⟩
theorem qoK {τ:Bool}: ∀ {xs:List V} {E E':Env} {e:Nat} {ys:List Value} {c:Cnt},qn E.cl e xs ys c→Frozen τ E E' c→qn E'.cl e (qT τ xs) ys c0
 |[],E,E',e,ys,c,h,fr=>by simp only [qn,qT]at h ⊢;exact ⟨h.1,trivial⟩
 |x::xs,E,E',e,ys,c,h,fr=>by
  simp only [qn,qT]at h ⊢
  obtain ⟨y,t,c1,c2,rfl,hs,hl,ho,h1,h2,rfl⟩:=h
  exact ⟨y,t,c0,c0,rfl,hs,by rw [qlW];exact hl,ho,qam h1 fr.left,qoK h2 fr.right,rfl⟩
end
structure Forget (E E':Env):Prop where
 hw:E'.w=E.w
 hI: ∀ b,E.I false b→E'.I false b
theorem Forget.cl {E E':Env} (h:Forget E E'):Forget E.cl E'.cl:=⟨h.hw,h.hI⟩
mutual
theorem qgl: ∀ {x:V} {E E':Env} {y:Value} {c:Cnt},Rel E x y c→zd x=true→Forget E E'→Rel E' x y c
 | .v x,E,E',y,c,h,hn,fr=>by simpa only [Rel]using h
 | .p ..,E,E',y,c,h,hn,fr=>by simp [zd]at hn
 | .s ..,E,E',y,c,h,hn,fr=>by simp [zd]at hn
 | .q τ xs idx off,E,E',y,c,h,hn,fr=>by
   simp only [zd,Bool.and_eq_true,Bool.not_eq_true']at hn
   obtain ⟨rfl,hn⟩:=hn
   simp only [Rel]at h ⊢
   obtain ⟨h0,b,base,e,cells,T,fz,hI,hw,hy,hr⟩:=h
   exact ⟨h0,b,base,e,cells,T,fz,fr.hI b hI,by rw [fr.hw];exact hw,hy,qgi hr hn fr.cl⟩
 | .i τ xs,E,E',y,c,h,hn,fr=>by
   simp only [zd,Bool.and_eq_true,Bool.not_eq_true']at hn
   obtain ⟨rfl,hn⟩:=hn
   simp only [Rel]at h ⊢
   obtain ⟨h0,A,cap,hy,hle,h⟩:=h
   refine ⟨h0,A,cap,hy,hle, ?_⟩
   rcases h with h|⟨b,base,e,cells,T,fz,hA,hI,hw,hr⟩
   ·exact .inl h
   ·exact .inr ⟨b,base,e,cells,T,fz,hA,fr.hI b hI,by rw [fr.hw];exact hw,qgi hr hn fr.cl⟩
 | .o e xs,E,E',y,c,h,hn,fr=>by
   simp only [zd]at hn
   simp only [Rel]at h ⊢
   rcases h with h|⟨b,base,cap,cells,T,fz,c1,hy,hA,hle,hs,hw,hf,hr,rfl⟩
   ·exact .inl h
   ·exact .inr ⟨b,base,cap,cells,T,fz,c1,hy,hA,hle,hs,by rw [fr.hw];exact hw,hf,qgi hr hn fr.cl,rfl⟩
 | .n e,E,E',y,c,h,hn,fr=>by simpa only [Rel]using h
 | .b x,E,E',y,c,h,hn,fr=>by
   simp only [zd]at hn
   simp only [Rel]at h ⊢
   obtain ⟨b,base,cells,T,fz,c1,z,hy,hle,hw,hf,hz,hl,ho,hr,rfl⟩:=h
   exact ⟨b,base,cells,T,fz,c1,z,hy,hle,by rw [fr.hw];exact hw,hf,hz,hl,ho,qgl hr hn fr.cl,rfl⟩
 | .f fn first caps,E,E',y,c,h,hn,fr=>by
   simp only [zd,Bool.and_eq_true]at hn
   simp only [Rel]at h ⊢
   obtain ⟨fs,cs,c1,c2,hy,h1,h2,rfl⟩:=h
   exact ⟨fs,cs,c1,c2,hy,qc4 h1 hn.1 fr,qc4 h2 hn.2 fr,rfl⟩
 | .a cs,E,E',y,c,h,hn,fr=>by
   simp only [zd]at hn
   simp only [Rel]at h ⊢
   obtain ⟨vs,hy,h⟩:=h
   exact ⟨vs,hy,qc4 h hn fr⟩
 | .t cs,E,E',y,c,h,hn,fr=>by
   simp only [zd]at hn
   simp only [Rel]at h ⊢
   obtain ⟨vs,hy,h⟩:=h
   exact ⟨vs,hy,qc4 h hn fr⟩
 | .m ..,E,E',y,c,h,hn,fr=>by simp [zd]at hn
 | .w none es,E,E',y,c,h,hn,fr=>by simp only [Rel]at h ⊢;rw [fr.hw];exact h
 | .w (some τ) es,E,E',y,c,h,hn,fr=>by
   simp only [zd,Bool.not_eq_true']at hn
   subst hn
   simp only [Rel]at h ⊢
   obtain ⟨b,ents,clk,h1,h2,h3,h4,h5⟩:=h
   exact ⟨b,ents,clk,h1,by rw [fr.hw];exact h2,h3,fr.hI b h4,h5⟩
 | .d,E,E',y,c,h,hn,fr=>by simpa only [Rel]using h
theorem qc4: ∀ {xs:List V} {E E':Env} {ys:List Value} {c:Cnt},qk E xs ys c→qH xs=true→Forget E E'→qk E' xs ys c
 |[],E,E',ys,c,h,hn,fr=>by simpa only [qk]using h
 |x::xs,E,E',ys,c,h,hn,fr=>by
  simp only [qH,Bool.and_eq_true]at hn
  simp only [qk]at h ⊢
  obtain ⟨y,t,c1,c2,hy,h1,h2,rfl⟩:=h
  exact ⟨y,t,c1,c2,hy,qgl h1 hn.1 fr,qc4 h2 hn.2 fr,rfl⟩
theorem qgi: ∀ {xs:List V} {E E':Env} {e:Nat} {ys:List Value} {c:Cnt},qn E e xs ys c→qH xs=true→Forget E E'→qn E' e xs ys c
 |[],E,E',e,ys,c,h,hn,fr=>by simpa only [qn]using h
 |x::xs,E,E',e,ys,c,h,hn,fr=>by
  simp only [qH,Bool.and_eq_true]at hn
  simp only [qn]at h ⊢
  obtain ⟨y,t,c1,c2,hy,hs,hl,ho,h1,h2,rfl⟩:=h
  exact ⟨y,t,c1,c2,hy,hs,hl,ho,qgl h1 hn.1 fr,qgi h2 hn.2 fr,rfl⟩
end
mutual
theorem XY: ∀ {x:V} {E:Env} {y:Value} {c:Cnt},Rel E x y c→zk x=true→c=c0
 | .v x,E,y,c,h,hz=>by simp only [Rel]at h;exact h.2.2
 | .p ..,E,y,c,h,hz=>by simp only [Rel]at h;exact h.1
 | .s ..,E,y,c,h,hz=>by simp only [Rel]at h;exact h.1
 | .q ..,E,y,c,h,hz=>by simp only [Rel]at h;exact h.1
 | .i ..,E,y,c,h,hz=>by simp only [Rel]at h;exact h.1
 | .o ..,E,y,c,h,hz=>by simp [zk]at hz
 | .b ..,E,y,c,h,hz=>by simp [zk]at hz
 | .n ..,E,y,c,h,hz=>by simp only [Rel]at h;exact h.2
 | .f fn first caps,E,y,c,h,hz=>by
   simp only [zk,Bool.and_eq_true]at hz
   simp only [Rel]at h
   obtain ⟨fs,cs,c1,c2,-,h1,h2,rfl⟩:=h
   rw [qai h1 hz.1,qai h2 hz.2];rfl
 | .a cs,E,y,c,h,hz=>by
   simp only [zk]at hz;simp only [Rel]at h
   obtain ⟨vs,-,h⟩:=h;exact qai h hz
 | .t cs,E,y,c,h,hz=>by
   simp only [zk]at hz;simp only [Rel]at h
   obtain ⟨vs,-,h⟩:=h;exact qai h hz
 | .m ..,E,y,c,h,hz=>by simp only [Rel]at h;exact h.1
 | .w none _,E,y,c,h,hz=>by simp [zk]at hz
 | .w (some _) _,E,y,c,h,hz=>by simp only [Rel]at h;obtain ⟨b,ents,clk,h1,h2,h3,h4,h5⟩:=h;exact h5
 | .d,E,y,c,h,hz=>by simpa only [Rel]using h
theorem qai: ∀ {xs:List V} {E:Env} {ys:List Value} {c:Cnt},qk E xs ys c→ya xs=true→c=c0
 |[],E,ys,c,h,hz=>by simp only [qk]at h;exact h.2
 |x::xs,E,ys,c,h,hz=>by
  simp only [ya,Bool.and_eq_true]at hz
  simp only [qk]at h
  obtain ⟨y,t,c1,c2,-,h1,h2,rfl⟩:=h
  rw [XY h1 hz.1,qai h2 hz.2];rfl
end
theorem qoO {E:Env} {e:Nat}: ∀ {xs:List V} {ys:List Value} {c:Cnt},qn E e xs ys c→ya xs=true→c=c0
 |[],ys,c,h,hz=>by simp only [qn]at h;exact h.2
 |x::xs,ys,c,h,hz=>by
  simp only [ya,Bool.and_eq_true]at hz
  simp only [qn]at h
  obtain ⟨y,t,c1,c2,-,-,-,-,h1,h2,rfl⟩:=h
  rw [XY h1 hz.1,qoO h2 hz.2];rfl
structure Names (d j j':Nat) (E E':Env):Prop where
 hw:E'.w=E.w
 hI:E'.I=E.I
 hμ: ∀ k l,E.μ k=some l→E'.μ k=some l
 hout: ∀ k:Key,k.1 ≠ d→E'.μ k=E.μ k
 hfree: ∀ i,j'≤i→E'.μ (d,i)=none
 hjj:j≤j'
theorem Names.mono {d j j':Nat} {E E':Env} (h:Names d j j' E E') (c:Cnt):Mono E E' c:=
 ⟨fun τ b hb=>⟨by rw [h.hI];exact hb,by rw [h.hw]⟩,fun b _=>by rw [h.hw],h.hμ⟩
theorem Names.cl {d j j':Nat} {E E':Env} (h:Names d j j' E E'):E'.cl=E.cl:=by
 obtain ⟨w,I,μ⟩:=E;obtain ⟨w',I',μ'⟩:=E'
 have:=h.hw;have:=h.hI
 simp_all [Env.cl]
theorem Names.trans {d j j' j'':Nat} {E E' E'':Env} (h:Names d j j' E E') (h':Names d j' j'' E' E''):Names d j j'' E E'':=
 ⟨by rw [h'.hw,h.hw],by rw [h'.hI,h.hI],fun k l hk=>h'.hμ k l (h.hμ k l hk),fun k hk=>by rw [h'.hout k hk,h.hout k hk],h'.hfree,Nat.le_trans h.hjj h'.hjj⟩
theorem Names.refl {d j:Nat} {E:Env} (h: ∀ i,j≤i→E.μ (d,i)=none):Names d j j E E:=⟨rfl,rfl,fun _ _ h=>h,fun _ _=>rfl,h,Nat.le_refl _⟩
def Env.name(E:Env) (k:Key) (l:Loc):Env:={E with μ:=fun k'=>if k'=k then some l else E.μ k'}
theorem YH {d j:Nat} {E:Env} (h: ∀ i,j≤i→E.μ (d,i)=none) (l:Loc):Names d j (j+1) E (E.name (d,j) l):=by
 refine ⟨rfl,rfl,fun k l' hk=> ?_,fun k hk=> ?_,fun i hi=> ?_,by omega⟩
 ·simp only [Env.name];split
  ·rename_i e;subst e;rw [h j (Nat.le_refl _)]at hk;cases hk
  ·exact hk
 ·simp only [Env.name];rw [if_neg];rintro rfl;exact hk rfl
 ·simp only [Env.name];rw [if_neg (by simp;omega)];exact h i (by omega)
theorem qnR {d j:Nat} {E:Env} (hf: ∀ i,j≤i→E.μ (d,i)=none) {x:V} {y:Value} {c:Cnt} (h:Rel E x y c):
 ∃ E' c',Names d j (zB d j x).2.1 E E'∧Rel E' (zB d j x).1 y c0∧qq E' (zB d j x).2.2 c'∧cle c' c:=by
 have hother: ∀ z:V,z=x→zB d j x=(if zk z then z else .d,j,[])→
  ∃ E' c',Names d j (zB d j x).2.1 E E'∧Rel E' (zB d j x).1 y c0∧qq E' (zB d j x).2.2 c'∧cle c' c:=by
  rintro z rfl he
  rw [he]
  refine ⟨E,c0,Names.refl hf, ?_,rfl,fun _=>Nat.zero_le _⟩
  simp only
  split
  ·rename_i hz
   have:=XY h hz;subst this
   exact h
  ·exact qfG _ _
 cases x with
 |o e xs=>
  simp only [Rel]at h
  rcases h with ⟨rfl,⟨A,rfl⟩,rfl⟩|⟨b,base,cap,cells,T,fz,c1,rfl,hA,hle,hs,hw,hfz,hr,rfl⟩
  ·refine ⟨E.name (d,j) (.emp A),c0,YH hf _, ?_, ?_,za _⟩
   ·simp only [zB,Rel];exact ⟨trivial,.inl ⟨A,by simp [Env.name],trivial,by trivial,by trivial⟩⟩
   ·simp only [zB,qq];exact ⟨c0,c0,.inr (.inl ⟨⟨A,by simp [Env.name]⟩,rfl,rfl⟩),rfl,rfl⟩
  ·refine ⟨E.name (d,j) (.at b base e cells.size),qh (qA b) c1,YH hf _, ?_, ?_,za _⟩
   ·simp only [zB,Rel]
    exact ⟨by trivial,.inr ⟨b,base,e,cells.size,cap,_,by simp [Env.name],hle,by simpa using hs,fun _=>hA,.inr (by simp),rfl⟩⟩
   ·simp only [zB,qq]
    refine ⟨qh (qA b) c1,c0,.inr (.inr ⟨b,base,cells.size,cells,T,fz,c1,by simp [Env.name],hw,rfl,hfz, ?_, ?_,rfl⟩),rfl,rfl⟩
    ·exact Nat.le_trans (Nat.add_le_add_left (Nat.mul_le_mul_right _ hle) _) hs
    ·exact yN hr (jR (E.name (d,j) (.at b base e cells.size)) c1)
 |b x=>
  simp only [Rel]at h
  obtain ⟨b,base,cells,T,fz,c1,z,rfl,hle,hw,hfz,hz,hl,ho,hr,rfl⟩:=h
  refine ⟨E.name (d,j) (.at b base x.cells.length cells.size),qh (qA b) c1,YH hf _, ?_, ?_,za _⟩
  ·simp only [zB,Rel];exact ⟨by trivial,b,base,x.cells.length,cells.size,by simp [Env.name],by simp⟩
  ·simp only [zB,qq]
   refine ⟨qh (qA b) c1,c0,.inr (.inr ⟨b,base,cells.size,cells,T,fz,c1,by simp [Env.name],hw,rfl,hfz,by simpa [hl]using hle, ?_,rfl⟩),rfl,rfl⟩
   simp only [List.length_singleton,Nat.one_mul,hl]
   rw [← hz]
   exact qaj rfl hl ho (y7 hr (jR (E.name (d,j) (.at b base z.cells.size cells.size)) c1))
 |w o es=>
  cases o with
  |some τ=>exact hother _ rfl rfl
  |none=>
   simp only [Rel]at h
   obtain ⟨b,ents,clk,rfl,h2,h3,rfl⟩:=h
   refine ⟨E.name (d,j) (.mp b),qA b,YH hf _, ?_, ?_,za _⟩
   ·simp only [zB,Rel];exact ⟨by trivial,b,by simp [Env.name],by trivial⟩
   ·simp only [zB,qq]
    exact ⟨qA b,c0,.inl ⟨b,ents,clk,es,by simp [Env.name],h2,h3,rfl,rfl⟩,rfl,rfl⟩
 |_=>exact hother _ rfl rfl
theorem qf3 {d:Nat}: ∀ {xs:List V} {j:Nat} {E:Env} {ys:List Value} {c:Cnt},(∀ i,j≤i→E.μ (d,i)=none)→qk E xs ys c→
 ∃ E' c',Names d j (zx d j xs).2.1 E E'∧qk E' (zx d j xs).1 ys c0∧qq E' (zx d j xs).2.2 c'∧cle c' c
 |[],j,E,ys,c,hf,h=>by
  simp only [qk]at h
  exact ⟨E,c0,Names.refl hf,by simp only [zx,qk];exact ⟨h.1,by trivial⟩,rfl,fun _=>Nat.zero_le _⟩
 |x::xs,j,E,ys,c,hf,h=>by
  simp only [qk]at h
  obtain ⟨y,t,c1,c2,rfl,h1,h2,rfl⟩:=h
  obtain ⟨E1,d1,hn1,hr1,ht1,hl1⟩:=qnR hf h1
  replace h2:=x9 h2 (hn1.mono _)
  obtain ⟨E2,d2,hn2,hr2,ht2,hl2⟩:=qf3 hn1.hfree h2
  refine ⟨E2,qh d1 d2,hn1.trans hn2, ?_, ?_,kN hl1 hl2⟩
  ·simp only [zx,qk]
   exact ⟨y,t,c0,c0,rfl,y7 hr1 (hn2.mono _),hr2,rfl⟩
  ·simp only [zx]
   exact ke (yo ht1 (hn2.mono _)) ht2
theorem qf2 {d j:Nat} {E:Env} (hf: ∀ i,j≤i→E.μ (d,i)=none) {x:V} {y:Value} {c:Cnt} (h:Rel E x y c):
 ∃ E' c',Names d j (qX d j x).2.1 E E'∧Rel E' (qX d j x).1 y c0∧qq E' (qX d j x).2.2 c'∧cle c' c:=by
 cases x with
 |a cs=>
  simp only [Rel]at h
  obtain ⟨vs,rfl,h⟩:=h
  obtain ⟨E',c',h1,h2,h3,h4⟩:=qf3 hf h
  exact ⟨E',c',h1,by simp only [qX,Rel];exact ⟨vs,rfl,h2⟩,h3,h4⟩
 |f fn first caps=>
  simp only [Rel]at h
  obtain ⟨fs,cs,c1,c2,rfl,h1,h2,rfl⟩:=h
  obtain ⟨E1,d1,hn1,hr1,ht1,hl1⟩:=qf3 hf h1
  replace h2:=x9 h2 (hn1.mono _)
  obtain ⟨E2,d2,hn2,hr2,ht2,hl2⟩:=qf3 hn1.hfree h2
  refine ⟨E2,qh d1 d2,hn1.trans hn2, ?_, ?_,kN hl1 hl2⟩
  ·simp only [qX,Rel]
   exact ⟨fs,cs,c0,c0,rfl,x9 hr1 (hn2.mono _),hr2,rfl⟩
  ·simp only [qX]
   exact ke (yo ht1 (hn2.mono _)) ht2
 |_=>exact qnR hf h
theorem qnQ {d:Nat}: ∀ {xs:List V} {j:Nat} {E:Env} {ys:List Value} {c:Cnt},(∀ i,j≤i→E.μ (d,i)=none)→qk E xs ys c→
 ∃ E' c',Names d j (kX d j xs).2.1 E E'∧qk E' (kX d j xs).1 ys c0∧qq E' (kX d j xs).2.2 c'∧cle c' c
 |[],j,E,ys,c,hf,h=>by
  simp only [qk]at h
  exact ⟨E,c0,Names.refl hf,by simp only [kX,qk];exact ⟨h.1,by trivial⟩,rfl,fun _=>Nat.zero_le _⟩
 |x::xs,j,E,ys,c,hf,h=>by
  simp only [qk]at h
  obtain ⟨y,t,c1,c2,rfl,h1,h2,rfl⟩:=h
  obtain ⟨E1,d1,hn1,hr1,ht1,hl1⟩:=qf2 hf h1
  replace h2:=x9 h2 (hn1.mono _)
  obtain ⟨E2,d2,hn2,hr2,ht2,hl2⟩:=qnQ hn1.hfree h2
  refine ⟨E2,qh d1 d2,hn1.trans hn2, ?_, ?_,kN hl1 hl2⟩
  ·simp only [kX,qk]
   exact ⟨y,t,c0,c0,rfl,y7 hr1 (hn2.mono _),hr2,rfl⟩
  ·simp only [kX]
   exact ke (yo ht1 (hn2.mono _)) ht2
theorem qjb {d:Nat} {E:Env} (hf: ∀ i,E.μ (d,i)=none) {x:V} {y:Value} {c:Cnt} (h:Rel E x y c):
 ∃ E' c' j',Names d 0 j' E E'∧Rel E' (yn d x).1 y c0∧qq E' (yn d x).2 c'∧cle c' c:=by
 cases x with
 |t vs=>
  simp only [Rel]at h
  obtain ⟨ws,rfl,h⟩:=h
  obtain ⟨E',c',h1,h2,h3,h4⟩:=qnQ (j:=0) (fun i _=>hf i) h
  exact ⟨E',c',_,h1,by simp only [yn,Rel];exact ⟨ws,rfl,h2⟩,h3,h4⟩
 |_=>
  obtain ⟨E',c',h1,h2,h3,h4⟩:=qf2 (j:=0) (fun i _=>hf i) h
  exact ⟨E',c',_,h1,h2,h3,h4⟩
end Go.Vm
set_option linter.unusedSectionVars false
namespace Go.Vm
theorem ji(b o n:Nat):(⟨b,o,none⟩:Addr).add n=⟨b,o+n,none⟩:=by
 unfold Addr.add;split
 ·rename_i h;subst h;rfl
 ·rfl
theorem Q0 {w:World} {b o:Nat} {cells:Array Value} {T:TypeId} {fz:Nat × Nat} (h:w.heap[b]? =some (.cells cells T fz)):
 w.cell? ⟨b,o,none⟩=cells[o]? :=by simp [World.cell?,h]
theorem qiq {w:World} {b o:Nat} {cells:Array Value} {T:TypeId} {fz:Nat × Nat} (h:w.heap[b]? =some (.cells cells T fz)) (hf:Q9 fz cells.size) (ho:o < cells.size):
 w.frozen? ⟨b,o,none⟩=false:=by
 simp only [World.frozen?,h,Bool.and_eq_false_iff,decide_eq_false_iff_not]
 unfold Q9 at hf;omega
theorem Z0 {cells:Array Value} {o n j:Nat} {v:Value} (h:(seg cells o n)[j]? =some v):cells[o+j]? =some v:=by
 simp only [seg,List.getElem?_take]at h
 split at h
 ·simpa using h
 ·cases h
theorem qAL {P:Program} {w:World} {b o n:Nat} {cells:Array Value} {T:TypeId} {fz:Nat × Nat} (h:w.heap[b]? =some (.cells cells T fz)) (hn:o+n≤cells.size):
 (loadCells ⟨b,o,none⟩ n).run P w= .ok (seg cells o n).toArray w:=by
 have hl:(seg cells o n).length=n:=qas hn
 have:=run_loadCells_list (P:=P) w ⟨b,o,none⟩ (seg cells o n) (fun j v hv=>by rw [ji,Q0 h];exact Z0 hv)
 rwa [hl]at this
theorem zX {P:Program} {w:World} {t:TypeId} {d:TypeDesc} (h:P.underlying t=some d):(underlying t).run P w= .ok d w:=by
 simp [underlying,h]
theorem qar {P:Program} {w:World} {t:TypeId} {i:TypeInfo} (h:P.info? t=some i):(typeInfo t).run P w= .ok i w:=by
 simp [typeInfo,h]
def Yy:TypeDesc→Bool
 | .struct _| .array _ _=>true
 |_=>false
theorem qdd {P:Program} {w:World} {t:TypeId} {d:TypeDesc} (h:P.underlying t=some d):(isAgg t).run P w= .ok (Yy d) w:=by
 simp only [isAgg,Sem.run_bind,zX h,Result.andThen_ok]
 cases d<;>rfl
theorem ZY {P:Program} {w:World} {t:TypeId} {i:TypeInfo} (h:P.info? t=some i):(sizeOf t).run P w= .ok i.size w:=by
 simp [sizeOf,qar h]
theorem qjJ {P:Program} {w:World} {t:TypeId} {d:TypeDesc} {i:TypeInfo} {b o:Nat} {cells:Array Value} {T:TypeId} {fz:Nat × Nat}
 (hu:P.underlying t=some d) (hi:P.info? t=some i) (h:w.heap[b]? =some (.cells cells T fz)):
 (Yy d=true→o+i.size≤cells.size→(loadVar t ⟨b,o,none⟩).run P w= .ok (.agg (seg cells o i.size).toArray) w)∧
 (Yy d=false→ ∀ v,cells[o]? =some v→(loadVar t ⟨b,o,none⟩).run P w= .ok v w):=by
 refine ⟨fun ha hn=> ?_,fun ha v hv=> ?_⟩
 ·simp [loadVar,qdd hu,ha,ZY hi,qAL h hn]
 ·simp [loadVar,qdd hu,ha,Q0 h,hv]
structure Wrote (w:World) (b:Nat) (cells':Array Value) (w':World):Prop where
 os:w'.os=w.os
 tape:w'.tape=w.tape
 output:w'.output=w.output
 size:w'.heap.size=w.heap.size
 other: ∀ b',b' ≠ b→w'.heap[b']? =w.heap[b']?
 self: ∀ cells T fz,w.heap[b]? =some (.cells cells T fz)→w'.heap[b]? =some (.cells cells' T fz)∧cells'.size=cells.size
theorem qpr {w:World} {b o:Nat} {cells:Array Value} {T:TypeId} {fz:Nat × Nat} (h:w.heap[b]? =some (.cells cells T fz)) (v:Value):
 Wrote w b (cells.setIfInBounds o v) (w.setCell ⟨b,o,none⟩ v):=by
 refine ⟨rfl,rfl,rfl,by simp [World.setCell],fun b' hb=> ?_,fun cs T' fz' h'=> ?_⟩
 ·simp only [World.setCell,Array.getElem?_modify];rw [if_neg (by simpa using fun e=>hb e.symm)]
 ·rw [h]at h';cases h'
  refine ⟨?_,by simp⟩
  simp [World.setCell,Array.getElem?_modify,h]
def zn(l:List Value) (o:Nat) (vs:List Value):List Value:=l.take o++vs++l.drop (o+vs.length)
theorem qgC {l:List Value} {o:Nat} {vs:List Value} (h:o+vs.length≤l.length):(zn l o vs).length=l.length:=by
 simp [zn];omega
theorem qj7 {l:List Value} {o:Nat} {v:Value} {vs:List Value} (h:o+(vs.length+1)≤l.length):zn (l.set o v) (o+1) vs=zn l o (v::vs):=by
 have ho:o < l.length:=by omega
 simp only [zn,List.length_cons]
 rw [List.set_eq_take_append_cons_drop,if_pos ho]
 have e1:(l.take o++v::l.drop (o+1)).take (o+1)=l.take o++[v]:=by
  have hl:(l.take o++[v]).length=o+1:=by simp;omega
  rw [show l.take o++v::l.drop (o+1)=(l.take o++[v])++l.drop (o+1)by simp, ← hl,List.take_left]
 have e2:(l.take o++v::l.drop (o+1)).drop (o+1+vs.length)=l.drop (o+(vs.length+1)):=by
  have hl:(l.take o++[v]).length=o+1:=by simp;omega
  rw [show l.take o++v::l.drop (o+1)=(l.take o++[v])++l.drop (o+1)by simp, ← hl,List.drop_length_add_append,List.drop_drop]
  congr 1;simp;omega
 rw [e1,e2];simp
theorem qjK {P:Program} {b o:Nat} {T:TypeId} {fz:Nat × Nat}: ∀ (vs:List Value) (i:Nat) (w:World) (cells:Array Value),w.heap[b]? =some (.cells cells T fz)→
 Q9 fz cells.size→o+i+vs.length≤cells.size→yy vs→
 ∃ w' cells',(storeCells ⟨b,o,none⟩ vs i).run P w= .ok () w'∧Wrote w b cells' w'∧cells'.toList=zn cells.toList (o+i) vs
 |[],i,w,cells,h,hf,hn,ho=>by
  refine ⟨w,cells,rfl,⟨rfl,rfl,rfl,rfl,fun _ _=>rfl,fun cs T' fz' h'=>by rw [h]at h';cases h';exact ⟨h,rfl⟩⟩,by simp [zn]⟩
 |v::vs,i,w,cells,h,hf,hn,ho=>by
  simp only [List.length_cons]at hn
  have hlt:o+i < cells.size:=by omega
  have hw:=qpr (o:=o+i) h v
  have h1:=(hw.self _ _ _ h).1
  obtain ⟨w',cells',hr,hW,hc⟩:=qjK (P:=P) (b:=b) (o:=o) vs (i+1) (w.setCell ⟨b,o+i,none⟩ v) (cells.setIfInBounds (o+i) v) h1 (by simpa using hf) (by simp only [Array.size_setIfInBounds];omega)
   (fun z hz=>ho z (List.mem_cons_of_mem _ hz))
  refine ⟨w',cells', ?_, ?_, ?_⟩
  ·have hv:v.oneCell'=true:=by have:=ho v (List.mem_cons_self);cases v<;>simp_all [Value.oneCell,Value.oneCell']
   simp only [storeCells,Sem.run_bind,ji,run_store P w _ v .plain hv,Q0 h,Array.getElem?_eq_getElem hlt,qiq h hf hlt]
   simpa using hr
  ·exact ⟨hW.os.trans hw.os,hW.tape.trans hw.tape,hW.output.trans hw.output,hW.size.trans hw.size,fun b' hb=>(hW.other b' hb).trans (hw.other b' hb),fun cs T' fz' h'=>⟨(hW.self _ _ _ (hw.self _ _ _ h').1).1,(hW.self _ _ _ (hw.self _ _ _ h').1).2.trans (hw.self _ _ _ h').2⟩⟩
  ·rw [hc,Array.toList_setIfInBounds, ← Nat.add_assoc,qj7 (l:=cells.toList) (o:=o+i) (by rw [Array.length_toList];exact hn)]
class Lay where
 B:Nat→Prop
 L:World→Prop
 st: ∀ w w':World,(∀ b,B b→w'.heap[b]? =w.heap[b]?)→L w→L w'
variable [Lay]
structure LayOk (E:Env):Prop where
 lb: ∀ b,Lay.B b→E.I false b
 ll:Lay.L E.w
theorem LayOk.next {E E':Env} (h:LayOk E) (hI: ∀ b,E.I false b→E'.I false b) (hw: ∀ b,E.I false b→E'.w.heap[b]? =E.w.heap[b]?):LayOk E':=
 ⟨fun b hb=>hI b (h.lb b hb),Lay.st E.w E'.w (fun b hb=>hw b (h.lb b hb)) h.ll⟩
theorem LayOk.same {E E':Env} (h:LayOk E) (hI:E'.I=E.I) (hw:E'.w=E.w):LayOk E':=h.next (fun b hb=>by rw [hI];exact hb) (fun b _=>by rw [hw])
structure Good (E:Env) (c:Cnt):Prop where
 one: ∀ b,c b≤1
 imm: ∀ τ b,E.I τ b→c b=0∧b < E.w.heap.size
 sub: ∀ b,E.I false b→E.I true b
 bnd: ∀ b,c b ≠ 0→b < E.w.heap.size
 lay:LayOk E
def yu(w:World) (b:Nat):Option Nat:=
 match w.heap[b]? with
 |some (.cells cells _ _)=>some cells.size
 |_=>none
structure Adv (E:Env) (c:Cnt) (E':Env) (c':Cnt):Prop where
 sizes: ∀ b n,yu E.w b=some n→yu E'.w b=some n
 os:E'.w.os=E.w.os
 tape:E'.w.tape=E.w.tape
 output:E'.w.output=E.w.output
 size:E.w.heap.size≤E'.w.heap.size
 frame: ∀ b,b < E.w.heap.size→c b=0→E'.w.heap[b]? =E.w.heap[b]?
 sub: ∀ τ b,E.I τ b→E'.I τ b
 own: ∀ b,c' b ≠ 0→c b ≠ 0∨E.w.heap.size≤b
 imm: ∀ τ b,E'.I τ b→E.I τ b∨c b ≠ 0∨E.w.heap.size≤b
theorem Adv.refl(E:Env) (c:Cnt):Adv E c E c:=⟨fun _ _ h=>h,rfl,rfl,rfl,Nat.le_refl _,fun _ _ _=>rfl,fun _ _ h=>h,fun _ h=> .inl h,fun _ _ h=> .inl h⟩
theorem Adv.trans {E E' E'':Env} {c c' c'':Cnt} (h:Adv E c E' c') (h':Adv E' c' E'' c''):Adv E c E'' c'':=by
 refine ⟨fun b n hn=>h'.sizes b n (h.sizes b n hn),h'.os.trans h.os,h'.tape.trans h.tape,h'.output.trans h.output,Nat.le_trans h.size h'.size,fun b hb hc=> ?_,fun τ b hb=>h'.sub τ b (h.sub τ b hb),fun b hb=> ?_,fun τ b hb=> ?_⟩
 ·have:c' b=0:=by
   cases hc':c' b with
   |zero=>rfl
   |succ n=>rcases h.own b (by omega)with h1|h1<;>omega
  rw [h'.frame b (Nat.lt_of_lt_of_le hb h.size) this,h.frame b hb hc]
 ·rcases h'.own b hb with h1|h1
  ·exact h.own b h1
  ·exact .inr (Nat.le_trans h.size h1)
 ·rcases h'.imm τ b hb with h1|h1|h1
  ·exact h.imm τ b h1
  ·rcases h.own b h1 with h2|h2
   ·exact .inr (.inl h2)
   ·exact .inr (.inr h2)
  ·exact .inr (.inr (Nat.le_trans h.size h1))
theorem Good.le {E:Env} {c c':Cnt} (h:Good E c) (hl:cle c' c):Good E c':=
 ⟨fun b=>Nat.le_trans (hl b) (h.one b),fun τ b hb=>⟨by have:=(h.imm τ b hb).1;have:=hl b;omega,(h.imm τ b hb).2⟩,h.sub,fun b hb=>h.bnd b (by have:=hl b;omega),h.lay⟩
theorem Adv.le {E E':Env} {c c' c'':Cnt} (h:Adv E c E' c') (hl:cle c'' c'):Adv E c E' c'':=
 ⟨h.sizes,h.os,h.tape,h.output,h.size,h.frame,h.sub,fun b hb=>h.own b (by have:=hl b;omega),h.imm⟩
structure FRel (N:Nat) (E:Env) (st:St) (tmps:Array Value) (c:Cnt):Prop where
 sz:tmps.size=N
 σ:zS E st.σ tmps
 T:qq E st.T c
 g:Good E c
theorem X0 {E:Env} {σ:Sl} {tmps:Array Value} {d:Nat} {x:V} {y:Value} (h:zS E σ tmps) (hx:Rel E x y c0) (hd:d < tmps.size):
 zS E ((d,x)::σ) (tmps.setIfInBounds d y):=by
 intro t z hz
 simp only [qF]at hz
 split at hz
 ·rename_i he;subst he;cases hz
  exact ⟨y,by simp [hd],hx⟩
 ·rename_i he
  obtain ⟨u,h1,h2⟩:=h t z hz
  exact ⟨u,by rw [Array.getElem?_setIfInBounds_ne he];exact h1,h2⟩
theorem FRel.put {N:Nat} {E:Env} {st:St} {tmps:Array Value} {c:Cnt} (h:FRel N E st tmps c) {d:Nat} {x:V} {y:Value} (hx:Rel E x y c0) (hd:d < N):
 FRel N E (st.put d x) (tmps.setIfInBounds d y) c:=
 ⟨by simpa using h.sz,X0 h.σ hx (by rw [h.sz];exact hd),h.T,h.g⟩
end Go.Vm
namespace Go.Vm
variable [Lay]
def Env.drop(E:Env) (d:Nat):Env:={E with μ:=fun k=>if k.1=d then none else E.μ k}
theorem qdb(E:Env) (d:Nat):Renamed d E (E.drop d):=⟨rfl,rfl,fun k hk=>by simp [Env.drop,hk]⟩
theorem Qp(E:Env) (d i:Nat):(E.drop d).μ (d,i)=none:=by simp [Env.drop]
theorem YT {E:Env} {st:St} {tmps:Array Value} {c:Cnt} (d:Nat) (hσ:zS E st.σ tmps) (hT:qq E st.T c):
 ∃ c',zS (E.drop d) (zr d st).σ tmps∧qq (E.drop d) (zr d st).T c'∧cle c' c:=by
 obtain ⟨c1,h1,h2⟩:=qpR (J7 d st.T) hT
 obtain ⟨c3,h3,h4⟩:=qpO d h1
 exact ⟨c3,qAN hσ (qdb E d),qpP h3 (qdb E d) (fun k ob hk=>qcD d hk),yZ h4 h2⟩
theorem qgh {E:Env} {e d:Nat} {xs:List V} {ys:List Value} {c:Cnt} (h:qn E e xs ys c):qn (E.drop d) e (qB d xs) ys c:=qjx h (qdb E d)
theorem qoQ {E:Env} {d:Nat} {x:V} {y:Value} {c:Cnt} (h:Rel E x y c):Rel (E.drop d) (qN d x) y c:=qgm h (qdb E d)
theorem Good.drop {E:Env} {c:Cnt} (h:Good E c) (d:Nat):Good (E.drop d) c:=⟨h.one,h.imm,h.sub,h.bnd,h.lay.same rfl rfl⟩
theorem qcy {w w':World} {b:Nat} (h:w'.heap[b]? =w.heap[b]?):yu w' b=yu w b:=by simp only [yu,h]
theorem qlz {w:World} {b n:Nat} (h:yu w b=some n): ∃ cells T fz,w.heap[b]? =some (.cells cells T fz)∧cells.size=n:=by
 unfold yu at h;split at h
 ·rename_i cells T fz h1;exact ⟨cells,T,fz,h1,by simpa using h⟩
 ·cases h
theorem qh4 {w:World} {b n:Nat} (h:yu w b=some n):b < w.heap.size:=by
 obtain ⟨cells,T,fz,h1,-⟩:=qlz h
 exact (Array.getElem?_eq_some_iff.1 h1).1
structure Grew (w:World) (o:Obj) (w':World):Prop where
 os:w'.os=w.os
 tape:w'.tape=w.tape
 output:w'.output=w.output
 heap:w'.heap=w.heap.push o
theorem qio {N:Nat} {E:Env} {σ:Sl} {T:Mem} {tmps:Array Value} {c1 c2:Cnt} {d e:Nat} {xs:List V} {cells:Array Value} {ty:TypeId} {w':World}
 (hsz:tmps.size=N) (hσ:zS E σ tmps) (hT:qq E T c2) (hfree: ∀ i,E.μ (d,i)=none)
 (hle:xs.length*e≤cells.size) (hR:qn E e xs (seg cells 0 (xs.length*e)) c1) (hg:Good E (qh c1 c2))
 {fz:Nat × Nat} (hfz:Q9 fz cells.size) (hw:Grew E.w (.cells cells ty fz) w'):
 ∃ E' c',E'.w=w'∧(∀ k:Key,k.1 ≠ d→E'.μ k=E.μ k)∧E'.μ (d,0)=some (.at E.w.heap.size 0 e cells.size)∧FRel N E' {σ:=σ,T:=((d,0),e,xs)::T} tmps c'∧Adv E (qh c1 c2) E' c'∧(∀ b,c' b≤qA E.w.heap.size b+(c1 b+c2 b)):=by
 let E':Env:={w:=w',I:=E.I,μ:=(E.name (d,0) (.at E.w.heap.size 0 e cells.size)).μ}
 have zQ: ∀ b,b < E.w.heap.size→w'.heap[b]? =E.w.heap[b]? :=fun b hb=>by rw [hw.heap,Array.getElem?_push,if_neg (by omega)]
 have hnew:w'.heap[E.w.heap.size]? =some (.cells cells ty fz):=by rw [hw.heap];simp
 have hsize:w'.heap.size=E.w.heap.size+1:=by rw [hw.heap];simp
 have hm: ∀ c,cle c (qh c1 c2)→Mono E E' c:=fun c hc=>
  ⟨fun τ b hb=>⟨hb,zQ b (hg.imm τ b hb).2⟩,fun b hb=>zQ b (hg.bnd b (by have:=hc b;omega)),fun k l hk=>by
   simp only [E',Env.name];split
   ·rename_i hk';subst hk';rw [hfree 0]at hk;cases hk
   ·exact hk⟩
 have hz: ∀ b,E.w.heap.size≤b→c1 b+c2 b=0:=fun b hb=>by
  cases hc:c1 b+c2 b with
  |zero=>rfl
  |succ n=>have:=hg.bnd b (by simp only [qh];omega);omega
 refine ⟨E',qh (qh (qA E.w.heap.size) c1) c2,rfl,fun k hk=>by simp only [E',Env.name];rw [if_neg (by rintro rfl;exact hk rfl)],by simp [E',Env.name],⟨hsz,jc hσ (hm c0 fun _=>Nat.zero_le _), ?_, ?_⟩, ?_,fun b=>by simp only [qh];omega⟩
 ·refine ⟨qh (qA E.w.heap.size) c1,c2,.inr (.inr ⟨E.w.heap.size,0,cells.size,cells,ty,fz,c1,by simp [E',Env.name],hnew,rfl,hfz,by simpa using hle,yN hR (hm c1 (YC _ _)),rfl⟩),yo hT (hm c2 (xJ _ _)),rfl⟩
 ·refine ⟨fun b=> ?_,fun τ b hb=> ?_,hg.sub,fun b hb=> ?_,hg.lay.next (fun b hb=>hb) (fun b hb=>zQ b (hg.imm false b hb).2)⟩
  ·simp only [qh,qA]
   have:=hg.one b;simp only [qh]at this
   split
   ·have:=hz b (by omega);omega
   ·omega
  ·have:=hg.imm τ b hb
   simp only [qh,qA]at this ⊢
   rw [if_neg (by omega)]
   have e:E'.w.heap.size=E.w.heap.size+1:=hsize
   omega
  ·simp only [qh,qA]at hb
   have e:E'.w.heap.size=E.w.heap.size+1:=hsize
   split at hb
   ·omega
   ·have:=hg.bnd b (by simp only [qh];omega);omega
 ·refine ⟨fun b n hn=> ?_,hw.os,hw.tape,hw.output, ?_,fun b hb _=>zQ b hb,fun _ _ h=>h,fun b hb=> ?_,fun τ b hb=> .inl hb⟩
  ·rw [qcy (zQ b (qh4 hn))];exact hn
  ·have e:E'.w.heap.size=E.w.heap.size+1:=hsize
   omega
  ·simp only [qh,qA]at hb ⊢
   split at hb
   ·exact .inr (by omega)
   ·exact .inl (by omega)
theorem qip {N:Nat} {E:Env} {σ:Sl} {tmps:Array Value} {c1 c2:Cnt} {b:Nat} {cells':Array Value} {w':World} {T':Mem}
 (hσ:zS E σ tmps) (hg:Good E (qh (qh (qA b) c1) c2)) (hw:Wrote E.w b cells' w'):
 (∀ c,cle c (qh c1 c2)→Mono E {E with w:=w'} c)∧zS {E with w:=w'} σ tmps∧Good {E with w:=w'} (qh (qh (qA b) c1) c2)∧
  Adv E (qh (qh (qA b) c1) c2) {E with w:=w'} (qh (qh (qA b) c1) c2):=by
 have hb0:c1 b+c2 b=0:=by have:=hg.one b;simp only [qh,qA,if_pos]at this;omega
 have hI: ∀ τ b',E.I τ b'→b' ≠ b:=by
  rintro τ b' h rfl
  have:=(hg.imm τ b' h).1;simp only [qh,qA,if_pos]at this;omega
 have hm: ∀ c,cle c (qh c1 c2)→Mono E {E with w:=w'} c:=fun c hc=>
  ⟨fun τ b' hb=>⟨hb,hw.other b' (hI τ b' hb)⟩,fun b' hb=>hw.other b' (by rintro rfl;have:=hc b';simp only [qh]at this;omega),fun k l hk=>hk⟩
 refine ⟨hm,jc hσ (hm c0 fun _=>Nat.zero_le _), ?_, ?_⟩
 ·exact ⟨hg.one,fun τ b' hb'=>⟨(hg.imm τ b' hb').1,by simp only [hw.size];exact (hg.imm τ b' hb').2⟩,hg.sub,fun b' hb'=>by simp only [hw.size];exact hg.bnd b' hb',hg.lay.next (fun b hb=>hb) (fun b' hb'=>hw.other b' (hI false b' hb'))⟩
 ·refine ⟨fun b' n hn=> ?_,hw.os,hw.tape,hw.output,by simp only [hw.size];exact Nat.le_refl _,fun b' _ hc=>hw.other b' ?_,fun _ _ h=>h,fun _ h=> .inl h,fun _ _ h=> .inl h⟩
  ·by_cases hb':b'=b
   ·subst hb'
    obtain ⟨cells,T,fz,h1,rfl⟩:=qlz hn
    have:=hw.self _ _ _ h1
    simp only [yu,this.1,this.2]
   ·rw [qcy (hw.other b' hb')];exact hn
  rintro rfl;simp only [qh,qA,if_pos]at hc;omega
def cV1:Value→V→Option V
 | .bool b,_=>some (.v (.bool b))
 | .int k n,_=>some (.v (.int k n))
 | .string s,_=>some (.v (.string s))
 | .nilFunc,_=>some (.v .nilFunc)
 | .nilIface,_=>some (.v .nilIface)
 | .pointer none,_=>some (.v (.pointer none))
 | .map none,_=>some (.v (.map none))
 | .slice none 0 0,.n e=>some (.n e)
 |_,_=>none
def cVL:List Value→List V→Option (List V)
 |[],[]=>some []
 |x::xs,h::hs=>match cV1 x h,cVL xs hs with
  |some y,some ys=>some (y::ys)
  |_,_=>none
 |_,_=>none
def cV:Value→V→Option V
 | .agg cs,.a hs=>(cVL cs.toList hs).map .a
 |x,h=>cV1 x h
theorem qoP {E:Env} {v:Value} {h x:V} (hc:cV1 v h=some x):Rel E x v c0:=by
 unfold cV1 at hc
 split at hc<;>first|(cases hc;done)|(simp only [Option.some.injEq]at hc;subst hc;simp [Rel,yP])
theorem qjt {E:Env}: ∀ {vs:List Value} {hs xs:List V},cVL vs hs=some xs→qk E xs vs c0
 |[],[],xs,h=>by simp [cVL]at h;subst h;simp [qk]
 |[],_::_,xs,h=>by simp [cVL]at h
 |_::_,[],xs,h=>by simp [cVL]at h
 |v::vs,h'::hs,xs,h=>by
  simp only [cVL]at h
  split at h
  ·rename_i y ys h1 h2
   simp only [Option.some.injEq]at h;subst h
   simp only [qk]
   exact ⟨v,vs,c0,c0,rfl,qoP h1,qjt h2,rfl⟩
  ·cases h
theorem qjz {E:Env} {v:Value} {h x:V} (hc:cV v h=some x):Rel E x v c0:=by
 unfold cV at hc
 split at hc
 ·rw [Option.map_eq_some_iff]at hc
  obtain ⟨xs,h1,rfl⟩:=hc
  simp only [Rel];exact ⟨_,rfl,qjt h1⟩
 ·exact qoP hc
def trO:Operand→AO→Option AO
 | .tmp t,_=>some (.t t)
 | .const v,.c h=>(cV v h).map .c
 | .func f,_=>some (.c (.f (.func f) [] []))
 |_,_=>none
theorem qK {E:Env} {σ:Sl} {a:Act} {x:Operand} {h y:AO} {z:V} (hσ:zS E σ a.tmps) (ht:trO x h=some y) (hz:ev σ y=some z):Rel E z (a.eval x) c0:=by
 unfold trO at ht
 split at ht
 ·simp only [Option.some.injEq]at ht;subst ht
  simp only [ev]at hz
  obtain ⟨v,h1,h2⟩:=hσ _ _ hz
  simp only [Act.eval,Array.getD_eq_getD_getElem?,h1,Option.getD_some];exact h2
 ·rw [Option.map_eq_some_iff]at ht
  obtain ⟨u,h1,rfl⟩:=ht
  simp only [ev,Option.some.injEq]at hz;subst hz
  exact qjz h1
 ·simp only [Option.some.injEq]at ht;subst ht
  simp only [ev,Option.some.injEq]at hz;subst hz
  simp only [Act.eval,Rel]
  exact ⟨#[],#[],c0,c0,rfl,by simp [qk],by simp [qk],rfl⟩
 ·cases ht
def jB:List Operand→List AO→Option (List AO)
 |[],[]=>some []
 |x::xs,h::hs=>match trO x h,jB xs hs with
  |some y,some ys=>some (y::ys)
  |_,_=>none
 |_,_=>none
theorem J0 {E:Env} {σ:Sl} {a:Act} (hσ:zS E σ a.tmps): ∀ {xs:List Operand} {hs ys:List AO} {zs:List V},jB xs hs=some ys→evL σ ys=some zs→
 qk E zs (xs.map a.eval) c0
 |[],[],ys,zs,h,hz=>by simp [jB]at h;subst h;simp [evL]at hz;subst hz;simp [qk]
 |[],_::_,ys,zs,h,hz=>by simp [jB]at h
 |_::_,[],ys,zs,h,hz=>by simp [jB]at h
 |x::xs,h'::hs,ys,zs,h,hz=>by
  simp only [jB]at h
  split at h
  ·rename_i y ys' h1 h2
   simp only [Option.some.injEq]at h;subst h
   simp only [evL]at hz
   split at hz
   ·rename_i z zs' h3 h4
    simp only [Option.some.injEq]at hz;subst hz
    simp only [List.map_cons,qk]
    exact ⟨_,_,c0,c0,rfl,qK hσ h1 h3,J0 hσ h2 h4,rfl⟩
   ·cases hz
  ·cases h
def yX(dst:Option Tmp) (E E':Env):Prop:= ∀ k:Key,dst ≠ some k.1→E'.μ k=E.μ k
theorem yX.refl {dst:Option Tmp} {E:Env}:yX dst E E:=fun _ _=>rfl
theorem ZP {d:Nat} {E E':Env} (h: ∀ k:Key,k.1 ≠ d→E'.μ k=(E.drop d).μ k):yX (some d) E E':=fun k hk=>by
 have hk':k.1 ≠ d:=fun e=>hk (by rw [e])
 rw [h k hk'];simp [Env.drop,hk']
def zY(N:Nat) (E:Env) (c:Cnt) (st':St) (a:Act) (dst:Option Tmp):Result Next→Prop
 | .ok (.value y) w'=> ∃ E' c',E'.w=w'∧yX dst E E'∧FRel N E' st' (a.put dst y).tmps c'∧Adv E c E' c'
 | .ok .skip w'=> ∃ E' c',E'.w=w'∧yX dst E E'∧FRel N E' st' (a.put dst undef).tmps c'∧Adv E c E' c'
 |_=>False
def qO(N:Nat) (E:Env) (st st':St) (dst:Option Tmp) (r:Result Next):Prop:=
 ∃ d x y,dst=some d∧d < N∧r= .ok (.value y) E.w∧st'=st.put d x∧Rel E x y c0
theorem qO.to1 {N:Nat} {E:Env} {c:Cnt} {st st':St} {a:Act} {dst:Option Tmp} {r:Result Next} (hq:qO N E st st' dst r) (h:FRel N E st a.tmps c):zY N E c st' a dst r:=by
 obtain ⟨d,x,y,rfl,hd,rfl,rfl,hx⟩:=hq
 exact ⟨E,c,rfl,yX.refl,h.put hx hd,Adv.refl _ _⟩
theorem zE {N:Nat} {E:Env} {c:Cnt} {st:St} {a:Act} {d:Nat} {x:V} {y:Value} (h:FRel N E st a.tmps c) (hd:d < N) (hx:Rel E x y c0):
 qO N E st (st.put d x) (some d) (.ok (.value y) E.w):=⟨d,x,y,rfl,hd,rfl,rfl,hx⟩
end Go.Vm
namespace Go.Vm
variable [Lay]
def j5(P:Program) (t:TypeId):Option (Bool × Nat):=
 match P.underlying t,P.info? t with
 |some d,some i=>some (Yy d,i.size)
 |_,_=>none
def slT(P:Program) (t:TypeId):Option (TypeId × TypeInfo):=
 match P.underlying t with
 |some (.slice e)=>(P.info? e).map (e,·)
 |_=>none
def qa7(P:Program) (t:TypeId):Option Value:=(P.info? t).bind (·.zero)
def J1(P:Program) (s:TypeId) (f:Nat):Option Field:=
 match P.underlying s with
 |some (.struct fs)=>fs[f]?
 |_=>none
def qPU(P:Program) (t:TypeId):Option (Option IntKind):=
 match P.underlying t with
 |some (.int k)=>some (some k)
 |some .string=>some none
 |_=>none
def kZ {α β γ:Type} (x:Option α) (y:Option β) (f:α→β→γ):Option γ:=
 match x,y with
 |some a,some b=>some (f a b)
 |_,_=>none
theorem Zb {α β γ:Type} {x:Option α} {y:Option β} {f:α→β→γ} {r:γ} (h:kZ x y f=some r): ∃ a b,x=some a∧y=some b∧r=f a b:=by
 unfold kZ at h;split at h
 ·rename_i a b;exact ⟨a,b,rfl,rfl,(Option.some.inj h).symm⟩
 ·cases h
theorem qkh {α:Type} {s:Sem α} {a:α} (h:s.val? =some a):s= .pure a:=by
 unfold Sem.val? at h;split at h
 ·simp only [Option.some.injEq]at h;rw [h]
 ·cases h
section
variable {P:Program} {N:Nat} {E:Env} {c:Cnt} {st st':St} {a:Act} {d:Nat} {call:ze}
theorem qA9 {x:Operand} {hx y:AO} (ht:trO x hx=some y) (hs:qj call st (.mv d y)=some st') (h:FRel N E st a.tmps c) (hd:d < N):
 qO N E st st' (some d) (.ok (.value (a.eval x)) E.w):=by
 simp only [qj,Option.map_eq_some_iff]at hs
 obtain ⟨z,hz,rfl⟩:=hs
 exact zE h hd (qK h.σ ht hz)
theorem qBb {o x y:Operand} {ho hx hy o' x' y':AO} (h1:trO o ho=some o') (h2:trO x hx=some x') (h3:trO y hy=some y')
 (hs:qj call st (.pick d o' x' y')=some st') (h:FRel N E st a.tmps c) (hd:d < N):
 qO N E st st' (some d) (Sem.run P (do pure (.value (if ← asBool (a.eval o)then a.eval x else a.eval y))) E.w):=by
 simp only [qj]at hs
 split at hs
 ·rename_i hc
  have:=qK h.σ h1 hc
  simp only [Rel]at this
  rw [Option.map_eq_some_iff]at hs
  obtain ⟨z,hz,rfl⟩:=hs
  simp only [this.1,asBool,Sem.run_bind,Sem.run_pure,Result.andThen_ok,if_true]
  exact zE h hd (qK h.σ h2 hz)
 ·rename_i hc
  have:=qK h.σ h1 hc
  simp only [Rel]at this
  rw [Option.map_eq_some_iff]at hs
  obtain ⟨z,hz,rfl⟩:=hs
  simp only [this.1,asBool,Sem.run_bind,Sem.run_pure,Result.andThen_ok]
  exact zE h hd (qK h.σ h3 hz)
 ·cases hs
theorem qjM(l:Array Value):seg l 0 l.size=l.toList:=by simp [seg, ← Array.length_toList]
theorem qfz(x:Cnt):cle c0 x:=fun _=>Nat.zero_le _
theorem qpj {x:AO} {v:Value} {t:TypeId} (hx: ∀ z,ev st.σ x=some z→Rel E z v c0)
 (hs:qj call st (.new d x)=some st') (h:FRel N E st a.tmps c) (hd:d < N):
 zY N E c st' a (some d) (Sem.run P (do pure (.value (.pointer (some (← newVar t v))))) E.w):=by
 simp only [qj]at hs
 split at hs
 ·rename_i z hz
  split at hs
  ·rename_i ho
   simp only [Option.some.injEq]at hs;subst hs
   have hr:=hx z hz
   obtain ⟨hl,hon⟩:=qgn hr ho
   obtain ⟨c1,hσ,hT,hle⟩:=YT d h.σ h.T
   have hk:=qoQ (d:=d) hr
   have hR:qn (E.drop d) z.cells.length [qN d z] (seg v.cells 0 ([qN d z].length*z.cells.length)) c0:=by
    simp only [List.length_singleton,Nat.one_mul,hl,qjM]
    exact qaj rfl (by rw [qmX,hl]) hon hk
   have hg:Good (E.drop d) (qh c0 c1):=by rw [zo];exact (h.g.drop d).le hle
   simp only [newVar,newRow,Sem.run_bind,run_newObj,Result.andThen_ok,Sem.run_pure]
   obtain ⟨E',c',hw,hks,hμ,hF,hA,hc⟩:=qio (d:=d) (tmps:=a.tmps) (ty:=t) (fz:=(0,0)) h.sz hσ hT (Qp E d) (by simp [hl]) hR hg (.inr (Nat.le_refl _))
    (⟨rfl,rfl,rfl,rfl⟩:Grew (E.drop d).w (.cells v.cells t (0,0)) {(E.drop d).w with heap:=(E.drop d).w.heap.push (.cells v.cells t (0,0))})
   refine ⟨E',c',hw,ZP hks, ?_, ?_⟩
   ·refine hF.put (x:= .p (d,0) 0 0) ?_ hd
    simp only [Rel]
    exact ⟨by trivial,_,_,_,_,hμ,by simp [Env.drop]⟩
   ·have hA':Adv E c E' c':=⟨hA.sizes,hA.os,hA.tape,hA.output,hA.size,fun b hb hc=>hA.frame b hb (by have:=hle b;simp only [qh,c0];omega),hA.sub,
     fun b hb=>(hA.own b hb).imp (fun h=>by have:=hle b;simp only [qh,c0]at h;omega) id,
     fun τ b hb=>(hA.imm τ b hb).imp id (fun h=>h.imp (fun h=>by have:=hle b;simp only [qh,c0]at h;omega) id)⟩
    exact hA'
  ·cases hs
 ·cases hs
theorem qAp {x:V} {y:Value} {cx:Cnt} {agg:Bool} {n off:Nat} {z:V} (hx:Rel E x y cx) (hl:x.cells.length=y.cells.size) (hz:zh agg n x off=some z) (hzero:zk z=true):
 (agg=true→off+n≤y.cells.size∧Rel E z (.agg ((y.cells.toList.drop off).take n).toArray) c0)∧
 (agg=false→ ∃ v,y.cells[off]? =some v∧Rel E z v c0):=by
 have hc:=qal hx hl
 unfold zh at hz
 refine ⟨fun ha=> ?_,fun ha=> ?_⟩
 ·rw [ha]at hz
  simp only [if_true]at hz
  split at hz
  ·rename_i hh
   obtain ⟨rfl,hn,hA⟩:=hh
   simp only [Option.some.injEq]at hz;subst hz
   cases x with
   |a cs=>
    simp only [V.cells]at hn
    have hx':=hx
    simp only [Rel]at hx'
    obtain ⟨vs,rfl,hL⟩:=hx'
    have h0:=XY hx hzero
    subst h0
    have:=xM hL
    simp only [Array.length_toList]at this
    refine ⟨by simp only [Value.cells];omega, ?_⟩
    simp only [List.drop_zero]
    rw [List.take_of_length_le (by simp [Value.cells];omega)]
    simpa [Value.cells]using hx
   |_=>simp [V.isA]at hA
  ·split at hz
   ·rename_i hle
    simp only [Option.some.injEq]at hz;subst hz
    refine ⟨by omega, ?_⟩
    have e1:x.cells=x.cells.take off++((x.cells.drop off).take n++(x.cells.drop off).drop n):=by rw [List.take_append_drop,List.take_append_drop]
    rw [e1]at hc
    obtain ⟨p1,p2,d1,d2,e2,h1,h2,rfl⟩:=XX hc
    obtain ⟨p3,p4,d3,d4,rfl,h3,h4,rfl⟩:=XX h2
    have l1:=xM h1
    have l3:=xM h3
    simp only [List.length_take,List.length_drop]at l1 l3
    have e3:(y.cells.toList.drop off).take n=p3:=by
     rw [e2,show off=p1.length by omega,List.drop_left,show n=p3.length by omega,List.take_left]
    rw [e3]
    simp only [zk]at hzero
    have h0:=qai h3 hzero
    subst h0
    exact qc9 h3
   ·cases hz
 ·rw [ha]at hz
  simp only [Bool.false_eq_true,if_false]at hz
  obtain ⟨v,c1,c2,h1,h2,rfl,-⟩:=qge hc hz
  have h0:=XY h2 hzero
  subst h0
  exact ⟨v,by simpa using h1,h2⟩
theorem qnd {T:Mem} {p:V} {v:Value} {agg:Bool} {n:Nat} {z:V} (hT:qq E T c) (hp:Rel E p v c0) (hz:x6 T agg n p=some z):
 ∃ b base e idx off xs x cells ty fz cr,v= .pointer (some ⟨b,base+idx*e+off,none⟩)∧E.w.heap[b]? =some (.cells cells ty fz)∧xs[idx]? =some x∧zh agg n x off=some z∧
  (qn E e xs (seg cells base (xs.length*e)) cr):=by
 unfold x6 at hz
 split at hz
 ·rename_i k idx off
  split at hz
  ·rename_i ob hg
   split at hz
   ·rename_i x hx
    simp only [Rel]at hp
    obtain ⟨-,b',base',e',kV,hμ',rfl⟩:=hp
    obtain ⟨c1,c2,ho,-,-⟩:=yH hT hg
    rcases ho with ⟨_,_,_,_,h1,-⟩|⟨⟨A0,h1⟩,-⟩|⟨b,base,lim,cells,ty,fz,c3,hμ,hw,hl,hf,hs,hr,-⟩
    ·rw [h1]at hμ';cases hμ'
    ·rw [h1]at hμ';cases hμ'
    ·rw [hμ]at hμ';cases hμ'
     exact ⟨_,_,_,idx,off,ob.2,x,cells,ty,fz,c3,rfl,hw,hx,hz,hr⟩
   ·cases hz
  ·cases hz
 ·rename_i τ xs idx off
  split at hz
  ·rename_i x hx
   simp only [Rel]at hp
   obtain ⟨-,b,base,e,cells,ty,fz,hI,hw,rfl,hr⟩:=hp
   exact ⟨_,_,_,idx,off,xs,x,cells,ty,fz,c0,rfl,hw,hx,hz,yN hr (jR E c0)⟩
  ·cases hz
 ·cases hz
theorem qpf {b base e idx off:Nat} {xs:List V} {x z:V} {cells:Array Value} {ty:TypeId} {fz:Nat × Nat} {cr:Cnt} {t:TypeId} {agg:Bool} {n:Nat}
 (hw:E.w.heap[b]? =some (.cells cells ty fz)) (hx:xs[idx]? =some x) (hz:zh agg n x off=some z) (hr:qn E e xs (seg cells base (xs.length*e)) cr)
 (ht:j5 P t=some (agg,n)) (hzero:zk z=true):
 ∃ y,(Instr.loadAt t (.pointer (some ⟨b,base+idx*e+off,none⟩))).run P E.w= .ok y E.w∧Rel E z y c0:=by
 unfold j5 at ht
 split at ht
 ·rename_i dd i hu hi
  simp only [Option.some.injEq,Prod.mk.injEq]at ht
  obtain ⟨rfl,rfl⟩:=ht
  obtain ⟨y,c1,c2,h1,h2,h3,-,h5,-,-⟩:=qAo hr hx
  have hidx:idx < xs.length:=(List.getElem?_eq_some_iff.1 hx).1
  have hm:idx*e+e≤xs.length*e:=by rw [← Nat.succ_mul];exact Nat.mul_le_mul_right _ hidx
  rw [QC hm]at h1
  have hlen:(seg cells (base+idx*e) e).length=e:=by rw [h1];simpa using h2
  have hsz:base+idx*e+e≤cells.size∨e=0:=by
   simp only [seg,List.length_take,List.length_drop,Array.length_toList]at hlen;omega
  have:=qAp h5 (by rw [h3,h2]) hz hzero
  rw [← h1]at this
  obtain ⟨hT,hF⟩:=this
  have hrun:=qjJ (P:=P) (w:=E.w) (t:=t) (o:=base+idx*e+off) hu hi hw
  cases hag:Yy dd with
  |true=>
   obtain ⟨h6,h7⟩:=hT hag
   rw [h2]at h6
   have hin:base+idx*e+off+i.size≤cells.size∨i.size=0:=by omega
   rcases hin with hin|hin
   ·refine ⟨_,by simp only [Instr.loadAt,Instr.sureAddr,Sem.run_bind,Sem.run_pure,Result.andThen_ok];exact hrun.1 hag hin, ?_⟩
    rwa [QC (by omega)]at h7
   ·refine ⟨.agg #[], ?_, ?_⟩
    ·simp only [Instr.loadAt,Instr.sureAddr,Sem.run_bind,Sem.run_pure,Result.andThen_ok,loadVar,qdd hu,hag,if_true,ZY hi,hin,loadCells,loadCellsFrom]
    ·rw [hin]at h7;simpa using h7
  |false=>
   obtain ⟨v,h6,h7⟩:=hF hag
   have h8:(seg cells (base+idx*e) e)[off]? =some v:=by rw [h1];simpa using h6
   have h9:cells[base+idx*e+off]? =some v:=by simpa [Nat.add_assoc]using Z0 h8
   exact ⟨v,by simp only [Instr.loadAt,Instr.sureAddr,Sem.run_bind,Sem.run_pure,Result.andThen_ok];exact hrun.2 hag v h9,h7⟩
 ·cases ht
end
end Go.Vm
namespace Go.Vm
variable [Lay]
theorem qc7 {E:Env} {xs:List V} {ys:List Value} {c:Cnt} (h:qk E xs ys c) (off m:Nat) (hle:off+m≤xs.length):
 ∃ d0 d1 d2,qk E (xs.take off) (ys.take off) d0∧qk E ((xs.drop off).take m) ((ys.drop off).take m) d1∧qk E (xs.drop (off+m)) (ys.drop (off+m)) d2∧c=qh d0 (qh d1 d2):=by
 have e1:xs=xs.take off++((xs.drop off).take m++(xs.drop off).drop m):=by rw [List.take_append_drop,List.take_append_drop]
 rw [e1]at h
 obtain ⟨p1,p2,d1,d2,e2,h1,h2,rfl⟩:=XX h
 obtain ⟨p3,p4,d3,d4,rfl,h3,h4,rfl⟩:=XX h2
 have l1:=xM h1
 have l3:=xM h3
 simp only [List.length_take,List.length_drop]at l1 l3
 have e3:ys.take off=p1:=by rw [e2,show off=p1.length by omega,List.take_left]
 have e4:ys.drop off=p3++p4:=by rw [e2,show off=p1.length by omega,List.drop_left]
 have e5:(ys.drop off).take m=p3:=by rw [e4,show m=p3.length by omega,List.take_left]
 have e6:ys.drop (off+m)=p4:=by rw [← List.drop_drop,e4,show m=p3.length by omega,List.drop_left]
 rw [e3,e5,e6]
 rw [List.drop_drop]at h4
 exact ⟨d1,d3,d4,h1,h3,h4,rfl⟩
theorem qgk {E:Env} {e:Nat} {xs:List V} {ys:List Value} {c:Cnt} {i:Nat} {x:V} (h:qn E e xs ys c) (hx:xs[i]? =some x):
 ∃ y d0 d1 d2,(ys.drop (i*e)).take e=y.cells.toList∧y.cells.size=e∧x.cells.length=e∧yy y.cells.toList∧qn E e (xs.take i) (ys.take (i*e)) d0∧Rel E x y d1∧
  qn E e (xs.drop (i+1)) (ys.drop (i*e+e)) d2∧c=qh d0 (qh d1 d2):=by
 have hsp:=qgD hx
 rw [hsp]at h
 obtain ⟨a,b,d1,d2,rfl,h1,h2,rfl⟩:=qak h
 obtain ⟨a',b',d3,d4,rfl,h3,h4,rfl⟩:=qak h1
 obtain ⟨y,rfl,hs,hl,ho,h5⟩:=qc8 h4
 have hla:=Zf h3
 have hi:i < xs.length:=(List.getElem?_eq_some_iff.1 hx).1
 rw [List.length_take,Nat.min_eq_left (Nat.le_of_lt hi)]at hla
 have hy:y.cells.toList.length=e:=by simpa using hs
 have e1:(a'++y.cells.toList++b).take (i*e)=a':=by rw [List.append_assoc, ← hla,List.take_left]
 have e2:(a'++y.cells.toList++b).drop (i*e+e)=b:=by
  rw [show i*e+e=(a'++y.cells.toList).length by simp only [List.length_append,hla,hy],List.drop_left]
 refine ⟨y,d3,d4,d2, ?_,hs,hl,ho,by rw [e1];exact h3,h5,by rw [e2];exact h2,xc _ _ _⟩
 rw [List.append_assoc, ← hla,List.drop_left, ← hy,List.take_left]
theorem qjw {E:Env} {e:Nat} {xs:List V} {p q:List Value} {d0 d1 d2:Cnt} {i:Nat} {x x':V} {y':Value} (hx:xs[i]? =some x)
 (h0:qn E e (xs.take i) p d0) (hs:y'.cells.size=e) (hl:x'.cells.length=e) (ho:yy y'.cells.toList) (h1:Rel E x' y' d1) (h2:qn E e (xs.drop (i+1)) q d2):
 qn E e (xs.set i x') (p++y'.cells.toList++q) (qh (qh d0 d1) d2):=by
 rw [qjP hx]
 exact YL (YL h0 (qaj hs hl ho h1)) h2
theorem qpJ {x z x':V} {off:Nat} (h:Z2 x off z=some x'):
 x'.cells=x.cells.take off++z.cells++x.cells.drop (off+z.cells.length)∧off+z.cells.length≤x.cells.length∧x'.cells.length=x.cells.length:=by
 unfold Z2 at h
 split at h
 ·rename_i hh
  obtain ⟨rfl,hl⟩:=hh
  simp only [Option.some.injEq]at h;subst h
  refine ⟨?_,by omega,hl⟩
  simp [List.drop_eq_nil_of_le (Nat.le_of_eq hl.symm)]
 ·split at h
  ·rename_i hle
   simp only [Option.some.injEq]at h;subst h
   refine ⟨rfl,hle, ?_⟩
   show (x.cells.take off++z.cells++x.cells.drop (off+z.cells.length)).length=_
   simp only [List.length_append,List.length_take,List.length_drop];omega
  ·cases h
theorem qoS {E:Env} {x z x':V} {vz:Value} {ys:List Value} {off:Nat} {d0 dz d2:Cnt} (h:Z2 x off z=some x') (hz:Rel E z vz dz) (hzl:z.cells.length=vz.cells.size)
 (h0:qk E (x.cells.take off) (ys.take off) d0) (h2:qk E (x.cells.drop (off+z.cells.length)) (ys.drop (off+z.cells.length)) d2):
 ∃ y' c',y'.cells.toList=zn ys off vz.cells.toList∧Rel E x' y' c'∧cle c' (qh d0 (qh dz d2)):=by
 unfold Z2 at h
 split at h
 ·rename_i hh
  obtain ⟨rfl,hl⟩:=hh
  simp only [Option.some.injEq]at h;subst h
  refine ⟨vz,dz, ?_,hz,fun b=>by simp only [qh];omega⟩
  have hn:(ys.drop (0+z.cells.length)).length=0:=by rw [xM h2,List.length_drop];omega
  simp only [zn,List.take_zero,List.nil_append,Array.length_toList]
  rw [← hzl,List.length_eq_zero_iff.1 hn,List.append_nil]
 ·split at h
  ·simp only [Option.some.injEq]at h;subst h
   have hc:=qal hz hzl
   have:=jV (jV h0 hc) h2
   refine ⟨.agg (ys.take off++vz.cells.toList++ys.drop (off+z.cells.length)).toArray,_, ?_,qc9 this, ?_⟩
   ·simp only [Value.cells,zn,Array.length_toList,hzl]
   ·intro b;simp only [qh];omega
  ·cases h
theorem qnc {E:Env} {x:V} {y:Value} {cx:Cnt} {agg:Bool} {n off:Nat} {z:V} (hx:Rel E x y cx) (hl:x.cells.length=y.cells.size) (ho:yy y.cells.toList)
 (hz:zh agg n x off=some z):
 ∃ vz d0 d1 d2,Rel E z vz d1∧z.cells.length=vz.cells.size∧off+z.cells.length≤x.cells.length∧vz.cells.toList=(y.cells.toList.drop off).take z.cells.length∧
  qk E (x.cells.take off) (y.cells.toList.take off) d0∧qk E (x.cells.drop (off+z.cells.length)) (y.cells.toList.drop (off+z.cells.length)) d2∧cx=qh d0 (qh d1 d2)∧
  (agg=true→z.cells.length=n∧vz= .agg ((y.cells.toList.drop off).take n).toArray)∧(agg=false→y.cells[off]? =some vz):=by
 have hc:=qal hx hl
 unfold zh at hz
 cases agg with
 |true=>
  simp only [if_true]at hz
  split at hz
  ·rename_i hh
   obtain ⟨rfl,hn,hA⟩:=hh
   simp only [Option.some.injEq]at hz;subst hz
   have hlen:y.cells.toList.length=x.cells.length:=by simpa using hl.symm
   refine ⟨y,c0,cx,c0,hx,hl,by omega, ?_,by simp [qk], ?_,by rw [zo,XE],fun _=>⟨hn, ?_⟩,(fun h=>nomatch h)⟩
   ·simp only [List.drop_zero];rw [List.take_of_length_le (by omega)]
   ·rw [Nat.zero_add,List.drop_eq_nil_of_le (by omega),List.drop_eq_nil_of_le (by omega)];simp [qk]
   ·cases x with
    |a cs=>
     simp only [Rel]at hx
     obtain ⟨vs,rfl,-⟩:=hx
     simp only [Value.cells,List.drop_zero]at hlen ⊢
     rw [List.take_of_length_le (by omega)]
    |_=>simp [V.isA]at hA
  ·split at hz
   ·rename_i hle
    simp only [Option.some.injEq]at hz;subst hz
    obtain ⟨d0,d1,d2,h0,h1,h2,rfl⟩:=qc7 hc off n hle
    have hzl:(V.a ((x.cells.drop off).take n)).cells.length=n:=by
     show ((x.cells.drop off).take n).length=n
     simp only [List.length_take,List.length_drop];omega
    have hyl:((y.cells.toList.drop off).take n).length=n:=by
     simp only [List.length_take,List.length_drop,Array.length_toList, ← hl];omega
    refine ⟨.agg ((y.cells.toList.drop off).take n).toArray,d0,d1,d2,qc9 h1, ?_,by rw [hzl];exact hle,by rw [hzl];rfl,h0,by rw [hzl];exact h2,rfl,fun _=>⟨hzl,rfl⟩,(fun h=>nomatch h)⟩
    rw [hzl];simp only [Value.cells,List.size_toArray];exact hyl.symm
   ·cases hz
 |false=>
  simp only [Bool.false_eq_true,if_false]at hz
  have hlt:off < x.cells.length:=(List.getElem?_eq_some_iff.1 hz).1
  obtain ⟨d0,d1,d2,h0,h1,h2,rfl⟩:=qc7 hc off 1 (by omega)
  have e1:(x.cells.drop off).take 1=[z]:=by
   rw [List.take_one,List.head?_drop,hz];rfl
  rw [e1]at h1
  obtain ⟨vz,e2,h3⟩:=qc6 h1
  have h4:y.cells.toList[off]? =some vz:=by
   have:=congrArg List.head? e2
   simpa [List.head?_take,List.head?_drop]using this
  have hone:vz.oneCell=true:=ho vz (List.mem_of_getElem? h4)
  have hvz:vz.cells= #[vz]:=qh7 (by cases vz<;>simp_all [Value.oneCell,yP])
  have hzl:z.cells.length=1:=by
   cases z with
   |a cs=>simp only [Rel]at h3;obtain ⟨vs,rfl,-⟩:=h3;simp [Value.oneCell]at hone
   |_=>rfl
  refine ⟨vz,d0,d1,d2,h3,by rw [hvz,hzl];rfl,by omega,by rw [hzl,e2,hvz],h0,by rw [hzl];exact h2,rfl,(fun h=>nomatch h),fun _=>by simpa using h4⟩
theorem qBY {l:List Value} {o n:Nat}:zn l o ((l.drop o).take n)=l:=by
 unfold zn
 rw [List.append_assoc]
 by_cases h:o+n≤l.length
 ·have e:((l.drop o).take n).length=n:=by simp;omega
  rw [e, ← List.drop_drop,List.take_append_drop,List.take_append_drop]
 ·have e:(l.drop o).take n=l.drop o:=List.take_of_length_le (by simp;omega)
  have e2:l.drop (o+(l.drop o).length)=[]:=List.drop_eq_nil_of_le (by simp;omega)
  rw [e,e2,List.append_nil,List.take_append_drop]
theorem qxG(d:Nat): ∀ (xs:List V) (j:Nat),(zx d j xs).1.length=xs.length:=by intro xs;induction xs<;>intro j<;>simp_all [zx]
theorem qnO(d j:Nat) (y:V):(qX d j y).1.cells.length=y.cells.length:=by
 cases y with
 |a cs=>simp only [qX,V.cells,qxG]
 |o=>rfl
 |b=>rfl
 |f=>rfl
 |v x=>show (if zk (V.v x)then V.v x else .d).cells.length=_;split<;>rfl
 |p=>rfl
 |s=>rfl
 |q=>rfl
 |i=>rfl
 |n=>rfl
 |m=>rfl
 |w o es=>cases o<;>rfl
 |t vs=>show (if zk (V.t vs)then V.t vs else .d).cells.length=_;split<;>rfl
 |d=>rfl
theorem qmW {d:Nat}: ∀ {T:Mem} {k:Key} {ob:Ob},(∀ k ob,(k,ob) ∈ T→k.1 ≠ d)→qt (Q7 d T) k=some ob→k.1 ≠ d
 |[],k,ob,hf,h=>by simp [Q7,qt]at h
 |(u,e,xs)::r,k,ob,hf,h=>by
  simp only [Q7,qt]at h
  split at h
  ·rename_i hu;subst hu;exact hf _ _ (List.mem_cons_self)
  ·exact qmW (fun k ob hk=>hf k ob (List.mem_cons_of_mem _ hk)) h
theorem qCu {d:Nat} {st:St} {k:Key} {ob:Ob} (h:qt (zr d st).T k=some ob):k.1 ≠ d:=qmW (fun k ob hk=>qcD d hk) h
section
variable {P:Program} {N:Nat} {E:Env} {c:Cnt} {st st':St} {a:Act} {d:Nat} {call:ze}
theorem JO {E E':Env} {c c1 c':Cnt} (h:Adv E c1 E' c') (hl:cle c1 c):Adv E c E' c':=
 ⟨h.sizes,h.os,h.tape,h.output,h.size,fun b hb hc=>h.frame b hb (by have:=hl b;omega),h.sub,fun b hb=>(h.own b hb).imp (fun h=>by have:=hl b;omega) id,
  fun τ b hb=>(h.imm τ b hb).imp id (fun h=>h.imp (fun h=>by have:=hl b;omega) id)⟩
theorem QV {E E':Env} {c c':Cnt} (hw:E'.w=E.w) (hI:E'.I=E.I) (hl:cle c' c):Adv E c E' c':=by
 refine ⟨fun b n h=>by rw [hw];exact h,by rw [hw],by rw [hw],by rw [hw],by rw [hw];exact Nat.le_refl _,fun b _ _=>by rw [hw],fun τ b h=>by rw [hI];exact h,fun b h=> .inl (by have:=hl b;omega),fun τ b h=> .inl (by rw [← hI];exact h)⟩
theorem ZO {E E':Env} {c c':Cnt} (hw:E'.w=E.w) (hI:E'.I=E.I) (hl:cle c' c) (h:Good E c):Good E' c':=by
 have:=h.le hl
 exact ⟨this.one,fun τ b hb=>by rw [hw];exact this.imm τ b (by rw [← hI];exact hb),fun b hb=>by rw [hI]at*;exact this.sub b hb,fun b hb=>by rw [hw];exact this.bnd b hb,this.lay.same hI hw⟩
theorem qAZ {p:Operand} {hp p':AO} {t:TypeId} {agg:Bool} {n:Nat} (h1:trO p hp=some p') (ht:j5 P t=some (agg,n))
 (hs:qj call st (.ld d agg n p')=some st') (h:FRel N E st a.tmps c) (hd:d < N):
 zY N E c st' a (some d) (Sem.run P (do pure (.value (← Instr.loadAt t (a.eval p)))) E.w):=by
 simp only [qj]at hs
 split at hs
 case h_2=>cases hs
 rename_i pv hpv
 have hp:=qK h.σ h1 hpv
 split at hs
 case h_2=>cases hs
 rename_i y hy
 split at hs
 ·
  rename_i hown
  split at hs
  case h_2=>cases hs
  rename_i y' hy'
  split at hs
  case h_2=>cases hs
  rename_i T' hT'
  simp only [Option.some.injEq]at hs;subst hs
  obtain ⟨c1,hσ1,hT1,hle1⟩:=YT d h.σ h.T
  unfold Z3 at hT'
  split at hT'
  case h_2=>cases hT'
  rename_i k idx off
  split at hT'
  case h_2=>cases hT'
  rename_i ob hg
  split at hT'
  case h_2=>cases hT'
  rename_i x hx
  split at hT'
  case h_2=>cases hT'
  rename_i x' hst
  simp only [Option.some.injEq]at hT';subst hT'
  simp only [x6,hg,hx]at hy'
  have hkd:=qCu hg
  have hp1:Rel (E.drop d) (.p k idx off) (a.eval p) c0:=by
   have:=qoQ (d:=d) hp
   simp only [qN,if_neg hkd]at this;exact this
  simp only [Rel]at hp1
  obtain ⟨-,b',base',e',kV,hμ',hpe⟩:=hp1
  obtain ⟨co,cr,hob,hrest,rfl⟩:=yH hT1 hg
  rcases hob with ⟨_,_,_,_,hn1,-⟩|⟨⟨A0,hn1⟩,-⟩|⟨b,base,lim,cells,ty,fz,ce,hμ,hw,hl,hf,hs,hr,rfl⟩
  ·rw [hn1]at hμ';cases hμ'
  ·rw [hn1]at hμ';cases hμ'
  rw [hμ]at hμ';cases hμ'
  obtain ⟨yv,d0,d1,d2,e1,hs1,hl1,ho1,hr0,hr1,hr2,rfl⟩:=qgk hr hx
  obtain ⟨vz,f0,f1,f2,hz,hzl,hzle,hzc,hz0,hz2,rfl,hzT,hzF⟩:=qnc hr1 (by rw [hl1,hs1]) ho1 hy'
  obtain ⟨E2,cO,hn,hzz,hTO,hleO⟩:=qf2 (d:=d) (j:=0) (fun i _=>Qp E d i) hz
  have hcl:=qnO d 0 y'
  have hidx:idx < ob.2.length:=(List.getElem?_eq_some_iff.1 hx).1
  have hm:idx*ob.1+ob.1≤ob.2.length*ob.1:=by rw [← Nat.succ_mul];exact Nat.mul_le_mul_right _ hidx
  have e2:seg cells (base'+idx*ob.1) ob.1=yv.cells.toList:=by rw [← e1,QC hm]
  obtain ⟨y2,cx,hy2,hx2,hlx⟩:=qoS (E:=E2) hst hzz (by rw [hcl];exact hzl) (x9 hz0 (hn.mono _)) (by rw [hcl];exact x9 hz2 (hn.mono _))
  have hy2':y2.cells.toList=yv.cells.toList:=by rw [hy2,hzc];exact qBY
  have hx'l:=(qpJ hst).2.2
  have hR:=qjw hx (yN hr0 (hn.mono _)) (by rw [← Array.length_toList,hy2',Array.length_toList];exact hs1) (by rw [hx'l];exact hl1) (by rw [hy2'];exact ho1) hx2 (yN hr2 (hn.mono _))
  have hseg:(seg cells base' (ob.2.length*ob.1)).take (idx*ob.1)++y2.cells.toList++(seg cells base' (ob.2.length*ob.1)).drop (idx*ob.1+ob.1)=seg cells base' (ob.2.length*ob.1):=by
   rw [hy2', ← e1,List.append_assoc, ← List.drop_drop,List.take_append_drop,List.take_append_drop]
  rw [hseg]at hR
  have hO:xQ E2 k (ob.1,ob.2.set idx x') (qh (qA b') (qh (qh d0 cx) d2)):=
   .inr (.inr ⟨b',base',kV,cells,ty,fz,_,hn.hμ _ _ hμ,by rw [hn.hw];exact hw,hl,hf,by simpa using hs,by simpa using hR,rfl⟩)
  have hTT:qq E2 ((qX d 0 y').2.2++((k,ob.1,ob.2.set idx x')::qE (zr d st).T k)) (qh cO (qh (qh (qA b') (qh (qh d0 cx) d2)) cr)):=
   ke hTO ⟨_,_,hO,yo hrest (hn.mono _),rfl⟩
  have hcle:cle (qh cO (qh (qh (qA b') (qh (qh d0 cx) d2)) cr)) c:=by
   intro z
   have q1:=hle1 z;have q2:=hleO z;have q3:=hlx z
   simp only [qh,c0]at*;omega
  have hrun:(Instr.loadAt t (a.eval p)).run P E.w= .ok vz E.w:=by
   unfold j5 at ht
   split at ht
   case h_2=>cases ht
   rename_i dd i hu hi
   simp only [Option.some.injEq,Prod.mk.injEq]at ht
   obtain ⟨rfl,rfl⟩:=ht
   rw [hpe]
   have hrun:=qjJ (P:=P) (w:=E.w) (t:=t) (o:=base'+idx*ob.1+off) hu hi hw
   simp only [Instr.loadAt,Instr.sureAddr,Sem.run_bind,Sem.run_pure,Result.andThen_ok]
   cases hag:Yy dd with
   |true=>
    obtain ⟨q1,q2⟩:=hzT hag
    have hlen:(seg cells (base'+idx*ob.1) ob.1).length=ob.1:=by rw [e2];simpa using hs1
    simp only [seg,List.length_take,List.length_drop,Array.length_toList]at hlen
    rcases Nat.eq_zero_or_pos i.size with h0|h0
    ·rw [q2,h0]
     simp only [loadVar,Sem.run_bind,qdd hu,hag,if_true,ZY hi,h0,loadCells,loadCellsFrom,Sem.run_pure,Result.andThen_ok]
     simp [Sem.run]
    ·rw [q2, ← e2,QC (by omega)]
     exact hrun.1 hag (by omega)
   |false=>
    have q1:=hzF hag
    have h8:(seg cells (base'+idx*ob.1) ob.1)[off]? =some vz:=by rw [e2];simpa using q1
    exact hrun.2 hag vz (by simpa [Nat.add_assoc]using Z0 h8)
  simp only [Sem.run_bind,hrun,Result.andThen_ok,Sem.run_pure]
  refine ⟨E2,_,hn.hw,ZP hn.hout,⟨by simpa [Act.put]using h.sz, ?_,hTT,ZO hn.hw hn.hI hcle (h.g.drop d)⟩,(QV (E:=E) hn.hw hn.hI hcle)⟩
  exact X0 (jc hσ1 (hn.mono _)) hzz (by rw [h.sz];exact hd)
 ·rename_i hz0
  simp only [Bool.not_eq_true,Bool.not_eq_false']at hz0
  simp only [Option.some.injEq]at hs;subst hs
  obtain ⟨b,base,e,idx,off,xs,x,cells,ty,fz,cr,hpe,hw,hx,hz,hr⟩:=qnd h.T hp hy
  obtain ⟨v,hrun,hv⟩:=qpf (P:=P) (t:=t) hw hx hz hr ht (by simpa using hz0)
  rw [hpe]
  simp only [Sem.run_bind,hrun,Result.andThen_ok,Sem.run_pure]
  exact (zE h hd hv).to1 h
theorem qA0 {p:Operand} {hp p':AO} {t:TypeId} {agg:Bool} {n:Nat} (h1:trO p hp=some p') (ht:j5 P t=some (agg,n))
 (hs:qj call st (.ldq d agg n p')=some st') (h:FRel N E st a.tmps c) (hd:d < N):
 qO N E st st' (some d) (Sem.run P (do pure (.value (← Instr.loadAt t (a.eval p)))) E.w):=by
 simp only [qj]at hs
 split at hs
 case h_2=>cases hs
 rename_i pv hpv
 have hp:=qK h.σ h1 hpv
 split at hs
 case h_2=>cases hs
 rename_i y hy
 split at hs
 case isFalse=>cases hs
 rename_i hz0
 simp only [Option.some.injEq]at hs;subst hs
 obtain ⟨b,base,e,idx,off,xs,x,cells,ty,fz,cr,hpe,hw,hx,hz,hr⟩:=qnd h.T hp hy
 obtain ⟨v,hrun,hv⟩:=qpf (P:=P) (t:=t) hw hx hz hr ht hz0
 rw [hpe]
 simp only [Sem.run_bind,hrun,Result.andThen_ok,Sem.run_pure]
 exact zE h hd hv
end
end Go.Vm
namespace Go.Vm
variable [Lay]
theorem qpF {l:List Value} {o:Nat} {vs:List Value} (h:o+vs.length≤l.length) (j:Nat):
 (zn l o vs)[j]? =if j < o then l[j]? else if j < o+vs.length then vs[j - o]? else l[j]? :=by
 have hl:(l.take o).length=o:=by simp;omega
 unfold zn
 split
 ·rename_i h1
  rw [List.append_assoc,List.getElem?_append_left (by omega),List.getElem?_take,if_pos h1]
 ·rename_i h1
  rw [List.append_assoc,List.getElem?_append_right (by omega),hl]
  split
  ·rw [List.getElem?_append_left (by omega)]
  ·rw [List.getElem?_append_right (by omega),List.getElem?_drop]
   congr 1;omega
theorem qpq {cells cells':Array Value} {base n o:Nat} {vs:List Value} (h:cells'.toList=zn cells.toList (base+o) vs) (hn:o+vs.length≤n) (hb:base+n≤cells.size):
 seg cells' base n=zn (seg cells base n) o vs:=by
 have hl:(seg cells base n).length=n:=qas hb
 have hsz:cells.toList.length=cells.size:=Array.length_toList
 have hc:base+o+vs.length≤cells.toList.length:=by omega
 apply List.ext_getElem?
 intro j
 rw [qpF (by rw [hl];exact hn)]
 simp only [seg,List.getElem?_take,List.getElem?_drop,h]
 rw [qpF hc]
 by_cases hj:j < n
 ·simp only [if_pos hj]
  by_cases h1:j < o
  ·rw [if_pos h1,if_pos (by omega)]
  ·rw [if_neg h1,if_neg (by omega)]
   by_cases h2:j < o+vs.length
   ·rw [if_pos h2,if_pos (by omega)];congr 1;omega
   ·rw [if_neg h2,if_neg (by omega)]
 ·simp only [if_neg hj]
  rw [if_neg (by omega),if_neg (by omega)]
theorem qBW {A B C vs:List Value} {off:Nat} (h:off+vs.length≤B.length):zn (A++(B++C)) (A.length+off) vs=A++zn B off vs++C:=by
 have e1:(A++(B++C)).take (A.length+off)=A++B.take off:=by
  rw [List.take_append,List.take_of_length_le (by omega),Nat.add_sub_cancel_left,List.take_append_of_le_length (by omega)]
 have e2:(A++(B++C)).drop (A.length+off+vs.length)=B.drop (off+vs.length)++C:=by
  rw [Nat.add_assoc,List.drop_length_add_append,List.drop_append_of_le_length (by omega)]
 simp only [zn,e1,e2,List.append_assoc]
theorem qBX {L:List Value} {i e off:Nat} {vs:List Value} (h:off+vs.length≤e) (hL:i*e+e≤L.length):
 zn L (i*e+off) vs=L.take (i*e)++zn ((L.drop (i*e)).take e) off vs++L.drop (i*e+e):=by
 have h1:((L.drop (i*e)).take e).length=e:=by simp;omega
 have h2:(L.take (i*e)).length=i*e:=by simp;omega
 have h3:L=L.take (i*e)++((L.drop (i*e)).take e++L.drop (i*e+e)):=by rw [← List.drop_drop,List.take_append_drop,List.take_append_drop]
 have:=qBW (A:=L.take (i*e)) (B:=(L.drop (i*e)).take e) (C:=L.drop (i*e+e)) (vs:=vs) (off:=off) (by omega)
 rw [← h3,h2]at this
 exact this
section
variable {P:Program} {N:Nat} {E:Env} {c:Cnt} {st st':St} {a:Act} {d:Nat} {call:ze}
theorem qBf {p x:Operand} {hp hx p' x':AO} {t:TypeId} {n:Nat} (h1:trO p hp=some p') (h2:trO x hx=some x') (ht:(P.info? t).map (·.size)=some n)
 (hs:qj call st (.st n p' x')=some st') (h:FRel N E st a.tmps c):
 zY N E c st' a none (Sem.run P (do Instr.storeAt t (a.eval p) (a.eval x);pure .skip) E.w):=by
 simp only [qj]at hs
 split at hs
 case h_2=>cases hs
 rename_i pv yv hpv hyv
 have hp:=qK h.σ h1 hpv
 have hy:=qK h.σ h2 hyv
 split at hs
 case isFalse=>cases hs
 rename_i hh
 obtain ⟨hyl,hyo⟩:=hh
 rw [Option.map_eq_some_iff]at hs
 obtain ⟨T',hT',rfl⟩:=hs
 obtain ⟨hyls,hyon⟩:=qgn hy hyo
 unfold Z3 at hT'
 split at hT'
 case h_2=>cases hT'
 rename_i k idx off
 split at hT'
 case h_2=>cases hT'
 rename_i ob hg
 split at hT'
 case h_2=>cases hT'
 rename_i xe hx
 split at hT'
 case h_2=>cases hT'
 rename_i x'' hst
 simp only [Option.some.injEq]at hT';subst hT'
 simp only [Rel]at hp
 obtain ⟨-,b',base',e',kV,hμ',hpe⟩:=hp
 obtain ⟨co,cr,hob,hrest,rfl⟩:=yH h.T hg
 rcases hob with ⟨_,_,_,_,hn1,-⟩|⟨⟨A0,hn1⟩,-⟩|⟨b,base,lim,cells,ty,fz,ce,hμ,hw,hl,hf,hsz,hr,rfl⟩
 ·rw [hn1]at hμ';cases hμ'
 ·rw [hn1]at hμ';cases hμ'
 rw [hμ]at hμ';cases hμ'
 obtain ⟨v,d0,d1,d2,e1,hs1,hl1,ho1,hr0,hr1,hr2,rfl⟩:=qgk hr hx
 have hxl:=qal hr1 (by rw [hl1,hs1])
 obtain ⟨hsc,hsle,hsl⟩:=qpJ hst
 obtain ⟨f0,f1,f2,g0,g1,g2,rfl⟩:=qc7 hxl off yv.cells.length hsle
 have hidx:idx < ob.2.length:=(List.getElem?_eq_some_iff.1 hx).1
 have hm:idx*ob.1+ob.1≤ob.2.length*ob.1:=by rw [← Nat.succ_mul];exact Nat.mul_le_mul_right _ hidx
 have hvl:(a.eval x).cells.toList.length=yv.cells.length:=(Array.length_toList).trans hyls.symm
 have hcl:cells.toList.length=cells.size:=Array.length_toList
 have hrun:=qjK (P:=P) (b:=b') (o:=base'+idx*ob.1+off) (a.eval x).cells.toList 0 E.w cells hw hf (by rw [hvl];omega) hyon
 obtain ⟨w',cells',hrun,hW,hc'⟩:=hrun
 rw [Nat.add_zero]at hc'
 have hpresent:Instr.storeAt t (a.eval p) (a.eval x)=storeVar t ⟨b',base'+idx*ob.1+off,none⟩ (a.eval x):=by rw [hpe];rfl
 have hrun':(Instr.storeAt t (a.eval p) (a.eval x)).run P E.w= .ok () w':=by
  rw [hpresent]
  rw [Option.map_eq_some_iff]at ht
  obtain ⟨i,hi,hin⟩:=ht
  simp only [storeVar,Sem.run_bind,ZY hi,Result.andThen_ok]
  rw [if_neg (by rw [hin, ← hyl,hyls];simp)]
  exact hrun
 have hg:=h.g
 have hg':Good E (qh (qh (qA b') (qh d0 (qh (qh f0 (qh f1 f2)) d2))) cr):=hg
 obtain ⟨hmono,hσ',hgood,hadv⟩:=qip (N:=N) (T':=[]) h.σ hg' hW
 have hnewcells:cells'.size=cells.size:=by
  rw [← Array.length_toList,hc',qgC (by omega),hcl]
 have m1: ∀ x:Cnt,cle x (qh d0 (qh (qh f0 (qh f1 f2)) d2))→Mono E {E with w:=w'} x:=fun x hx=>hmono x (yZ hx (YC _ _))
 have hy0:Rel {E with w:=w'} yv (a.eval x) c0:=y7 hy (m1 c0 (qfz _))
 obtain ⟨y2,cx,hy2,hx2,hlx⟩:=qoS (E:={E with w:=w'}) hst hy0 hyls (x9 g0 (m1 f0 fun z=>by simp only [qh];omega)) (x9 g2 (m1 f2 fun z=>by simp only [qh];omega))
 have e2:seg cells (base'+idx*ob.1) ob.1=v.cells.toList:=by rw [← e1,QC hm]
 have hv:v.cells.toList.length=ob.1:=by rw [Array.length_toList];exact hs1
 have hones:yy y2.cells.toList:=by
  rw [hy2]
  intro z hz
  simp only [zn,List.mem_append]at hz
  rcases hz with (hz|hz)|hz
  ·exact ho1 z (List.mem_of_mem_take hz)
  ·exact hyon z hz
  ·exact ho1 z (List.mem_of_mem_drop hz)
 have hy2l:y2.cells.size=ob.1:=by rw [← Array.length_toList,hy2,qgC (by rw [hvl,hv];omega),hv]
 have hR:=qjw hx (yN hr0 (m1 d0 fun z=>by simp only [qh];omega)) hy2l (by rw [hsl];exact hl1) hones hx2 (yN hr2 (m1 d2 fun z=>by simp only [qh];omega))
 have hlenS:(seg cells base' (ob.2.length*ob.1)).length=ob.2.length*ob.1:=qas (by omega)
 have hseg:(seg cells base' (ob.2.length*ob.1)).take (idx*ob.1)++y2.cells.toList++(seg cells base' (ob.2.length*ob.1)).drop (idx*ob.1+ob.1)=seg cells' base' (ob.2.length*ob.1):=by
  have q:=qpq (cells:=cells) (cells':=cells') (base:=base') (n:=ob.2.length*ob.1) (o:=idx*ob.1+off) (vs:=(a.eval x).cells.toList) (by rw [hc',Nat.add_assoc]) (by omega) (by omega)
  have q2:=qBX (L:=seg cells base' (ob.2.length*ob.1)) (i:=idx) (e:=ob.1) (off:=off) (vs:=(a.eval x).cells.toList) (by omega) (by rw [hlenS];exact hm)
  rw [q,q2,e1,hy2]
 rw [hseg]at hR
 simp only [Sem.run_bind,hrun',Result.andThen_ok,Sem.run_pure]
 refine ⟨{E with w:=w'},qh (qh (qA b') (qh (qh d0 cx) d2)) cr,rfl,yX.refl,⟨by simpa [Act.put]using h.sz, ?_, ?_, ?_⟩, ?_⟩
 ·simpa [Act.put]using hσ'
 ·refine ⟨_,cr,.inr (.inr ⟨b',base',kV,cells',ty,fz,_,hμ,(hW.self _ _ _ hw).1,by omega,by rw [hnewcells];exact hf,by simpa using hsz,by simpa using hR,rfl⟩),yo hrest (hmono cr (xJ _ _)),rfl⟩
 ·exact hgood.le fun z=>by have:=hlx z;simp only [qh,c0]at*;omega
 ·exact hadv.le fun z=>by have:=hlx z;simp only [qh,c0]at*;omega
theorem qBa {o:Oper} {x:Operand} {hx x':AO} (ho:o.op= .nilCheck x) (h1:trO x hx=some x') (hs:qj call st (.nilc d x')=some st') (h:FRel N E st a.tmps c) (hd:d < N):
 qO N E st st' (some d) ((execOp a.eval o).run P E.w):=by
 simp only [qj]at hs
 split at hs
 ·rename_i hy
  have hr:=qK h.σ h1 hy
  simp only [Option.some.injEq]at hs;subst hs
  have hr':=hr
  simp only [Rel]at hr'
  obtain ⟨-,b,base,e,lim,-,he⟩:=hr'
  have key:(execOp a.eval o).run P E.w= .ok (.value (a.eval x)) E.w:=by simp [execOp,ho,he]
  rw [key];exact zE h hd hr
 ·rename_i hy
  have hr:=qK h.σ h1 hy
  simp only [Option.some.injEq]at hs;subst hs
  have hr':=hr
  simp only [Rel]at hr'
  obtain ⟨-,b,base,e,cells,T,fz,-,-,he,-⟩:=hr'
  have key:(execOp a.eval o).run P E.w= .ok (.value (a.eval x)) E.w:=by simp [execOp,ho,he]
  rw [key];exact zE h hd hr
 ·rename_i hy
  have hr:=qK h.σ h1 hy
  simp only [Option.some.injEq]at hs;subst hs
  have hr':=hr
  simp only [Rel]at hr'
  obtain ⟨fs,cs,c1,c2,he,-⟩:=hr'
  have key:(execOp a.eval o).run P E.w= .ok (.value (a.eval x)) E.w:=by simp [execOp,ho,he]
  rw [key];exact zE h hd hr
 ·cases hs
theorem qAT {x:Operand} {hx x':AO} {s:TypeId} {f:Nat} {fl:Field} {n:Nat} (h1:trO x hx=some x') (hf:J1 P s f=some fl) (hn:(P.info? fl.type).map (·.size)=some n) (hn0:n ≠ 0)
 (hs:qj call st (.fa d x' fl.offset)=some st') (h:FRel N E st a.tmps c) (hd:d < N):
 qO N E st st' (some d) (Sem.run P (do pure (.value (← Instr.fieldAt s (a.eval x) f))) E.w):=by
 have hrun: ∀ b o,a.eval x= .pointer (some ⟨b,o,none⟩)→Sem.run P (do pure (.value (← Instr.fieldAt s (a.eval x) f)):Sem Next) E.w= .ok (.value (.pointer (some ⟨b,o+fl.offset,none⟩))) E.w:=by
  intro b o he
  unfold J1 at hf
  split at hf
  ·rename_i fs hu
   rw [Option.map_eq_some_iff]at hn
   obtain ⟨i,hi,hin⟩:=hn
   simp only [he,Instr.fieldAt,Sem.run_bind,zX hu,Result.andThen_ok,hf,Instr.sureAddr,Sem.run_pure,fieldPlace,ZY hi,hin]
   rw [if_neg (by simpa [hin]using hn0)]
   simp [ji]
  ·cases hf
 simp only [qj]at hs
 split at hs
 ·rename_i k idx o hx
  simp only [Option.some.injEq]at hs;subst hs
  have hr:=qK h.σ h1 hx
  simp only [Rel]at hr
  obtain ⟨-,b,base,e,lim,hμ,he⟩:=hr
  rw [hrun _ _ he]
  refine zE h hd ?_
  simp only [Rel];exact ⟨by trivial,b,base,e,lim,hμ,by simp [Nat.add_assoc]⟩
 ·rename_i τ xs idx o hx
  simp only [Option.some.injEq]at hs;subst hs
  have hr:=qK h.σ h1 hx
  simp only [Rel]at hr
  obtain ⟨-,b,base,e,cells,T,fz,hI,hw,he,hR⟩:=hr
  rw [hrun _ _ he]
  refine zE h hd ?_
  simp only [Rel];exact ⟨by trivial,b,base,e,cells,T,fz,hI,hw,by simp [Nat.add_assoc],hR⟩
 ·cases hs
theorem qAW {x i:Operand} {hx hi x' i':AO} {t et:TypeId} {ei:TypeInfo} (h1:trO x hx=some x') (h2:trO i hi=some i') (ht:slT P t=some (et,ei))
 (hs:qj call st (.ia d ei.size x' i')=some st') (h:FRel N E st a.tmps c) (hd:d < N):
 qO N E st st' (some d) (Sem.run P (do pure (.value (← Instr.indexAt t (a.eval x) (a.eval i)))) E.w):=by
 simp only [qj]at hs
 split at hs
 case h_2=>cases hs
 rename_i xv k iv hxv hiv
 have hrx:=qK h.σ h1 hxv
 have hri:=qK h.σ h2 hiv
 simp only [Rel]at hri
 rw [Option.map_eq_some_iff]at hs
 obtain ⟨z,hz,rfl⟩:=hs
 unfold slT at ht
 split at ht
 case h_2=>cases ht
 rename_i e hu
 rw [Option.map_eq_some_iff]at ht
 obtain ⟨ei',hei,heq⟩:=ht
 simp only [Prod.mk.injEq]at heq
 obtain ⟨rfl,rfl⟩:=heq
 have hrun: ∀ A len cap,a.eval x= .slice (some A) len cap→0≤iv→iv < len→Sem.run P (do pure (.value (← Instr.indexAt t (a.eval x) (a.eval i))):Sem Next) E.w= .ok (.value (.pointer (some (A.add (iv.toNat*ei'.size))))) E.w:=by
  intro A len cap he h0 h1
  simp only [he,hri.1,Instr.indexAt,asIntOf,Sem.run_bind,Sem.run_pure,Result.andThen_ok,zX hu]
  rw [if_pos ⟨h0,h1⟩]
  simp [ZY hei]
 unfold jj at hz
 split at hz
 ·rename_i k lo len
  split at hz
  case h_2=>cases hz
  rename_i ob hg
  split at hz
  case isFalse=>cases hz
  rename_i hh
  obtain ⟨he,hle⟩:=hh
  rw [Option.map_eq_some_iff]at hz
  obtain ⟨j,hj,rfl⟩:=hz
  unfold yj at hj
  split at hj
  case isFalse=>cases hj
  rename_i hb
  simp only [Option.some.injEq]at hj;subst hj
  simp only [Rel]at hrx
  obtain ⟨-,⟨A0,-,-,h0,-⟩|⟨b,base,e',lim,cap,A,hμ,hcap,hroom,hpos,hA,hv⟩⟩:=hrx
  ·subst h0;omega
  ·rw [hrun _ _ _ hv hb.1 hb.2]
   obtain ⟨c1,c2,ho,-,-⟩:=yH h.T hg
   have hee:e'=ei'.size:=by
    rcases ho with ⟨_,_,_,_,q1,-⟩|⟨⟨A0,q1⟩,-⟩|⟨b2,base2,lim2,cells,T,fz,c3,q1,-⟩
    ·rw [q1]at hμ;cases hμ
    ·rw [q1]at hμ;cases hμ
    ·rw [q1]at hμ;cases hμ;exact he
   have hA':A=⟨b,base+lo*e',none⟩:=by
    rcases hA with hA|hA
    ·omega
    ·exact hA
   refine zE h hd ?_
   rw [hA',ji]
   simp only [Rel]
   refine ⟨by trivial,b,base,e',lim,hμ, ?_⟩
   rw [hee,Nat.add_zero,Nat.add_mul];simp only [Nat.add_assoc]
 ·rename_i τ xs
  split at hz
  case h_2=>cases hz
  rename_i j hj
  split at hz
  case isFalse=>cases hz
  rename_i hcl
  simp only [Option.some.injEq]at hz;subst hz
  unfold yj at hj
  split at hj
  case isFalse=>cases hj
  rename_i hb
  simp only [Option.some.injEq]at hj;subst hj
  simp only [Rel]at hrx
  obtain ⟨-,A,cap,hv,hcap,hR⟩:=hrx
  rcases hR with hR|⟨b,base,e',cells,T,fz,rfl,hI,hw,hR⟩
  ·subst hR;simp only [List.length_nil]at hb;omega
  ·have hjl:iv.toNat < xs.length:=by omega
   rw [hrun _ _ _ hv hb.1 hb.2]
   obtain ⟨y,-,-,-,-,-,hl,-⟩:=qgk hR (List.getElem?_eq_getElem hjl)
   have hee:e'=ei'.size:=by rw [← hl, ← hcl,List.getElem?_eq_getElem hjl];rfl
   refine zE h hd ?_
   rw [ji]
   simp only [Rel]
   exact ⟨by trivial,b,base,e',cells,T,fz,hI,hw,by rw [hee,Nat.add_zero],hR⟩
 ·cases hz
end
end Go.Vm
