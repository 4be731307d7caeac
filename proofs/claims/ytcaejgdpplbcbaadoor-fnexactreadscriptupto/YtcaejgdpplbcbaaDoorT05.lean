import Derived.Test.YtcaejgdpplbcbaaDoorT03
import Derived.Test.YtcaejgdpplbcbaaDoorT04
import Derived.Lib.ItoaNum
import Derived.Lib.Split
import Derived.Lib.TrimByte
import Derived.Lib.SplitLaws
import Derived.Lib.IndexBytes
import Derived.Shelf.Strings.SplitShaped
import Derived.Shelf.Strings.Trim
import Derived.Test.YtcaejgdpplbcbaaDoorProg
import Derived.KernelRfl
open Nat renaming reduceAdd → qa, reduceSub → qb, reduceMul → qc, reduceEqDiff → qd, reduceLeDiff → qe, reduceBEq → qf
set_option autoImplicit false
set_option maxRecDepth 100000
set_option linter.unusedSimpArgs false
set_option linter.unusedVariables false
namespace Go.Vm
end Go.Vm
namespace Go.Vm
end Go.Vm
namespace Go.Vm
theorem kX {α:Type} {f:α→V} {l:List α} {i:Nat} {x:α} (h:l[i]? =some x):(l.map f)[i]? =some (f x):=by simp [h]
end Go.Vm
namespace Go.Vm
end Go.Vm
namespace Go.Vm
def qbD(n:Int):Nat→List Int→Int
 |_,[]=> -1
 |i,x::xs=>if n=x then (i:Int)else qbD n (i+1) xs
end Go.Vm
namespace Go.Vm
mutual
def Zs(l:List Int):Tm→List Int
 | .mk k _ n ks=>Zt (if k=1∧n ∉ l then l++[n]else l) ks
def Zt(l:List Int):List Tm→List Int
 |[]=>l
 |t::ts=>Zt (Zs l t) ts
end
def qi5(t:Tm):List Int:=Zs [] t
mutual
theorem qeh: ∀ (t:Tm) (l:List Int),(Zs l t).length≤l.length+nT t
 | .mk k s n ks,l=>by
   simp only [Zs,nT]
   have:=qaw ks (if k=1∧n ∉ l then l++[n]else l)
   have h2:(if k=1∧n ∉ l then l++[n]else l).length≤l.length+1:=by split<;>simp
   omega
theorem qaw: ∀ (ts:List Tm) (l:List Int),(Zt l ts).length≤l.length+nTs ts
 |[],l=>by simp [Zt,nTs]
 |t::ts,l=>by
  simp only [Zt,nTs]
  have:=qeh t l
  have:=qaw ts (Zs l t)
  omega
end
end Go.Vm
namespace Go.Vm
def qmr(caps:List V):Prop:= ∀ c ∈ caps,∃ xs i o,c= .q true xs i o
@[go_sem] theorem qyS {α β:Type} {f:α→β} {g:β→V} {l:List α}:((l.map f).map g).take l.length=(l.map f).map g:=by
 apply List.take_of_length_le;simp
mutual
def rnm(φ:Int→Int):Tm→Tm
 | .mk k s n ks=> .mk k s (if k=1 then φ n else n) (qdq φ ks)
def qdq(φ:Int→Int):List Tm→List Tm
 |[]=>[]
 |t::ts=>rnm φ t::qdq φ ts
end
end Go.Vm
namespace Go.Vm
def qe6(fr:Int) (l:List Int):Int→Int:=fun n=>w64 (fr+qbD n 0 l)
def qeD(c:Cl):Tm:= .mk 4 [58,45] 0 [c.head,c.body]
def qgG(φ:Int→Int) (c:Cl):Cl:=⟨rnm φ c.head,rnm φ c.body,c.file⟩
def quq(c:Cl):Cl:=qgG (qe6 0 (qi5 (qeD c))) c
end Go.Vm
namespace Go.Vm
end Go.Vm
namespace Go.Vm
end Go.Vm
namespace Go.Vm
theorem qgm(x lo hi:Int):cr qp js [I x,I lo,I hi]=some (B (decide (lo≤x∧x≤hi))):=by
 rw [zp qhe rfl]
 by_cases h1:lo≤x<;>by_cases h2:x≤hi<;>simp only [go_sem,qa,qb,qc,qd,qe,qf,reduceCtorEq,jX,h1,h2]
theorem qi8(x lo hi:Int):cr qp kM [I x,I lo,I hi]=some (B (decide (lo≤x∧x≤hi))):=by
 rw [zp qg5 rfl]
 by_cases h1:lo≤x<;>by_cases h2:x≤hi<;>simp only [go_sem,qa,qb,qc,qd,qe,qf,reduceCtorEq,jU,h1,h2]
def qgN(c:UInt8):Bool:=decide (33≤c.toNat∧c.toNat≤126∧c.toNat ≠ 39∧c.toNat ≠ 34)
def qgO(s:Str):Bool:=s.all qgN
def qb5(s:Str):Bool:=qgO s&&decide (1≤s.length∧s.length≤20)
end Go.Vm
namespace Go.Vm
def qgP(t:Tm):Bool:=
 if t.kind=1 then decide (0≤t.num∧t.num≤99999)&&(decide (t.name=[])&&decide ((t.kids.length:Int)=0))
 else if t.kind=2 then qb5 t.name&&(decide (t.num=0)&&decide ((t.kids.length:Int)=0))
 else if t.kind=3 then decide (-999999999≤t.num∧t.num≤999999999)&&(decide (t.name=[])&&decide ((t.kids.length:Int)=0))
 else if t.kind=4 then qb5 t.name&&(decide (t.num=0)&&decide (1≤(t.kids.length:Int)∧(t.kids.length:Int)≤5))
 else false
mutual
def JA:Int→Tm→Bool
 |d,.mk k s n ks=>decide (d≤40)&&(qgP (.mk k s n ks)&&qdp (d+1) ks)
def qdp:Int→List Tm→Bool
 |_,[]=>true
 |d,t::ts=>JA d t&&qdp d ts
end
def qyV(t:Tm):Bool:=decide (nT t≤400)&&JA 1 t
mutual
def Qa:Tm→Int→Int
 | .mk _ _ _ ks,r=>jz ks (r - 1)
def jz:List Tm→Int→Int
 |[],r=>r
 |t::ts,r=>if 0≤r then jz ts (Qa t r)else r
end
mutual
theorem qeH: ∀ (t:Tm) (r:Int),0≤r→(nT t≤r→Qa t r=r - nT t)∧(¬ (nT t:Int)≤r→Qa t r < 0∧ -1≤Qa t r)
 | .mk k s n ks,r,h=>by
   have:=Kw ks (r - 1) (by omega)
   simp only [Qa,nT]
   refine ⟨fun h1=> ?_,fun h1=> ?_⟩
   ·rw [this.1 (by omega)];omega
   ·exact this.2 (by omega)
theorem Kw: ∀ (ts:List Tm) (r:Int),-1≤r→(nTs ts≤r→jz ts r=r - nTs ts)∧(¬ (nTs ts:Int)≤r→jz ts r < 0∧ -1≤jz ts r)
 |[],r,h=>by simp only [jz,nTs];omega
 |t::ts,r,h=>by
  simp only [jz,nTs]
  by_cases h0:0≤r
  ·rw [if_pos h0]
   have h1:=qeH t r h0
   have hp:=qb4 t
   by_cases h2:(nT t:Int)≤r
   ·rw [h1.1 h2]
    have h3:=Kw ts (r - nT t) (by omega)
    refine ⟨fun h4=> ?_,fun h4=> ?_⟩
    ·rw [h3.1 (by omega)];omega
    ·exact h3.2 (by omega)
   ·have h3:=h1.2 h2
    have h4:=Kw ts (Qa t r) h3.2
    refine ⟨fun h5=>by omega,fun h5=> ?_⟩
    exact h4.2 (by omega)
  ·rw [if_neg h0]
   have:=qb4 t
   omega
end
end Go.Vm
set_option maxHeartbeats 4000000
namespace Go.Vm
def szI(d:Int) (t:Tm):Int:=if JA d t=true∧nT t≤400 then nT t else 401
end Go.Vm
namespace Go.Vm
open Go.Lib (itoa decDigits)
def qqE(m:Nat):Str:=if m=0 then []else decDigits m
end Go.Vm
namespace Go.Vm
open Go.Lib (itoa decDigits)
@[go_sem] theorem qtL {n:Nat} {a:Int}:qN false n (I a) 0=some (I a):=(rfl)
@[go_sem] theorem qtN {n:Nat} {x:Str}:qN false n (S x) 0=some (S x):=(rfl)
@[go_sem] theorem qtP {n:Nat} {a:Int}:qN false n (U8 a) 0=some (U8 a):=(rfl)
def qff(n:Str):Nat→List Str→Int
 |_,[]=> -1
 |i,x::xs=>if n=x then (i:Int)else qff n (i+1) xs
def qeO:List Str:=[[116,114,117,101,47,48],[102,97,105,108,47,48],[33,47,48],[44,47,50],[59,47,50],[45,62,47,50],[92,43,47,49],[99,97,108,108,47,49],[99,97,108,108,47,50],[99,97,108,108,47,51],[99,97,116,99,104,47,51],[116,104,114,111,119,47,49],[61,47,50],[92,61,47,50],[61,61,47,50],[105,115,47,50],[60,47,50],[61,58,61,47,50],[118,97,114,47,49],[97,116,111,109,47,49],[119,114,105,116,101,47,49],[97,115,115,101,114,116,122,47,49],[114,101,116,114,97,99,116,47,49],[58,45,47,50],[58,45,47,49],[45,45,62,47,50]]
def qta(p:Str):Bool:=decide (p ∈ qeO)
def qxj(t:Tm):Str:=if t.kind=2∨t.kind=4 then t.name++[47]++itoa t.kids.length else []
end Go.Vm
namespace Go.Vm
open Go.Lib (itoa decDigits indexByte)
def qiU:Str:=[43,45,42,47,92,94,60,62,61,126,58,46,63,64,35,38,36]
def qiT(c:UInt8):Bool:=decide (c ∈ qiU)
end Go.Vm
namespace Go.Vm
def inB(lo hi:Int) (c:UInt8):Bool:=decide (lo≤(c.toNat:Int))&&decide ((c.toNat:Int)≤hi)
def isB(n:Int) (c:UInt8):Bool:=decide ((c.toNat:Int)=n)
def qfa(c:UInt8):Bool:=inB 65 90 c||isB 95 c
def qzy(c:UInt8):Bool:=inB 97 122 c||qfa c||inB 48 57 c
def qes(c:UInt8):Bool:=isB 32 c||isB 9 c||isB 10 c
theorem qgn(c:UInt8):cr qp Kg [U8 c.toNat]=some (B (inB 97 122 c)):=by
 rw [zp qhf rfl]
 unfold inB
 by_cases h1:(97:Int)≤(c.toNat:Int)
 ·rw [decide_eq_true h1,Bool.true_and]
  by_cases h2:(c.toNat:Int)≤122
  ·rw [decide_eq_true h2];simp only [go_sem,qa,qb,qc,qd,qe,qf,reduceCtorEq,kK,h1,h2]
  ·rw [decide_eq_false h2];simp only [go_sem,qa,qb,qc,qd,qe,qf,reduceCtorEq,kK,h1,h2]
 ·rw [decide_eq_false h1,Bool.false_and];simp only [go_sem,qa,qb,qc,qd,qe,qf,reduceCtorEq,kK,h1]
theorem qfj(c:UInt8):cr qp YH [U8 c.toNat]=some (B (inB 97 122 c)):=by
 rw [zp qg2 rfl]
 unfold inB
 by_cases h1:(97:Int)≤(c.toNat:Int)
 ·rw [decide_eq_true h1,Bool.true_and]
  by_cases h2:(c.toNat:Int)≤122
  ·rw [decide_eq_true h2];simp only [go_sem,qa,qb,qc,qd,qe,qf,reduceCtorEq,kH,h1,h2]
  ·rw [decide_eq_false h2];simp only [go_sem,qa,qb,qc,qd,qe,qf,reduceCtorEq,kH,h1,h2]
 ·rw [decide_eq_false h1,Bool.false_and];simp only [go_sem,qa,qb,qc,qd,qe,qf,reduceCtorEq,kH,h1]
end Go.Vm
namespace Go.Vm
def pre(p:UInt8→Bool):Str→Nat
 |[]=>0
 |c::r=>if p c=true then pre p r+1 else 0
theorem qcF(p:UInt8→Bool): ∀ s,pre p s≤s.length
 |[]=>Nat.le_refl _
 |c::r=>by have:=qcF p r;simp only [pre,List.length_cons];split<;>omega
theorem qhY(p:UInt8→Bool) (g:Nat) (hg: ∀ c,cr qp g [U8 c.toNat]=some (B (p c))) (s:Str) (hl:s.length≤2^61) (m:Nat): ∀ i,i+m=s.length→
 lw qp Zd ⟨[(0,S s),(1,I i),(2,Fc g)],[]⟩=some (.exit 0,⟨[(1,I ((i+pre p (s.drop i):Nat):Int))],[]⟩):=by
 induction m with
 |zero=>
  intro i hi
  rw [List.drop_eq_nil_of_le (by omega),qQ]
  have h: ¬ (i:Int) < s.length:=by omega
  simp only [go_sem,qa,qb,qc,qd,qe,qf,reduceCtorEq,Zl,h,pre]
 |succ m ih=>
  intro i hi
  have h:(i:Int) < s.length:=by omega
  obtain ⟨c,hc⟩:=Qj (l:=s) (i:=i) (by omega)
  have ix:=ZJ (l:=s) (i:=(i:Int)) (c:=c) (by omega) (by simpa using hc)
  have w:=hg c
  have e1:w64 ((i:Int)+1)=((i+1:Nat):Int):=by rw [zA]<;>omega
  rw [Qd hc,qQ,pre]
  cases hw:p c with
  |true=>
   rw [hw]at w
   have i1:=ih (i+1) (by omega)
   rw [if_pos rfl,show i+(pre p (s.drop (i+1))+1)=i+1+pre p (s.drop (i+1))by omega]
   simp only [go_sem,qa,qb,qc,qd,qe,qf,reduceCtorEq,Zl,h,ix,w,e1]
   exact i1
  |false=>
   rw [hw]at w
   rw [if_neg (by decide)]
   simp only [go_sem,qa,qb,qc,qd,qe,qf,reduceCtorEq,Zl,h,ix,w,e1]
theorem qh0(p:UInt8→Bool) (g:Nat) (hg: ∀ c,cr qp g [U8 c.toNat]=some (B (p c))) (s:Str) (hl:s.length≤2^61) (i:Nat) (hi:i≤s.length):cr qp X7 [S s,I i,Fc g]=some (I ((i+pre p (s.drop i):Nat):Int)):=by
 rw [zp qg4 rfl]
 have h:=qhY p g hg s hl (s.length - i) i (by omega)
 simp only [go_sem,qa,qb,qc,qd,qe,qf,reduceCtorEq,jT,h]
end Go.Vm
set_option maxHeartbeats 16000000
namespace Go.Vm
def qU:Str→Str→List Str
 |acc,[]=>if acc=[]then []else [acc]
 |acc,c::r=>if c=10 then acc::qU [] r else qU (acc++[c]) r
def zP:Str→Str→List Str
 |acc,[]=>[acc]
 |acc,c::r=>if c=10 then acc::zP [] r else zP (acc++[c]) r
theorem Xi: ∀ (s acc:Str),zP acc s ≠ []
 |[],acc=>by simp [zP]
 |c::r,acc=>by
  simp only [zP];split
  ·simp
  ·exact Xi r _
theorem KA: ∀ (s acc:Str),qU acc s=if (zP acc s).getLast (Xi s acc)=[]then (zP acc s).dropLast else zP acc s
 |[],acc=>by
  simp only [qU,zP,List.getLast_singleton,List.dropLast_singleton]
 |c::r,acc=>by
  by_cases h:c=10
  ·have h1:zP acc (c::r)=acc::zP [] r:=by simp only [zP,if_pos h]
   have h2:qU acc (c::r)=acc::qU [] r:=by simp only [qU,if_pos h]
   have ih:=KA r []
   have hn:=Xi r []
   rw [h2,ih]
   simp only [h1,List.getLast_cons hn]
   split
   ·rw [List.dropLast_cons_of_ne_nil hn]
   ·rfl
  ·have h1:zP acc (c::r)=zP (acc++[c]) r:=by simp only [zP,if_neg h]
   have h2:qU acc (c::r)=qU (acc++[c]) r:=by simp only [qU,if_neg h]
   have ih:=KA r (acc++[c])
   rw [h2,ih]
   simp only [h1]
theorem qbH(c:UInt8) (r:Str): ∀ (acc:Str),c ∉ acc→Lib.indexByte (acc++c::r) c=(acc.length:Int)
 |[],_=>by simp [Lib.indexByte]
 |b::l,h=>by
  simp only [List.mem_cons,not_or]at h
  have ih:=qbH c r l h.2
  simp only [List.cons_append,Lib.indexByte,ih,beq_iff_eq,if_neg (Ne.symm h.1)]
  rw [if_neg (by omega)];simp
theorem qbI(c:UInt8): ∀ (acc:Str),c ∉ acc→Lib.indexByte acc c= -1
 |[],_=>rfl
 |b::l,h=>by
  simp only [List.mem_cons,not_or]at h
  have ih:=qbI c l h.2
  simp [Lib.indexByte,ih,Ne.symm h.1]
theorem JK: ∀ (s acc:Str),(10:UInt8) ∉ acc→Lib.splitK [10] 0 (Lib.count (acc++s) [10]) (acc++s)=zP acc s
 |[],acc,h=>by
  have:Lib.index (acc++[]) [10]= -1:=by rw [Lib.index_one,List.append_nil];exact qbI _ _ h
  rw [Lib.count_miss this]
  simp [Lib.splitK,zP]
 |c::r,acc,h=>by
  by_cases hc:c=10
  ·subst hc
   have hi:Lib.index (acc++10::r) [10]=(acc.length:Int):=by rw [Lib.index_one];exact qbH _ r acc h
   have ih:=JK r [] (by simp)
   simp only [List.nil_append]at ih
   have hd:(acc++10::r).drop (acc.length+1)=r:=by
    rw [← List.drop_drop,List.drop_left' rfl];rfl
   rw [Lib.count_hit (by simp) hi]
   simp only [List.length_cons,List.length_nil,Nat.zero_add,hd]
   rw [Nat.add_comm 1,Lib.splitK,if_neg (by rw [hi];simp),hi]
   simp only [Int.toNat_natCast,Nat.add_zero,List.length_cons,List.length_nil,Nat.zero_add,hd,ih,zP,if_true]
   rw [List.take_left' rfl]
  ·have ih:=JK r (acc++[c]) (by simp only [List.mem_append,List.mem_singleton,not_or];exact ⟨h,fun e=>hc e.symm⟩)
   simp only [List.append_assoc,List.singleton_append]at ih
   rw [ih];simp only [zP,if_neg hc]
theorem qiN(s:Str):Lib.split s [10]=zP [] s:=JK s [] (by simp)
def zo(c:UInt8) (l:Str):Bool:=l.all fun x=>decide (x=c)
theorem KD(c:UInt8): ∀ l:Str,l.dropWhile (· ==c)=[]↔zo c l=true
 |[]=>by simp [zo]
 |b::l=>by
  have ih:=KD c l
  simp only [zo]at ih ⊢
  by_cases h:b=c
  ·simp [List.dropWhile_cons,h,ih]
  ·simp [List.dropWhile_cons,h]
theorem Kp(c:UInt8) (l:Str):zo c l.reverse=zo c l:=by simp [zo]
theorem qi2(c:UInt8) (l:Str):Lib.trimB l c=[]↔zo c l=true:=by
 unfold Lib.trimB Lib.trimLeftB Lib.trimRightB
 rw [KD,Kp]
 constructor
 ·intro h
  have: ∀ (r:Str),zo c (r.dropWhile (· ==c))=true→zo c r=true:=by
   intro r
   induction r with
   |nil=>exact id
   |cons b r ih=>
    by_cases hb:b=c
    ·subst hb;intro h;simp only [List.dropWhile_cons,beq_self_eq_true,if_true]at h;have:=ih h;simp only [zo]at this ⊢;simp [this]
    ·intro h;rw [List.dropWhile_cons,if_neg (by simpa using hb)]at h;exact h
  have:=this _ h
  rwa [Kp]at this
 ·intro h
  have h':zo c l.reverse=true:=by rw [Kp];exact h
  rw [(KD c _).2 h'];rfl
def zh(p l:Str):Option Str:=if l.take p.length=p then some (l.drop p.length)else none
def y6:Str:=[102,105,108,101,32]
def kB:Str:=[99,111,110,115,117,108,116,32]
def kA:Str:=[97,115,107,32]
def JT:Str:=[101,110,100]
def yh:List Str→Str→Option (Str × Nat)
 |[],_=>none
 |l::r,t=>if l=JT then some (t,0)else (yh r (t++(l++[10]))).map fun x=>(x.1,x.2+1)
def yb(l:Str) (r:List Str):Option (Rq × Nat):=
 match zh y6 l with
 |some nm=>(yh r []).map fun x=>(⟨3,nm,x.1⟩,x.2+1)
 |none=>match zh kB l with
  |some nm=>some (⟨1,nm,[]⟩,0)
  |none=>match zh kA l with
   |some t=>some (⟨2,[],t⟩,0)
   |none=>none
def Qm:UInt8→Bool:=inB 97 122
def xE(s:Str):Bool:=s.all Qm&&decide (1≤(s.length:Int)∧(s.length:Int)≤8)
def okR(q:Rq):Bool:=
 if q.kind=1 then xE q.name&&decide (q.text=[])
 else if q.kind=2 then decide (q.name=[])&&decide ((q.text.length:Int)≤3000)
 else if q.kind=3 then xE q.name&&decide ((q.text.length:Int)≤3000)else false
def qfc(l:Str):Bool:=match l with|[]=>false|c::_=>decide (c=35)
def kD(l:Str):Bool:=zo 32 l||qfc l
def y9:Nat→List Str→Nat→List Rq→List Rq × Int
 |0,_,_,out=>(out,0)
 |f+1,[],i,out=>(out,0)
 |f+1,l::r,i,out=>if kD l=true then y9 f r (i+1) out else match yb l r with
  |none=>([],((i+1:Nat):Int))
  |some (q,n)=>if okR q=true∧out.length ≠ 20 then y9 f (r.drop n) (i+1+n) (out++[q])else ([],((i+1:Nat):Int))
def xF(s:Str):List Rq × Int:=if 2500 < s.length then ([],-1)else y9 (s.length+2) (qU [] s) 0 []
theorem ZL: ∀ (s acc:Str),(qU acc s).length≤s.length+1
 |[],acc=>by simp only [qU];split<;>simp
 |c::r,acc=>by
  have h1:=ZL r []
  have h2:=ZL r (acc++[c])
  simp only [qU,List.length_cons]
  split
  ·simp only [List.length_cons];omega
  ·omega
def qK(L:List Str):Nat:=(L.map fun l=>l.length+1).sum
theorem Xr: ∀ (s acc:Str),qK (qU acc s)≤s.length+acc.length+1
 |[],acc=>by simp only [qU];split<;>simp [qK]
 |c::r,acc=>by
  have h1:=Xr r []
  have h2:=Xr r (acc++[c])
  simp only [qU,List.length_cons]
  split
  ·simp only [qK,List.map_cons,List.sum_cons,List.length_nil]at*;omega
  ·simp only [List.length_append,List.length_cons,List.length_nil]at h2;omega
theorem Xt {L:List Str} {l:Str} (h:l ∈ L):l.length+1≤qK L:=by
 induction L with
 |nil=>cases h
 |cons a L ih=>
  simp only [qK,List.map_cons,List.sum_cons]at*
  rcases List.mem_cons.1 h with rfl|h
  ·omega
  ·have:=ih h;omega
theorem JQ: ∀ (r:List Str) (t x:Str) (n:Nat),yh r t=some (x,n)→x.length≤t.length+qK r∧n < r.length
 |[],t,x,n,h=>by simp [yh]at h
 |l::r,t,x,n,h=>by
  simp only [yh]at h
  split at h
  ·simp only [Option.some.injEq,Prod.mk.injEq]at h;obtain ⟨rfl,rfl⟩:=h;simp
  ·simp only [Option.map_eq_some_iff]at h
   obtain ⟨⟨y,m⟩,h1,h2⟩:=h
   simp only [Prod.mk.injEq]at h2;obtain ⟨rfl,rfl⟩:=h2
   have ih:=JQ r _ y m h1
   simp only [qK,List.map_cons,List.sum_cons,List.length_cons,List.length_append,List.length_nil]at*
   omega
end Go.Vm
namespace Go.Vm
open Go.Lib (indexByte)
def qht(s:Str) (i:Nat):Bool:=match i with
 |0=>true
 |j+1=> !qiT (s.getD j 0)
def qgH:Option UInt8→Bool
 |none=>true
 |some d=>qes d||isB 37 d
def qrG(s:Str) (i:Nat) (c:UInt8):Bool:=isB 46 c&&(qht s i&&qgH s[i+1]?)
end Go.Vm
namespace Go.Vm
theorem qe1(x:Rq) (hw:wRq x) (y:Rq) (v v':V) (h:bRq x v) (h':bRq y v'):cr qp YI [v,v']=some (B (decide (x=y))):=by
 obtain rfl:=h
 obtain rfl:=h'
 rw [zp qg8 rfl]
 by_cases c0:x.kind=y.kind
 case neg=>
  have d0:decide (x.kind=y.kind)=false:=decide_eq_false c0
  have hf:decide (x=y)=false:=decide_eq_false fun h=>c0 (by rw [h])
  simp only [go_sem,qa,qb,qc,qd,qe,qf,reduceCtorEq,kf,d0,hf]
 have d0:decide (x.kind=y.kind)=true:=decide_eq_true c0
 by_cases c1:x.name=y.name
 case neg=>
  have d1:decide (x.name=y.name)=false:=decide_eq_false c1
  have hf:decide (x=y)=false:=decide_eq_false fun h=>c1 (by rw [h])
  simp only [go_sem,qa,qb,qc,qd,qe,qf,reduceCtorEq,kf,d0,d1,hf]
 have d1:decide (x.name=y.name)=true:=decide_eq_true c1
 by_cases c2:x.text=y.text
 case neg=>
  have d2:decide (x.text=y.text)=false:=decide_eq_false c2
  have hf:decide (x=y)=false:=decide_eq_false fun h=>c2 (by rw [h])
  simp only [go_sem,qa,qb,qc,qd,qe,qf,reduceCtorEq,kf,d0,d1,d2,hf]
 have d2:decide (x.text=y.text)=true:=decide_eq_true c2
 have hf:decide (x=y)=true:=decide_eq_true (by cases x;cases y;simp only at c0 c1 c2;simp only [Rq.mk.injEq];exact ⟨c0,c1,c2⟩)
 simp only [go_sem,qa,qb,qc,qd,qe,qf,reduceCtorEq,kf,d0,d1,d2,hf]
end Go.Vm
namespace Go.Vm
theorem qcE(p:UInt8→Bool): ∀ s:Str,decide (((pre p s:Nat):Int)=(s.length:Int))=s.all p
 |[]=>by simp [pre]
 |c::r=>by
  have ih:=qcE p r
  have:=qcF p r
  by_cases h:p c=true
  ·rw [pre,if_pos h,List.all_cons,h,Bool.true_and,List.length_cons, ← ih,decide_eq_decide];omega
  ·rw [pre,if_neg h,List.all_cons,Bool.eq_false_iff.2 h,Bool.false_and,List.length_cons]
   exact decide_eq_false (by omega)
theorem qdI(s:Str) (n:Nat) (h:n≤s.length):jP (S s) none (some (I (n:Nat)))=some (S (s.take n)):=by
 have:=JL (l:=s) (lo:=none) (hi:=some (I (n:Nat))) (a:=0) (b:=(n:Nat)) rfl rfl (by omega) (by omega) (by omega)
 simpa using this
theorem JM(s:Str) (n:Nat) (h:n≤s.length):jP (S s) (some (I (n:Nat))) none=some (S (s.drop n)):=by
 have:=JL (l:=s) (lo:=some (I (n:Nat))) (hi:=none) (a:=(n:Nat)) (b:=(s.length:Nat)) rfl rfl (by omega) (by omega) (by omega)
 simpa using this
theorem qfi(s:Str) (hl:s.length≤2^40):cr qp YG [S s]=some (B (xE s)):=by
 have w:=qi8 s.length 1 8
 have r:=qh0 Qm YH qfj s (by omega) 0 (Nat.zero_le _)
 have pa:=qcE Qm s
 rw [List.drop_zero]at r
 simp only [Int.natCast_zero,Nat.zero_add]at r
 rw [zp qg1 rfl]
 unfold xE
 cases hd:decide (1≤(s.length:Int)∧(s.length:Int)≤8)with
 |true=>rw [hd]at w;simp only [go_sem,qa,qb,qc,qd,qe,qf,reduceCtorEq,jj,w,r,pa,Bool.and_true]
 |false=>rw [hd]at w;simp only [go_sem,qa,qb,qc,qd,qe,qf,reduceCtorEq,jj,w,r,pa,Bool.and_false]
theorem qgo(s:Str) (hl:s.length≤2^40) (m:Nat): ∀ i,i+m=s.length→
 lw qp Zh ⟨[(0,S s),(3,I i)],[]⟩=if (s.drop i).all Qm=true then some (.exit 0,⟨[(0,S s)],[]⟩)else some (.ret,⟨[(2,B false)],[]⟩):=by
 induction m with
 |zero=>
  intro i hi
  rw [List.drop_eq_nil_of_le (by omega),qQ]
  have h: ¬ (i:Int) < s.length:=by omega
  simp only [go_sem,qa,qb,qc,qd,qe,qf,reduceCtorEq,Zn,h,List.all_nil,if_true]
 |succ m ih=>
  intro i hi
  have h:(i:Int) < s.length:=by omega
  obtain ⟨c,hc⟩:=Qj (l:=s) (i:=i) (by omega)
  have ix:=ZJ (l:=s) (i:=(i:Int)) (c:=c) (by omega) (by simpa using hc)
  have w:=qgn c
  have e1:w64 ((i:Int)+1)=((i+1:Nat):Int):=by rw [zA]<;>omega
  have i1:=ih (i+1) (by omega)
  rw [Qd hc,qQ,List.all_cons]
  have hlow:Qm c=inB 97 122 c:=rfl
  rw [hlow]
  cases hw:inB 97 122 c with
  |true=>
   rw [hw]at w
   rw [Bool.true_and]
   simp only [go_sem,qa,qb,qc,qd,qe,qf,reduceCtorEq,Zn,h,ix,w,e1]
   exact i1
  |false=>
   rw [hw]at w
   rw [Bool.false_and,if_neg (by decide)]
   simp only [go_sem,qa,qb,qc,qd,qe,qf,reduceCtorEq,Zn,h,ix,w,e1]
theorem qiH(s:Str) (hl:s.length≤2^40):cr qp YL [S s]=some (B (xE s)):=by
 have w:=qgm s.length 1 8
 have lp:=qgo s hl s.length 0 (by omega)
 simp only [Int.natCast_zero,List.drop_zero]at lp
 rw [zp qhg rfl]
 unfold xE
 cases ha:s.all Qm with
 |true=>rw [ha,if_pos rfl]at lp;simp only [go_sem,qa,qb,qc,qd,qe,qf,reduceCtorEq,jo,w,lp,Bool.true_and]
 |false=>rw [ha,if_neg (by decide)]at lp;simp only [go_sem,qa,qb,qc,qd,qe,qf,reduceCtorEq,jo,w,lp,Bool.false_and]
theorem qbF(q:Rq) (h1:q.name.length≤2^40) (h2:q.text.length≤2^40):cr qp X5 [.a [I q.kind,S q.name,S q.text]]=some (B (okR q)):=by
 have n:=qfi q.name h1
 rw [zp qg0 rfl]
 unfold okR
 by_cases k1:q.kind=1
 ·rw [if_pos k1]
  cases hn:xE q.name with
  |true=>rw [hn]at n;simp only [go_sem,qa,qb,qc,qd,qe,qf,reduceCtorEq,xd,k1,n,Bool.true_and]
  |false=>rw [hn]at n;simp only [go_sem,qa,qb,qc,qd,qe,qf,reduceCtorEq,xd,k1,n,Bool.false_and]
 rw [if_neg k1]
 by_cases k2:q.kind=2
 ·rw [if_pos k2]
  cases hn:decide (q.name=[])with
  |true=>simp only [go_sem,qa,qb,qc,qd,qe,qf,reduceCtorEq,xd,k2,hn,Int.reduceEq,Bool.true_and]
  |false=>simp only [go_sem,qa,qb,qc,qd,qe,qf,reduceCtorEq,xd,k2,hn,Int.reduceEq,Bool.false_and]
 rw [if_neg k2]
 by_cases k3:q.kind=3
 ·rw [if_pos k3]
  cases hn:xE q.name with
  |true=>rw [hn]at n;simp only [go_sem,qa,qb,qc,qd,qe,qf,reduceCtorEq,xd,k3,n,Int.reduceEq,Bool.true_and]
  |false=>rw [hn]at n;simp only [go_sem,qa,qb,qc,qd,qe,qf,reduceCtorEq,xd,k3,n,Int.reduceEq,Bool.false_and]
 rw [if_neg k3]
 simp only [go_sem,qa,qb,qc,qd,qe,qf,reduceCtorEq,xd,k1,k2,k3]
theorem qiG(q:Rq) (h1:q.name.length≤2^40) (h2:q.text.length≤2^40):cr qp Kf [.a [I q.kind,S q.name,S q.text]]=some (B (okR q)):=by
 have n:=qiH q.name h1
 rw [zp qhd rfl]
 unfold okR
 by_cases k1:q.kind=1
 ·rw [if_pos k1]
  cases hn:xE q.name with
  |true=>rw [hn]at n;simp only [go_sem,qa,qb,qc,qd,qe,qf,reduceCtorEq,xf,k1,n,Bool.true_and]
  |false=>rw [hn]at n;simp only [go_sem,qa,qb,qc,qd,qe,qf,reduceCtorEq,xf,k1,n,Bool.false_and]
 rw [if_neg k1]
 by_cases k2:q.kind=2
 ·rw [if_pos k2]
  cases hn:decide (q.name=[])with
  |true=>simp only [go_sem,qa,qb,qc,qd,qe,qf,reduceCtorEq,xf,k2,hn,Int.reduceEq,Bool.true_and]
  |false=>simp only [go_sem,qa,qb,qc,qd,qe,qf,reduceCtorEq,xf,k2,hn,Int.reduceEq,Bool.false_and]
 rw [if_neg k2]
 by_cases k3:q.kind=3
 ·rw [if_pos k3]
  cases hn:xE q.name with
  |true=>rw [hn]at n;simp only [go_sem,qa,qb,qc,qd,qe,qf,reduceCtorEq,xf,k3,n,Int.reduceEq,Bool.true_and]
  |false=>rw [hn]at n;simp only [go_sem,qa,qb,qc,qd,qe,qf,reduceCtorEq,xf,k3,n,Int.reduceEq,Bool.false_and]
 rw [if_neg k3]
 simp only [go_sem,qa,qb,qc,qd,qe,qf,reduceCtorEq,xf,k1,k2,k3]
theorem qfb(s p:Str):cr qp X9 [S s,S p]=some (B (decide (s.take p.length=p))):=by
 rw [zp qg7 rfl]
 by_cases h:(p.length:Int)≤s.length
 ·have hx:p.length≤s.length:=by omega
  have sl:=qdI s p.length hx
  simp only [go_sem,qa,qb,qc,qd,qe,qf,reduceCtorEq,jl,h,hx,sl]
 ·have hn:decide (s.take p.length=p)=false:=decide_eq_false fun e=>by have:=congrArg List.length e;simp only [List.length_take]at this;omega
  simp only [go_sem,qa,qb,qc,qd,qe,qf,reduceCtorEq,jl,h,hn]
theorem KB(s p:Str):cr qp Za [S s,S p]=some (.t [S ((zh p s).getD s),B (zh p s).isSome]):=by
 have hp:=qfb s p
 have c1:cr qp X8 [S s,S p]=some (.t [S ((zh p s).getD s),B (zh p s).isSome]):=by
  rw [zp qg6 rfl]
  unfold zh
  by_cases h:s.take p.length=p
  ·have hl:p.length≤s.length:=by have:=congrArg List.length h;simp only [List.length_take]at this;omega
   rw [decide_eq_true h]at hp
   have sl:=JM s p.length hl
   rw [if_pos h]
   simp only [go_sem,qa,qb,qc,qd,qe,qf,reduceCtorEq,jk,hp,hl,sl,Option.getD_some,Option.isSome_some]
  ·rw [decide_eq_false h]at hp
   rw [if_neg h]
   simp only [go_sem,qa,qb,qc,qd,qe,qf,reduceCtorEq,jk,hp,Option.getD_none,Option.isSome_none]
 rw [zp qhl rfl]
 simp only [go_sem,qa,qb,qc,qd,qe,qf,reduceCtorEq,jY,c1]
end Go.Vm
namespace Go.Vm
theorem qei(c x:UInt8) (l:Str):zo c (x::l)=(decide (x=c)&&zo c l):=rfl
theorem qgp(s:Str) (hl:s.length≤2^40) (m:Nat): ∀ i,i+m=s.length→
 lw qp Zi ⟨[(0,S s),(3,I i)],[]⟩=if zo 32 (s.drop i)=true then some (.exit 0,⟨[],[]⟩)else some (.ret,⟨[(2,B false)],[]⟩):=by
 induction m with
 |zero=>
  intro i hi
  rw [List.drop_eq_nil_of_le (by omega),qQ]
  have h: ¬ (i:Int) < s.length:=by omega
  simp only [go_sem,qa,qb,qc,qd,qe,qf,reduceCtorEq,Zo,h,zo,List.all_nil,if_true]
 |succ m ih=>
  intro i hi
  have h:(i:Int) < s.length:=by omega
  obtain ⟨c,hc⟩:=Qj (l:=s) (i:=i) (by omega)
  have ix:=ZJ (l:=s) (i:=(i:Int)) (c:=c) (by omega) (by simpa using hc)
  have e1:w64 ((i:Int)+1)=((i+1:Nat):Int):=by rw [zA]<;>omega
  have i1:=ih (i+1) (by omega)
  rw [Qd hc,qQ,qei]
  by_cases hw:c=32
  ·have hd:decide (((c.toNat:Nat):Int)=32)=true:=by subst hw;rfl
   have hn:((c.toNat:Nat):Int)=32:=of_decide_eq_true hd
   rw [decide_eq_true hw,Bool.true_and]
   simp only [go_sem,qa,qb,qc,qd,qe,qf,reduceCtorEq,Zo,h,ix,hn,e1]
   exact i1
  ·have hn: ¬ ((c.toNat:Nat):Int)=32:=fun e=>hw (UInt8.toNat_inj.1 (by have:c.toNat=32:=by omega
                                                                       rw [this];rfl))
   rw [decide_eq_false hw,Bool.false_and,if_neg (by decide)]
   simp only [go_sem,qa,qb,qc,qd,qe,qf,reduceCtorEq,Zo,h,ix,hn,e1]
theorem qgq(s:Str) (hl:s.length≤2^40):cr qp Kh [S s]=some (B (zo 32 s)):=by
 have lp:=qgp s hl s.length 0 (by omega)
 simp only [Int.natCast_zero,List.drop_zero]at lp
 rw [zp qhi rfl]
 cases ha:zo 32 s with
 |true=>rw [ha,if_pos rfl]at lp;simp only [go_sem,qa,qb,qc,qd,qe,qf,reduceCtorEq,jp,lp]
 |false=>rw [ha,if_neg (by decide)]at lp;simp only [go_sem,qa,qb,qc,qd,qe,qf,reduceCtorEq,jp,lp]
theorem Ql(s w:Str) (hs:s.length≤2^40) (hw:w.length≤2^40):cr qp Q9 [S s,S w]=some (.t [S ((zh (w++[32]) s).getD []),B (zh (w++[32]) s).isSome]):=by
 rw [zp qhh rfl]
 have e1:w64 ((w.length:Int)+1)=((w.length+1:Nat):Int):=by rw [zA]<;>omega
 have hl:(w++[32]).length=w.length+1:=by simp
 unfold zh
 rw [hl]
 by_cases h:(s.length:Int) < ((w.length+1:Nat):Int)
 ·have hn: ¬ s.take (w.length+1)=w++[32]:=fun e=>by have:=congrArg List.length e;simp only [List.length_take,hl]at this;omega
  rw [if_neg hn]
  simp only [go_sem,qa,qb,qc,qd,qe,qf,reduceCtorEq,kL,e1,h,Option.getD_none,Option.isSome_none]
 ·have hx:w.length+1≤s.length:=by omega
  have sl:=qdI s (w.length+1) hx
  have sf:=JM s (w.length+1) hx
  have ba:=ju (x:=w) (y:=[32]) (by simp only [List.length_cons,List.length_nil];omega)
  by_cases hp:s.take (w.length+1)=w++[32]
  ·have hd:decide (s.take (w.length+1)=w++[32])=true:=decide_eq_true hp
   rw [if_pos hp]
   simp only [go_sem,qa,qb,qc,qd,qe,qf,reduceCtorEq,kL,e1,h,sl,sf,ba,hd,Option.getD_some,Option.isSome_some]
  ·have hd:decide (s.take (w.length+1)=w++[32])=false:=decide_eq_false hp
   rw [if_neg hp]
   simp only [go_sem,qa,qb,qc,qd,qe,qf,reduceCtorEq,kL,e1,h,sl,sf,ba,hd,Option.getD_none,Option.isSome_none]
def je(l:Str):Option Rq:=
 match zh kB l with
 |some nm=>some ⟨1,nm,[]⟩
 |none=>match zh kA l with
  |some t=>some ⟨2,[],t⟩
  |none=>none
theorem qhT(l:Str):cr qp X6 [S l]=some (.t [.a [I ((je l).getD ⟨0,[],[]⟩).kind,S ((je l).getD ⟨0,[],[]⟩).name,S ((je l).getD ⟨0,[],[]⟩).text],B (je l).isSome]):=by
 have c1:=KB l kB
 have c2:=KB l kA
 unfold je
 rw [show kB=[99,111,110,115,117,108,116,32]from rfl]at c1 ⊢
 rw [show kA=[97,115,107,32]from rfl]at c2 ⊢
 rw [zp qg3 rfl]
 cases h1:zh [99,111,110,115,117,108,116,32] l with
 |some nm=>
  simp only [h1,Option.getD_some,Option.isSome_some]at c1
  simp only [go_sem,qa,qb,qc,qd,qe,qf,reduceCtorEq,kI,c1,Option.getD_some,Option.isSome_some]
 |none=>
  simp only [h1,Option.getD_none,Option.isSome_none]at c1
  cases h2:zh [97,115,107,32] l with
  |some t=>
   simp only [h2,Option.getD_some,Option.isSome_some]at c2
   simp only [go_sem,qa,qb,qc,qd,qe,qf,reduceCtorEq,kI,c1,c2,Option.getD_some,Option.isSome_some]
  |none=>
   simp only [h2,Option.getD_none,Option.isSome_none]at c2
   simp only [go_sem,qa,qb,qc,qd,qe,qf,reduceCtorEq,kI,c1,c2,Option.getD_none,Option.isSome_none]
theorem qbS(τ:Bool) (Ls:List Str) (hL:Ls.length≤2^40): ∀ (r:List Str) (i:Nat) (t:Str),Ls.drop i=r→i+r.length=Ls.length→t.length+qK r≤2^40→
 (∀ x n,yh r t=some (x,n)→lw qp kP ⟨[(0,.i τ (Ls.map S)),(6,S t),(7,I i)],[]⟩=some (.ret,⟨[(4,S x),(5,I ((i+n+1:Nat):Int))],[]⟩))∧
 (yh r t=none→lw qp kP ⟨[(0,.i τ (Ls.map S)),(6,S t),(7,I i)],[]⟩=some (.exit 0,⟨[],[]⟩))
 |[],i,t,h,hi,ht=>by
  have h1: ¬ (i:Int) < (Ls.length:Int):=by simp only [List.length_nil]at hi;omega
  refine ⟨fun x n h=>by simp [yh]at h,fun _=> ?_⟩
  rw [qQ]
  simp only [go_sem,qa,qb,qc,qd,qe,qf,reduceCtorEq,Zp,h1,List.length_map]
 |y::r,i,t,h,hi,ht=>by
  simp only [List.length_cons]at hi
  simp only [qK,List.map_cons,List.sum_cons]at ht
  have b1:=ju (x:=t) (y:=y) (by omega)
  have b2:=ju (x:=t++y) (y:=[10]) (by simp only [List.length_append,List.length_cons,List.length_nil];omega)
  have hx:Ls[i]? =some y:=by
   have:=congrArg (fun z=>z[0]?) h
   simpa using this
  have hd:Ls.drop (i+1)=r:=by
   have:=congrArg (fun z=>z.drop 1) h
   simpa [List.drop_drop,Nat.add_comm]using this
  have h1:(i:Int) < (Ls.length:Int):=by omega
  have e1:w64 ((i:Int)+1)=((i+1:Nat):Int):=by rw [zA]<;>omega
  have g1:=kX (f:=S) hx
  have a1:=fun T=>kj (τ:=τ) (T:=T) (e:=1) g1 rfl
  obtain ⟨i1,i2⟩:=qbS τ Ls hL r (i+1) (t++(y++[10])) hd (by omega) (by simp only [List.length_append,List.length_cons,List.length_nil,qK];omega)
  simp only [yh]
  by_cases hy:y=JT
  ·have hyd:decide (y=[101,110,100])=true:=decide_eq_true hy
   rw [if_pos hy]
   refine ⟨fun x n h=> ?_,fun h=>by cases h⟩
   simp only [Option.some.injEq,Prod.mk.injEq]at h
   obtain ⟨rfl,rfl⟩:=h
   rw [qQ]
   simp only [go_sem,qa,qb,qc,qd,qe,qf,reduceCtorEq,Zp,h1,e1,g1,a1,hyd,List.length_map]
  ·have hyd:decide (y=[101,110,100])=false:=decide_eq_false hy
   rw [if_neg hy]
   have stp:lw qp kP ⟨[(0,.i τ (Ls.map S)),(6,S t),(7,I i)],[]⟩=lw qp kP ⟨[(0,.i τ (Ls.map S)),(6,S (t++(y++[10]))),(7,I ((i+1:Nat):Int))],[]⟩:=by
    rw [qQ]
    simp only [go_sem,qa,qb,qc,qd,qe,qf,reduceCtorEq,Zp,h1,e1,g1,a1,hyd,b1,b2,List.length_map,List.append_assoc]
   rw [stp]
   refine ⟨fun x n h=> ?_,fun h=> ?_⟩
   ·simp only [Option.map_eq_some_iff]at h
    obtain ⟨⟨x',n'⟩,h1,h2⟩:=h
    simp only [Prod.mk.injEq]at h2
    obtain ⟨rfl,rfl⟩:=h2
    rw [i1 _ _ h1,show i+1+n'+1=i+(n'+1)+1 by omega]
   ·exact i2 (by simpa using h)
theorem qbT(τ:Bool) (Ls:List Str) (hL:Ls.length≤2^40) (i:Nat) (hi:i≤Ls.length) (ht:qK (Ls.drop i)≤2^40):cr qp Ki [.i τ (Ls.map S),I i]=some (match yh (Ls.drop i) []with|some (x,n)=> .t [S x,I ((i+n+1:Nat):Int)]|none=> .t [S [],I (-1)]):=by
 obtain ⟨l1,l2⟩:=qbS τ Ls hL (Ls.drop i) i [] rfl (by rw [List.length_drop];omega) (by simpa using ht)
 rw [zp qhj rfl]
 cases h:yh (Ls.drop i) []with
 |none=>have l2:=l2 h;simp only [go_sem,qa,qb,qc,qd,qe,qf,reduceCtorEq,jq,l2]
 |some q=>obtain ⟨x,n⟩:=q;have l1:=l1 x n h;simp only [go_sem,qa,qb,qc,qd,qe,qf,reduceCtorEq,jq,l1]
end Go.Vm
namespace Go.Vm
theorem qiO(s:Str) (a b:Nat) (h1:a≤b) (h:b≤s.length):jP (S s) (some (I (a:Nat))) (some (I (b:Nat)))=some (S ((s.take b).drop a)):=by
 have:=JL (l:=s) (lo:=some (I (a:Nat))) (hi:=some (I (b:Nat))) (a:=(a:Nat)) (b:=(b:Nat)) rfl rfl (by omega) (by omega) (by omega)
 simpa using this
theorem qiY(s:Str) (b i:Nat) (c:UInt8) (hc:s[i]? =some c) (hb:b≤i):(s.take (i+1)).drop b=(s.take i).drop b++[c]:=by
 have hi:=(List.getElem?_eq_some_iff.1 hc).1
 rw [List.take_add_one,hc,Option.toList_some,List.drop_append_of_le_length (by simp;omega)]
theorem qgr(s:Str) (hl:s.length≤2^30) (m:Nat): ∀ (i b:Nat) (out:List Str),i+m=s.length→b≤i→out.length≤i→
 ∃ (out':List Str) (b':Nat),lw qp Zj ⟨[(0,S s),(3,.s (100000,0) 0 (out).length),(4,I b),(5,I i)],[((100000,0),1,(out).map S)]⟩=some (.exit 0,⟨[(0,S s),(3,.s (100000,0) 0 (out').length),(4,I b')],[((100000,0),1,(out').map S)]⟩)∧b'≤s.length∧out'.length≤s.length∧
  out'++(if s.drop b'=[]then []else [s.drop b'])=out++qU ((s.take i).drop b) (s.drop i):=by
 induction m with
 |zero=>
  intro i b out hi hb ho
  have h: ¬ (i:Int) < s.length:=by omega
  refine ⟨out,b, ?_,by omega,by omega, ?_⟩
  ·rw [qQ]
   simp only [go_sem,qa,qb,qc,qd,qe,qf,reduceCtorEq,Zq,h]
  ·rw [List.drop_eq_nil_of_le (show s.length≤i by omega),List.take_of_length_le (show s.length≤i by omega)]
   simp only [qU]
 |succ m ih=>
  intro i b out hi hb ho
  have h:(i:Int) < s.length:=by omega
  obtain ⟨c,hc⟩:=Qj (l:=s) (i:=i) (by omega)
  have ix:=ZJ (l:=s) (i:=(i:Int)) (c:=c) (by omega) (by simpa using hc)
  have e1:w64 ((i:Int)+1)=((i+1:Nat):Int):=by rw [zA]<;>omega
  have tk:=qiY s b i c hc hb
  have l1:decide ((out.length+1)*16≤lim)=true:=decide_eq_true (by rw [k7];omega)
  have l2:decide (out.length+1≤lim)=true:=decide_eq_true (by rw [k7];omega)
  have sl:=qiO s b i hb (by omega)
  rw [Qd hc]
  by_cases hw:c=10
  ·have hn:((c.toNat:Nat):Int)=10:=by subst hw;rfl
   obtain ⟨out',b',i1,i2,i3,i4⟩:=ih (i+1) (i+1) (out++[(s.take i).drop b]) (by omega) (Nat.le_refl _) (by simp;omega)
   refine ⟨out',b', ?_,i2,i3, ?_⟩
   ·rw [← i1,qQ]
    simp only [go_sem,qa,qb,qc,qd,qe,qf,reduceCtorEq,Zq,h,ix,hn,e1,sl,l1,l2,List.length_map,List.length_append,List.length_cons,List.length_nil]
   ·rw [i4]
    simp only [qU,if_pos hw]
    have:(s.take (i+1)).drop (i+1)=[]:=List.drop_eq_nil_of_le (by simp;omega)
    rw [this,List.append_assoc];rfl
  ·have hn: ¬ ((c.toNat:Nat):Int)=10:=fun e=>hw (UInt8.toNat_inj.1 (by have:c.toNat=10:=by omega
                                                                       rw [this];rfl))
   obtain ⟨out',b',i1,i2,i3,i4⟩:=ih (i+1) b out (by omega) (by omega) (by omega)
   refine ⟨out',b', ?_,i2,i3, ?_⟩
   ·rw [← i1,qQ]
    simp only [go_sem,qa,qb,qc,qd,qe,qf,reduceCtorEq,Zq,h,ix,hn,e1]
   ·rw [i4]
    simp only [qU,if_neg hw,tk]
theorem qgs(s:Str) (hl:s.length≤2^30):cr qp Kj [S s]=some (.o 1 ((qU [] s).map S)):=by
 obtain ⟨out,b,lp,hb,ho,he⟩:=qgr s hl s.length 0 0 [] (by omega) (Nat.le_refl _) (by simp)
 simp only [Int.natCast_zero,List.map_nil,List.length_nil,List.take_zero,List.drop_zero,List.nil_append]at lp he
 rw [← he]
 have l1:decide ((out.length+1)*16≤lim)=true:=decide_eq_true (by rw [k7];omega)
 have l2:decide (out.length+1≤lim)=true:=decide_eq_true (by rw [k7];omega)
 have sf:=JM s b hb
 rw [zp qhk rfl]
 have tk:(out.map S).take out.length=out.map S:=List.take_of_length_le (by simp)
 by_cases hd:s.drop b=[]
 ·have h: ¬ (b:Int) < s.length:=by have:=congrArg List.length hd;simp only [List.length_drop,List.length_nil]at this;omega
  rw [if_pos hd,List.append_nil]
  simp only [go_sem,qa,qb,qc,qd,qe,qf,reduceCtorEq,jr,lp,h,tk]
 ·have h:(b:Int) < s.length:=by
   have: ¬ s.length≤b:=fun e=>hd (List.drop_eq_nil_of_le e)
   omega
  rw [if_neg hd]
  simp only [go_sem,qa,qb,qc,qd,qe,qf,reduceCtorEq,jr,lp,h,sf,l1,l2,tk,List.length_map,List.length_append,List.length_cons,List.length_nil]
end Go.Vm
namespace Go.Vm
def rqV(q:Rq):V:= .a [I q.kind,S q.name,S q.text]
theorem qgU(τ:Bool) (Ls:List Str) (hL:Ls.length≤2^30) (hT:qK Ls≤2^40) (i:Nat) (l:Str) (hx:Ls[i]? =some l) (q:Rq) (n:Nat) (h:yb l (Ls.drop (i+1))=some (q,n)):
 cr qp YM [.i τ (Ls.map S),I i]=some (.t [.a [I q.kind,S q.name,S q.text],I ((i+1+n:Nat):Int),B true]):=by
 have hi:=(List.getElem?_eq_some_iff.1 hx).1
 have hlt:l.length≤2^40:=by have:=Xt (List.mem_of_getElem? hx);omega
 have g1:=kX (f:=S) hx
 have a1:=fun T=>kj (τ:=τ) (T:=T) (e:=1) g1 rfl
 have e1:w64 ((i:Int)+1)=((i+1:Nat):Int):=by rw [zA]<;>omega
 have b1:=Ql l [102,105,108,101] hlt (by decide)
 have b2:=Ql l [99,111,110,115,117,108,116] hlt (by decide)
 have b3:=Ql l [97,115,107] hlt (by decide)
 have hd:qK (Ls.drop (i+1))≤2^40:=by
  have:qK Ls=qK (Ls.take (i+1))+qK (Ls.drop (i+1)):=by
   simp only [qK];rw [← List.sum_append, ← List.map_append,List.take_append_drop]
  omega
 have fl:=fun t=>qbT t Ls (by omega) (i+1) (by omega) hd
 rw [show ([102,105,108,101]:Str)++[32]=y6 from rfl]at b1
 rw [show ([99,111,110,115,117,108,116]:Str)++[32]=kB from rfl]at b2
 rw [show ([97,115,107]:Str)++[32]=kA from rfl]at b3
 rw [zp qcy rfl]
 unfold yb at h
 cases h1:zh y6 l with
 |some nm=>
  simp only [h1,Option.getD_some,Option.isSome_some]at b1 h
  simp only [Option.map_eq_some_iff]at h
  obtain ⟨⟨x,k⟩,h2,h3⟩:=h
  simp only [Prod.mk.injEq]at h3
  obtain ⟨rfl,rfl⟩:=h3
  simp only [h2]at fl
  have hn:(0:Int)≤((i+1+k+1:Nat):Int):=by omega
  rw [show i+1+(k+1)=i+1+k+1 by omega]
  simp only [go_sem,qa,qb,qc,qd,qe,qf,reduceCtorEq,xL,g1,a1,b1,e1,fl,hn]
 |none=>
  simp only [h1,Option.getD_none,Option.isSome_none]at b1 h
  cases h2:zh kB l with
  |some nm=>
   simp only [h2,Option.getD_some,Option.isSome_some,Option.some.injEq,Prod.mk.injEq]at b2 h
   obtain ⟨rfl,rfl⟩:=h
   simp only [go_sem,qa,qb,qc,qd,qe,qf,reduceCtorEq,xL,g1,a1,b1,b2,e1]
  |none=>
   simp only [h2,Option.getD_none,Option.isSome_none]at b2 h
   cases h3:zh kA l with
   |some t=>
    simp only [h3,Option.getD_some,Option.isSome_some,Option.some.injEq,Prod.mk.injEq]at b3 h
    obtain ⟨rfl,rfl⟩:=h
    simp only [go_sem,qa,qb,qc,qd,qe,qf,reduceCtorEq,xL,g1,a1,b1,b2,b3,e1]
   |none=>rw [h3]at h;cases h
theorem qgS(τ:Bool) (Ls:List Str) (hL:Ls.length≤2^30) (hT:qK Ls≤2^40) (i:Nat) (l:Str) (hx:Ls[i]? =some l) (h:yb l (Ls.drop (i+1))=none):
 ∃ (q:Rq) (nx:Int),cr qp YM [.i τ (Ls.map S),I i]=some (.t [.a [I q.kind,S q.name,S q.text],I nx,B false]):=by
 have hi:=(List.getElem?_eq_some_iff.1 hx).1
 have hlt:l.length≤2^40:=by have:=Xt (List.mem_of_getElem? hx);omega
 have g1:=kX (f:=S) hx
 have a1:=fun T=>kj (τ:=τ) (T:=T) (e:=1) g1 rfl
 have e1:w64 ((i:Int)+1)=((i+1:Nat):Int):=by rw [zA]<;>omega
 have b1:=Ql l [102,105,108,101] hlt (by decide)
 have b2:=Ql l [99,111,110,115,117,108,116] hlt (by decide)
 have b3:=Ql l [97,115,107] hlt (by decide)
 have hd:qK (Ls.drop (i+1))≤2^40:=by
  have:qK Ls=qK (Ls.take (i+1))+qK (Ls.drop (i+1)):=by
   simp only [qK];rw [← List.sum_append, ← List.map_append,List.take_append_drop]
  omega
 have fl:=fun t=>qbT t Ls (by omega) (i+1) (by omega) hd
 rw [show ([102,105,108,101]:Str)++[32]=y6 from rfl]at b1
 rw [show ([99,111,110,115,117,108,116]:Str)++[32]=kB from rfl]at b2
 rw [show ([97,115,107]:Str)++[32]=kA from rfl]at b3
 rw [zp qcy rfl]
 unfold yb at h
 cases h1:zh y6 l with
 |some nm=>
  simp only [h1,Option.getD_some,Option.isSome_some]at b1 h
  have h2:yh (Ls.drop (i+1)) []=none:=by simpa using h
  simp only [h2]at fl
  refine ⟨⟨3,nm,[]⟩,-1, ?_⟩
  have hn: ¬ (0:Int)≤ -1:=by decide
  simp only [go_sem,qa,qb,qc,qd,qe,qf,reduceCtorEq,xL,g1,a1,b1,e1,fl,hn]
 |none=>
  simp only [h1,Option.getD_none,Option.isSome_none]at b1 h
  cases h2:zh kB l with
  |some nm=>rw [h2]at h;cases h
  |none=>
   simp only [h2,Option.getD_none,Option.isSome_none]at b2 h
   cases h3:zh kA l with
   |some t=>rw [h3]at h;cases h
   |none=>
    simp only [h3,Option.getD_none,Option.isSome_none]at b3
    refine ⟨⟨2,[],[]⟩,((i+1:Nat):Int), ?_⟩
    simp only [go_sem,qa,qb,qc,qd,qe,qf,reduceCtorEq,xL,g1,a1,b1,b2,b3,e1]
end Go.Vm
namespace Go.Vm
theorem Xv(l:Str) (h:zo 32 l=false): ∃ c r,l=c::r:=by
 cases l with
 |nil=>simp [zo]at h
 |cons c r=>exact ⟨c,r,rfl⟩
theorem Xo(c:UInt8) (r:Str):ixV (S (c::r)) (I 0)=some (U8 c.toNat):=ZJ (l:=c::r) (i:=0) (by omega) rfl
theorem Xn(c:UInt8):decide (((c.toNat:Nat):Int)=35)=decide (c=35):=by
 by_cases h:c=35
 ·subst h;rfl
 ·rw [decide_eq_false h]
  exact decide_eq_false fun e=>h (UInt8.toNat_inj.1 (by have:c.toNat=35:=by omega
                                                        rw [this];rfl))
theorem Xj {p l nm:Str} (h:zh p l=some nm):nm.length≤l.length:=by
 unfold zh at h
 split at h
 ·simp only [Option.some.injEq]at h;subst h;simp
 ·cases h
theorem qcq {l:Str} {r:List Str} {q:Rq} {n:Nat} (h:yb l r=some (q,n)):q.name.length≤l.length∧q.text.length≤l.length+qK r∧n≤r.length:=by
 unfold yb at h
 split at h
 ·rename_i nm h1
  simp only [Option.map_eq_some_iff,Prod.mk.injEq]at h
  obtain ⟨⟨x,k⟩,h2,rfl,rfl⟩:=h
  have:=JQ _ _ _ _ h2
  have:=Xj h1
  simp only [List.length_nil]at*
  exact ⟨this,by omega,by omega⟩
 ·split at h
  ·rename_i nm h1
   simp only [Option.some.injEq,Prod.mk.injEq]at h
   obtain ⟨rfl,rfl⟩:=h
   exact ⟨Xj h1,Nat.zero_le _,Nat.zero_le _⟩
  ·split at h
   ·rename_i nm h1
    simp only [Option.some.injEq,Prod.mk.injEq]at h
    obtain ⟨rfl,rfl⟩:=h
    exact ⟨Nat.zero_le _,by have:=Xj h1;simp only at*;omega,Nat.zero_le _⟩
   ·cases h
def y0(f:Nat) (r:List Str) (i:Nat) (out:List Rq) (good:List Rq→Prop) (bad:Int→Prop):Prop:=
 match f,r with
 |0,_=>True
 |f+1,[]=>good out
 |f+1,l::r=>if kD l=true then y0 f r (i+1) out good bad else match yb l r with
  |none=>bad ((i+1:Nat):Int)
  |some (q,n)=>if okR q=true∧out.length ≠ 20 then y0 f (r.drop n) (i+1+n) (out++[q]) good bad else bad ((i+1:Nat):Int)
theorem qiI(Ls:List Str) (hL:Ls.length≤2^30) (hT:qK Ls≤2^40) (f:Nat): ∀ (r:List Str) (i:Nat) (out:List Rq),Ls.drop i=r→i+r.length=Ls.length→r.length < f→out.length≤20→
 y0 f r i out (fun o=>lw qp xO ⟨[(4,.s (100000,0) 0 0),(5,.s (100000,1) 0 (out).length),(6,.s (100000,2) 0 Ls.length),(7,I i)],[((100000,0),3,[]),((100000,1),3,(out).map oRq),((100000,2),1,Ls.map S)]⟩=some (.exit 0,⟨[(5,.s (100000,1) 0 (o).length)],[((100000,0),3,[]),((100000,1),3,(o).map oRq),((100000,2),1,Ls.map S)]⟩)) (fun c=> ∃ T,lw qp xO ⟨[(4,.s (100000,0) 0 0),(5,.s (100000,1) 0 (out).length),(6,.s (100000,2) 0 Ls.length),(7,I i)],[((100000,0),3,[]),((100000,1),3,(out).map oRq),((100000,2),1,Ls.map S)]⟩=some (.ret,⟨[(2,.s (100000,0) 0 0),(3,I c)],T⟩)∧qo T (100000,0)=some (3,[])):=by
 induction f with
 |zero=>intro r i out _ _ h;omega
 |succ f ih=>
  intro r i out hr hi hf ho
  cases r with
  |nil=>
   simp only [y0]
   have h1: ¬ (i:Int) < (Ls.length:Int):=by simp only [List.length_nil]at hi;omega
   rw [qQ]
   simp only [go_sem,qa,qb,qc,qd,qe,qf,reduceCtorEq,ki,h1]
  |cons l r=>
   simp only [List.length_cons]at hi hf
   have hx:Ls[i]? =some l:=by
    have:=congrArg (fun z=>z[0]?) hr
    simpa using this
   have hd:Ls.drop (i+1)=r:=by
    have:=congrArg (fun z=>z.drop 1) hr
    simpa [List.drop_drop,Nat.add_comm]using this
   have h1:(i:Int) < (Ls.length:Int):=by omega
   have e1:w64 ((i:Int)+1)=((i+1:Nat):Int):=by rw [zA]<;>omega
   have g1:=kX (f:=S) hx
   have hlt:l.length≤2^40:=by have:=Xt (List.mem_of_getElem? hx);omega
   have bl:=qgq l hlt
   have tkL:(Ls.map S).take Ls.length=Ls.map S:=List.take_of_length_le (by simp)
   have ix:=qbK (k:=(100000,2)) (e:=1) (xs:=Ls.map S) (i:=i) (len:=Ls.length) (by omega) (by simp)
   simp only [y0]
   cases hs:kD l with
   |true=>
    rw [if_pos rfl]
    have stp:lw qp xO ⟨[(4,.s (100000,0) 0 0),(5,.s (100000,1) 0 (out).length),(6,.s (100000,2) 0 Ls.length),(7,I i)],[((100000,0),3,[]),((100000,1),3,(out).map oRq),((100000,2),1,Ls.map S)]⟩=lw qp xO ⟨[(4,.s (100000,0) 0 0),(5,.s (100000,1) 0 (out).length),(6,.s (100000,2) 0 Ls.length),(7,I ((i+1:Nat):Int))],[((100000,0),3,[]),((100000,1),3,(out).map oRq),((100000,2),1,Ls.map S)]⟩:=by
     rw [qQ]
     unfold kD at hs
     cases ha:zo 32 l with
     |true=>
      rw [ha]at bl
      simp only [go_sem,qa,qb,qc,qd,qe,qf,reduceCtorEq,ki,h1,e1,g1,ix,bl]
     |false=>
      obtain ⟨c,r',rfl⟩:=Xv l ha
      rw [ha,Bool.false_or]at hs
      rw [ha]at bl
      have hh:((c.toNat:Nat):Int)=35:=of_decide_eq_true (by rw [Xn];exact hs)
      have hc:=Xo c r'
      simp only [go_sem,qa,qb,qc,qd,qe,qf,reduceCtorEq,ki,h1,e1,g1,ix,bl,hc,hh]
    have:=ih r (i+1) out hd (by omega) (by omega) ho
    simp only [stp]
    exact this
   |false=>
    rw [if_neg (by decide)]
    unfold kD at hs
    have ha:zo 32 l=false:=by cases h:zo 32 l with|true=>rw [h]at hs;cases hs|false=>rfl
    obtain ⟨c,r',rfl⟩:=Xv l ha
    rw [ha,Bool.false_or]at hs
    rw [ha]at bl
    have hh: ¬ ((c.toNat:Nat):Int)=35:=of_decide_eq_false (by rw [Xn];exact hs)
    have hc:=Xo c r'
    cases h2:yb (c::r') r with
    |none=>
     obtain ⟨q,nx,on⟩:=qgS true Ls hL hT i (c::r') hx (by rw [hd];exact h2)
     simp only
     refine ⟨[((8,0),3,[.a [I q.kind,S q.name,S q.text]]),((100000,0),3,[]),((100000,1),3,out.map oRq),((100000,2),1,Ls.map S)], ?_,rfl⟩
     rw [qQ]
     simp only [go_sem,qa,qb,qc,qd,qe,qf,reduceCtorEq,ki,h1,e1,g1,ix,bl,hc,hh,on,tkL]
    |some qn=>
     obtain ⟨q,n⟩:=qn
     simp only
     have on:=qgU true Ls hL hT i (c::r') hx q n (by rw [hd];exact h2)
     obtain ⟨q1,q2,q3⟩:=qcq h2
     have hdt:qK r≤2^40:=by
      have:qK Ls=qK (Ls.take (i+1))+qK (Ls.drop (i+1)):=by
       simp only [qK];rw [← List.sum_append, ← List.map_append,List.take_append_drop]
      rw [hd]at this;omega
     have hT':(c::r').length+qK r≤2^40:=by
      have:qK Ls=qK (Ls.take i)+qK (Ls.drop i):=by
       simp only [qK];rw [← List.sum_append, ← List.map_append,List.take_append_drop]
      rw [hr]at this
      simp only [qK,List.map_cons,List.sum_cons]at this hT ⊢
      omega
     have ro:=qiG q (by omega) (by omega)
     cases hk:okR q with
     |false=>
      rw [hk]at ro
      rw [if_neg (by simp)]
      refine ⟨[((8,0),3,[.a [I q.kind,S q.name,S q.text]]),((100000,0),3,[]),((100000,1),3,out.map oRq),((100000,2),1,Ls.map S)], ?_,rfl⟩
      rw [qQ]
      simp only [go_sem,qa,qb,qc,qd,qe,qf,reduceCtorEq,ki,h1,e1,g1,ix,bl,hc,hh,on,ro,tkL]
     |true=>
      rw [hk]at ro
      by_cases h20:out.length=20
      ·have h20':(out.length:Int)=20:=by omega
       rw [if_neg (by simp [h20])]
       refine ⟨[((8,0),3,[.a [I q.kind,S q.name,S q.text]]),((100000,0),3,[]),((100000,1),3,out.map oRq),((100000,2),1,Ls.map S)], ?_,rfl⟩
       rw [qQ]
       simp only [go_sem,qa,qb,qc,qd,qe,qf,reduceCtorEq,ki,h1,e1,g1,ix,bl,hc,hh,on,ro,tkL,h20']
      ·have h20': ¬ (out.length:Int)=20:=by omega
       rw [if_pos ⟨rfl,h20⟩]
       have l1:decide ((out.length+1)*40≤lim)=true:=decide_eq_true (by rw [k7];omega)
       have l2:decide (out.length+1≤lim)=true:=decide_eq_true (by rw [k7];omega)
       have eo:(out++[q]).map oRq=out.map oRq++[.a [I q.kind,S q.name,S q.text]]:=by simp [oRq]
       have tko:(out.map oRq).take out.length=out.map oRq:=List.take_of_length_le (by simp)
       have stp:lw qp xO ⟨[(4,.s (100000,0) 0 0),(5,.s (100000,1) 0 (out).length),(6,.s (100000,2) 0 Ls.length),(7,I i)],[((100000,0),3,[]),((100000,1),3,(out).map oRq),((100000,2),1,Ls.map S)]⟩=lw qp xO ⟨[(4,.s (100000,0) 0 0),(5,.s (100000,1) 0 ((out++[q])).length),(6,.s (100000,2) 0 Ls.length),(7,I ((i+1+n:Nat):Int))],[((100000,0),3,[]),((100000,1),3,((out++[q])).map oRq),((100000,2),1,Ls.map S)]⟩:=by
        rw [qQ,eo]
        simp only [go_sem,qa,qb,qc,qd,qe,qf,reduceCtorEq,ki,h1,e1,g1,ix,bl,hc,hh,on,ro,tkL,h20',l1,l2,tko,List.length_map,List.length_append,List.length_cons,List.length_nil]
       have:=ih (r.drop n) (i+1+n) (out++[q]) (by rw [← hd,List.drop_drop]) (by rw [List.length_drop];omega) (by rw [List.length_drop];omega) (by simp;omega)
       simp only [stp]
       exact this
end Go.Vm
namespace Go.Vm
theorem ZF(good:List Rq→Prop) (bad:Int→Prop): ∀ (f:Nat) (r:List Str) (i:Nat) (out:List Rq),y0 f r i out good bad→r.length < f→out.length≤20→
 (good (y9 f r i out).1∧(y9 f r i out).2=0∧(y9 f r i out).1.length≤20)∨(bad (y9 f r i out).2∧(y9 f r i out).1=[])
 |0,r,i,out,h,hf,ho=>by omega
 |f+1,[],i,out,h,hf,ho=>by simp only [y0]at h;exact .inl ⟨h,rfl,ho⟩
 |f+1,l::r,i,out,h,hf,ho=>by
  simp only [List.length_cons]at hf
  simp only [y0]at h
  simp only [y9]
  by_cases hs:kD l=true
  ·rw [if_pos hs]at h ⊢
   exact ZF good bad f r (i+1) out h (by omega) ho
  ·rw [if_neg hs]at h ⊢
   cases h2:yb l r with
   |none=>rw [h2]at h;exact .inr ⟨h,rfl⟩
   |some qn=>
    obtain ⟨q,n⟩:=qn
    rw [h2]at h
    simp only at h ⊢
    by_cases hk:okR q=true∧out.length ≠ 20
    ·rw [if_pos hk]at h ⊢
     exact ZF good bad f (r.drop n) (i+1+n) (out++[q]) h (by rw [List.length_drop];omega) (by simp;omega)
    ·rw [if_neg hk]at h ⊢
     exact .inr ⟨h,rfl⟩
theorem qhJ(s:Str):(xF s).1.length≤20:=by
 unfold xF
 split
 ·simp
 ·have h:=ZF (fun _=>True) (fun _=>True) (s.length+2) (qU [] s) 0 []
  have tr: ∀ (f:Nat) (r:List Str) (i:Nat) (out:List Rq),y0 f r i out (fun _=>True) (fun _=>True):=by
   intro f
   induction f with
   |zero=>intro r i out;exact trivial
   |succ f ih=>
    intro r i out
    cases r with
    |nil=>exact trivial
    |cons l r=>
     simp only [y0]
     split
     ·exact ih _ _ _
     ·split
      ·exact trivial
      ·split
       ·exact ih _ _ _
       ·exact trivial
  have hl:=ZL s []
  rcases h (tr _ _ _ _) (by omega) (by simp)with h|h
  ·exact h.2.2
  ·rw [h.2];simp
theorem qiF(s:Str) (hl:s.length≤2^40):cr qp Ke [S s]=some (.t [.o 3 ((xF s).1.map oRq),I (xF s).2]):=by
 rw [zp qhc rfl]
 unfold xF
 by_cases hb:2500 < s.length
 ·have hb':(2500:Int) < s.length:=by omega
  rw [if_pos hb]
  simp only [go_sem,qa,qb,qc,qd,qe,qf,reduceCtorEq,kJ,hb',List.map_nil]
 ·have hb': ¬ (2500:Int) < s.length:=by omega
  rw [if_neg hb]
  have li:=qgs s (by omega)
  have h1:=ZL s []
  have h2:=Xr s []
  simp only [List.length_nil]at h2
  have lp:=ZF _ _ (s.length+2) (qU [] s) 0 [] (qiI (qU [] s) (by omega) (by omega) (s.length+2) (qU [] s) 0 [] rfl (by omega) (by omega) (by simp)) (by omega) (by simp)
  simp only [Int.natCast_zero,List.map_nil,List.length_nil]at lp
  have tkL:((qU [] s).map S).take (qU [] s).length=(qU [] s).map S:=List.take_of_length_le (by simp)
  generalize y9 (s.length+2) (qU [] s) 0 []=R at*
  generalize qU [] s=Ls at*
  obtain ⟨o,c⟩:=R
  rcases lp with ⟨lp,hc,ho⟩|⟨⟨T,lp,hT⟩,hc⟩
  ·simp only at lp hc ho
   subst hc
   have tko:(o.map oRq).take o.length=o.map oRq:=List.take_of_length_le (by simp)
   simp only [go_sem,qa,qb,qc,qd,qe,qf,reduceCtorEq,kJ,hb',li,lp,tkL,tko,List.length_map]
  ·simp only at lp hc
   subst hc
   simp only [go_sem,qa,qb,qc,qd,qe,qf,reduceCtorEq,kJ,hb',li,lp,tkL,hT,List.length_map,List.map_nil]
theorem qbG(Ls:List Str) (hL:Ls.length≤2^30) (out:List Rq) (at':Int) (nm:Str): ∀ (r:List Str) (i:Nat) (t:Str),Ls.drop i=r→i+r.length=Ls.length→t.length+qK r≤2^40→
 (∀ x n,yh r t=some (x,n)→lw qp kO ⟨[(4,.i false (Ls.map S)),(5,.s (100000,0) 0 out.length),(6,I i),(8,I at'),(9,.p (100000,1) 0 0)],[((100000,0),3,out.map oRq),((100000,1),3,[.a [I 3,S nm,S t]])]⟩=some (.exit 2,⟨[(4,.i false (Ls.map S)),(5,.s (100000,0) 0 out.length),(6,I ((i+n:Nat):Int)),(8,I at'),(9,.p (100000,1) 0 0)],[((100000,0),3,out.map oRq),((100000,1),3,[.a [I 3,S nm,S x]])]⟩))∧
 (yh r t=none→ ∃ x:Str,x.length≤2^40∧lw qp kO ⟨[(4,.i false (Ls.map S)),(5,.s (100000,0) 0 out.length),(6,I i),(8,I at'),(9,.p (100000,1) 0 0)],[((100000,0),3,out.map oRq),((100000,1),3,[.a [I 3,S nm,S t]])]⟩=some (.exit 2,⟨[(4,.i false (Ls.map S)),(5,.s (100000,0) 0 out.length),(6,I (Ls.length:Int)),(8,I at'),(9,.p (100000,1) 0 0)],[((100000,0),3,out.map oRq),((100000,1),3,[.a [I 3,S nm,S x]])]⟩))
 |[],i,t,h,hi,ht=>by
  have h1: ¬ (i:Int) < (Ls.length:Int):=by simp only [List.length_nil]at hi;omega
  have hii:i=Ls.length:=by simp only [List.length_nil]at hi;omega
  refine ⟨fun x n h=>by simp [yh]at h,fun _=>⟨t,by omega, ?_⟩⟩
  rw [qQ]
  subst hii
  simp only [go_sem,qa,qb,qc,qd,qe,qf,reduceCtorEq,Zk,h1,List.length_map]
 |y::r,i,t,h,hi,ht=>by
  simp only [List.length_cons]at hi
  simp only [qK,List.map_cons,List.sum_cons]at ht
  have hx:Ls[i]? =some y:=by
   have:=congrArg (fun z=>z[0]?) h
   simpa using this
  have hd:Ls.drop (i+1)=r:=by
   have:=congrArg (fun z=>z.drop 1) h
   simpa [List.drop_drop,Nat.add_comm]using this
  have h1:(i:Int) < (Ls.length:Int):=by omega
  have e1:w64 ((i:Int)+1)=((i+1:Nat):Int):=by rw [zA]<;>omega
  have g1:=kX (f:=S) hx
  have a1:=fun T=>kj (τ:=false) (T:=T) (e:=1) g1 rfl
  have b1:=ju (x:=y) (y:=[10]) (by simp only [List.length_cons,List.length_nil];omega)
  have b2:=ju (x:=t) (y:=y++[10]) (by simp only [List.length_append,List.length_cons,List.length_nil];omega)
  obtain ⟨i1,i2⟩:=qbG Ls hL out at' nm r (i+1) (t++(y++[10])) hd (by omega) (by simp only [List.length_append,List.length_cons,List.length_nil,qK];omega)
  simp only [yh]
  by_cases hy:y=JT
  ·have hyd:decide (y=[101,110,100])=true:=decide_eq_true hy
   rw [if_pos hy]
   refine ⟨fun x n h=> ?_,fun h=>by cases h⟩
   simp only [Option.some.injEq,Prod.mk.injEq]at h
   obtain ⟨rfl,rfl⟩:=h
   rw [qQ]
   simp only [go_sem,qa,qb,qc,qd,qe,qf,reduceCtorEq,Zk,h1,e1,g1,a1,hyd,List.length_map]
  ·have hyd:decide (y=[101,110,100])=false:=decide_eq_false hy
   rw [if_neg hy]
   have stp:lw qp kO ⟨[(4,.i false (Ls.map S)),(5,.s (100000,0) 0 out.length),(6,I i),(8,I at'),(9,.p (100000,1) 0 0)],[((100000,0),3,out.map oRq),((100000,1),3,[.a [I 3,S nm,S t]])]⟩=lw qp kO ⟨[(4,.i false (Ls.map S)),(5,.s (100000,0) 0 out.length),(6,I ((i+1:Nat):Int)),(8,I at'),(9,.p (100000,1) 0 0)],[((100000,0),3,out.map oRq),((100000,1),3,[.a [I 3,S nm,S (t++(y++[10]))]])]⟩:=by
    rw [qQ]
    simp only [go_sem,qa,qb,qc,qd,qe,qf,reduceCtorEq,Zk,h1,e1,g1,a1,hyd,b1,b2,List.length_map]
   rw [stp]
   refine ⟨fun x n h=> ?_,fun h=> ?_⟩
   ·simp only [Option.map_eq_some_iff]at h
    obtain ⟨⟨x',n'⟩,h1,h2⟩:=h
    simp only [Prod.mk.injEq]at h2
    obtain ⟨rfl,rfl⟩:=h2
    rw [i1 _ _ h1,show i+1+n'=i+(n'+1)by omega]
   ·exact i2 (by simpa using h)
end Go.Vm
namespace Go.Vm
theorem qfk(Ls:List Str) (hL:Ls.length≤2^30) (hT:qK Ls≤2^40) (f:Nat): ∀ (r:List Str) (i:Nat) (out:List Rq),Ls.drop i=r→i+r.length=Ls.length→r.length < f→out.length≤20→
 y0 f r i out (fun o=>lw qp xg ⟨[(4,.i false (Ls.map S)),(5,.s (100000,0) 0 (out).length),(6,I i)],[((100000,0),3,(out).map oRq)]⟩=some (.exit 0,⟨[(5,.s (100000,0) 0 o.length)],[((100000,0),3,o.map oRq)]⟩)) (fun c=> ∃ T,lw qp xg ⟨[(4,.i false (Ls.map S)),(5,.s (100000,0) 0 (out).length),(6,I i)],[((100000,0),3,(out).map oRq)]⟩=some (.ret,⟨[(2,.n 3),(3,I c)],T⟩)):=by
 induction f with
 |zero=>intro r i out _ _ h;omega
 |succ f ih=>
  intro r i out hr hi hf ho
  cases r with
  |nil=>
   simp only [y0]
   have h1: ¬ (i:Int) < (Ls.length:Int):=by simp only [List.length_nil]at hi;omega
   rw [qQ]
   simp only [go_sem,qa,qb,qc,qd,qe,qf,reduceCtorEq,yV,h1,List.length_map]
  |cons l r=>
   simp only [List.length_cons]at hi hf
   have hx:Ls[i]? =some l:=by
    have:=congrArg (fun z=>z[0]?) hr
    simpa using this
   have hd:Ls.drop (i+1)=r:=by
    have:=congrArg (fun z=>z.drop 1) hr
    simpa [List.drop_drop,Nat.add_comm]using this
   have h1:(i:Int) < (Ls.length:Int):=by omega
   have e1:w64 ((i:Int)+1)=((i+1:Nat):Int):=by rw [zA]<;>omega
   have g1:=kX (f:=S) hx
   have a1:=fun T=>kj (τ:=false) (T:=T) (e:=1) g1 rfl
   have hlt:l.length≤2^40:=by have:=Xt (List.mem_of_getElem? hx);omega
   have tr:=qeN qhn l 32 (by decide) (by omega)
   have tn:decide (Lib.trimB l 32=[])=zo 32 l:=by
    rw [Bool.eq_iff_iff,decide_eq_true_eq];exact qi2 32 l
   simp only [y0]
   cases hs:kD l with
   |true=>
    rw [if_pos rfl]
    have stp:lw qp xg ⟨[(4,.i false (Ls.map S)),(5,.s (100000,0) 0 (out).length),(6,I i)],[((100000,0),3,(out).map oRq)]⟩=lw qp xg ⟨[(4,.i false (Ls.map S)),(5,.s (100000,0) 0 (out).length),(6,I ((i+1:Nat):Int))],[((100000,0),3,(out).map oRq)]⟩:=by
     rw [qQ]
     unfold kD at hs
     cases ha:zo 32 l with
     |true=>
      rw [ha]at tn
      simp only [go_sem,qa,qb,qc,qd,qe,qf,reduceCtorEq,yV,h1,e1,g1,a1,tr,tn,List.length_map]
     |false=>
      obtain ⟨c,r',rfl⟩:=Xv l ha
      rw [ha,Bool.false_or]at hs
      rw [ha]at tn
      have hh:((c.toNat:Nat):Int)=35:=of_decide_eq_true (by rw [Xn];exact hs)
      have hc:=Xo c r'
      simp only [go_sem,qa,qb,qc,qd,qe,qf,reduceCtorEq,yV,h1,e1,g1,a1,tr,tn,hc,hh,List.length_map]
    have:=ih r (i+1) out hd (by omega) (by omega) ho
    simp only [stp]
    exact this
   |false=>
    rw [if_neg (by decide)]
    unfold kD at hs
    have ha:zo 32 l=false:=by cases h:zo 32 l with|true=>rw [h]at hs;cases hs|false=>rfl
    obtain ⟨c,r',hl'⟩:=Xv l ha
    rw [ha,Bool.false_or]at hs
    rw [ha]at tn
    have hc:ixV (S l) (I 0)=some (U8 c.toNat):=by rw [hl'];exact Xo c r'
    have hh: ¬ ((c.toNat:Nat):Int)=35:=of_decide_eq_false (by rw [Xn];rw [hl']at hs;exact hs)
    have rq:=qhT l
    have cf:=KB l y6
    have hT':l.length+qK r≤2^40:=by
     have:qK Ls=qK (Ls.take i)+qK (Ls.drop i):=by
      simp only [qK];rw [← List.sum_append, ← List.map_append,List.take_append_drop]
     rw [hr]at this
     simp only [qK,List.map_cons,List.sum_cons]at this hT ⊢
     omega
    rw [show y6=[102,105,108,101,32]from rfl]at cf
    have l1:decide ((out.length+1)*40≤lim)=true:=decide_eq_true (by rw [k7];omega)
    have l2:decide (out.length+1≤lim)=true:=decide_eq_true (by rw [k7];omega)
    have tko:(out.map oRq).take out.length=out.map oRq:=List.take_of_length_le (by simp)
    cases h1f:zh y6 l with
    |some nm=>
     rw [show y6=[102,105,108,101,32]from rfl]at h1f
     simp only [h1f,Option.getD_some,Option.isSome_some]at cf
     have hnm:=Xj h1f
     obtain ⟨f1,f2⟩:=qbG Ls hL out ((i+1:Nat):Int) nm r (i+1) [] hd (by omega) (by simp;omega)
     cases h2:yh r []with
     |none=>
      obtain ⟨x,hxl,f2⟩:=f2 h2
      have hor:yb l r=none:=by
       unfold yb
       rw [show zh y6 l=some nm from h1f];simp only [h2];rfl
      rw [hor]
      simp only
      have hnn: ¬ (Ls.length:Int) < (Ls.length:Int):=by omega
      refine ⟨[((100000,0),3,out.map oRq),((100000,1),3,[.a [I 3,S nm,S x]])], ?_⟩
      rw [qQ]
      simp only [go_sem,qa,qb,qc,qd,qe,qf,reduceCtorEq,yV,h1,e1,g1,a1,tr,tn,hc,hh,rq,cf,f2,hnn,List.length_map]
     |some xn=>
      obtain ⟨x,n⟩:=xn
      have f1:=f1 x n h2
      have hor:yb l r=some (⟨3,nm,x⟩,n+1):=by
       unfold yb
       rw [show zh y6 l=some nm from h1f];simp only [h2];rfl
      obtain ⟨t1,t2⟩:=JQ _ _ _ _ h2
      simp only [List.length_nil]at t1
      rw [hor]
      simp only
      have hnn:((i+1+n:Nat):Int) < (Ls.length:Int):=by omega
      have e2:w64 (((i+1+n:Nat):Int)+1)=((i+1+(n+1):Nat):Int):=by rw [zA]<;>omega
      have ro:=qbF ⟨3,nm,x⟩ (by simp only;omega) (by simp only;omega)
      simp only at ro
      cases hk:okR ⟨3,nm,x⟩with
      |false=>
       rw [hk]at ro
       rw [if_neg (by simp)]
       refine ⟨[((100000,0),3,out.map oRq),((100000,1),3,[.a [I 3,S nm,S x]])], ?_⟩
       rw [qQ]
       simp only [go_sem,qa,qb,qc,qd,qe,qf,reduceCtorEq,yV,h1,e1,g1,a1,tr,tn,hc,hh,rq,cf,f1,hnn,ro,List.length_map]
      |true=>
       rw [hk]at ro
       by_cases h20:out.length=20
       ·have h20':(out.length:Int)=20:=by omega
        rw [if_neg (by simp [h20])]
        refine ⟨[((100000,0),3,out.map oRq),((100000,1),3,[.a [I 3,S nm,S x]])], ?_⟩
        rw [qQ]
        simp only [go_sem,qa,qb,qc,qd,qe,qf,reduceCtorEq,yV,h1,e1,g1,a1,tr,tn,hc,hh,rq,cf,f1,hnn,ro,h20',List.length_map]
       ·have h20': ¬ (out.length:Int)=20:=by omega
        rw [if_pos ⟨rfl,h20⟩]
        have eo:(out++[(⟨3,nm,x⟩:Rq)]).map oRq=out.map oRq++[.a [I 3,S nm,S x]]:=by simp [oRq]
        have stp:lw qp xg ⟨[(4,.i false (Ls.map S)),(5,.s (100000,0) 0 (out).length),(6,I i)],[((100000,0),3,(out).map oRq)]⟩=lw qp xg ⟨[(4,.i false (Ls.map S)),(5,.s (100000,0) 0 ((out++[(⟨3,nm,x⟩:Rq)])).length),(6,I ((i+1+(n+1):Nat):Int))],[((100000,0),3,((out++[(⟨3,nm,x⟩:Rq)])).map oRq)]⟩:=by
         rw [qQ,eo]
         simp only [go_sem,qa,qb,qc,qd,qe,qf,reduceCtorEq,yV,h1,e1,g1,a1,tr,tn,hc,hh,rq,cf,f1,hnn,ro,h20',e2,l1,l2,tko,List.length_map,List.length_append,List.length_cons,List.length_nil]
        have:=ih (r.drop (n+1)) (i+1+(n+1)) (out++[(⟨3,nm,x⟩:Rq)]) (by rw [← hd,List.drop_drop]) (by rw [List.length_drop];omega) (by rw [List.length_drop];omega) (by simp;omega)
        simp only [stp]
        exact this
    |none=>
     rw [show y6=[102,105,108,101,32]from rfl]at h1f
     simp only [h1f,Option.getD_none,Option.isSome_none]at cf
     have hor:yb l r=(je l).map fun q=>(q,0):=by
      unfold yb je
      rw [show zh y6 l=none from h1f]
      simp only
      cases zh kB l with
      |some nm=>rfl
      |none=>cases zh kA l<;>rfl
     cases hq:je l with
     |none=>
      rw [hor,hq]
      simp only [hq,Option.getD_none,Option.isSome_none]at rq
      simp only [Option.map_none]
      refine ⟨[((9,0),3,[.a [I 0,S [],S []]]),((100000,0),3,out.map oRq)], ?_⟩
      rw [qQ]
      simp only [go_sem,qa,qb,qc,qd,qe,qf,reduceCtorEq,yV,h1,e1,g1,a1,tr,tn,hc,hh,rq,cf,List.length_map]
     |some q=>
      obtain ⟨q1,q2,q3⟩:=qcq (hor.trans (by rw [hq];rfl):yb l r=some (q,0))
      rw [hor,hq]
      simp only [hq,Option.getD_some,Option.isSome_some]at rq
      simp only [Option.map_some]
      have ro:=qbF q (by omega) (by omega)
      cases hk:okR q with
      |false=>
       rw [hk]at ro
       rw [if_neg (by simp)]
       refine ⟨[((9,0),3,[.a [I q.kind,S q.name,S q.text]]),((100000,0),3,out.map oRq)], ?_⟩
       rw [qQ]
       simp only [go_sem,qa,qb,qc,qd,qe,qf,reduceCtorEq,yV,h1,e1,g1,a1,tr,tn,hc,hh,rq,cf,ro,List.length_map]
      |true=>
       rw [hk]at ro
       by_cases h20:out.length=20
       ·have h20':(out.length:Int)=20:=by omega
        rw [if_neg (by simp [h20])]
        refine ⟨[((9,0),3,[.a [I q.kind,S q.name,S q.text]]),((100000,0),3,out.map oRq)], ?_⟩
        rw [qQ]
        simp only [go_sem,qa,qb,qc,qd,qe,qf,reduceCtorEq,yV,h1,e1,g1,a1,tr,tn,hc,hh,rq,cf,ro,h20',List.length_map]
       ·have h20': ¬ (out.length:Int)=20:=by omega
        rw [if_pos ⟨rfl,h20⟩]
        have eo:(out++[q]).map oRq=out.map oRq++[.a [I q.kind,S q.name,S q.text]]:=by simp [oRq]
        have stp:lw qp xg ⟨[(4,.i false (Ls.map S)),(5,.s (100000,0) 0 (out).length),(6,I i)],[((100000,0),3,(out).map oRq)]⟩=lw qp xg ⟨[(4,.i false (Ls.map S)),(5,.s (100000,0) 0 ((out++[q])).length),(6,I ((i+1+0:Nat):Int))],[((100000,0),3,((out++[q])).map oRq)]⟩:=by
         rw [qQ,eo,Nat.add_zero]
         simp only [go_sem,qa,qb,qc,qd,qe,qf,reduceCtorEq,yV,h1,e1,g1,a1,tr,tn,hc,hh,rq,cf,ro,h20',l1,l2,tko,List.length_map,List.length_append,List.length_cons,List.length_nil]
        have:=ih (r.drop 0) (i+1+0) (out++[q]) (by rw [← hd,List.drop_drop]) (by rw [List.length_drop];omega) (by rw [List.length_drop];omega) (by simp;omega)
        simp only [stp]
        exact this
theorem qfd(l:List Str):KU 1 (l.map S)=true:=by cases l<;>rfl
theorem qiC(C:List Str) (T:Mem):Qy T 1 (.i false (C.map S)) none (some (I ((C.length - 1:Nat):Int)))=some (.i false ((C.map S).take (C.length - 1))):=by
 simp only [Qy,k6,yj,I,List.length_map]
 rw [if_pos (by omega)]
 simp only [Int.toNat_natCast]
 rw [if_pos ⟨Nat.zero_le _,by omega⟩,if_pos (qfd C)]
 simp
theorem qfh(s:Str) (hl:s.length≤2^40):cr qp YF [S s]=some (.t [.o 3 ((xF s).1.map oRq),I (xF s).2]):=by
 rw [zp qgZ rfl]
 unfold xF
 by_cases hb:2500 < s.length
 ·have hb':(2500:Int) < s.length:=by omega
  rw [if_pos hb]
  simp only [go_sem,qa,qb,qc,qd,qe,qf,reduceCtorEq,xK,hb',List.map_nil]
 ·have hb': ¬ (2500:Int) < s.length:=by omega
  rw [if_neg hb]
  have sp:=qeM qhm s 10 (by omega)
  rw [qiN]at sp
  have h1:=ZL s []
  have h2:=Xr s []
  obtain ⟨C,hne,hcl,sp⟩: ∃ C,∃ hne:C ≠ [],(qU [] s=if C.getLast hne=[]then C.dropLast else C)∧cr qp Kk [S s,S [10]]=some (.i false (C.map S)):=⟨_,Xi s [],KA s [],sp⟩
  simp only [List.length_nil]at h2
  have lp:=ZF _ _ (s.length+2) (qU [] s) 0 [] (qfk (qU [] s) (by omega) (by omega) (s.length+2) (qU [] s) 0 [] rfl (by omega) (by omega) (by simp)) (by omega) (by simp)
  simp only [Int.natCast_zero,List.map_nil,List.length_nil]at lp
  generalize y9 (s.length+2) (qU [] s) 0 []=R at*
  have hC:0 < C.length:=List.length_pos_iff.2 hne
  have hCl:C.length≤s.length+3:=by
   by_cases h:C.getLast hne=[]
   ·rw [if_pos h]at hcl;rw [hcl]at h1;simp at h1;omega
   ·rw [if_neg h]at hcl;rw [hcl]at h1;omega
  have e1:w64 ((C.length:Int) - 1)=((C.length - 1:Nat):Int):=by rw [zA]<;>omega
  have gl:C[C.length - 1]? =some (C.getLast hne):=by rw [List.getLast_eq_getElem,List.getElem?_eq_getElem]
  have g1:=kX (f:=S) gl
  have a1:=fun T=>kj (τ:=false) (T:=T) (e:=1) g1 rfl
  obtain ⟨o,c⟩:=R
  by_cases hg:C.getLast hne=[]
  ·rw [if_pos hg]at hcl
   have hd:(C.map S).take (C.length - 1)=(qU [] s).map S:=by rw [hcl,List.dropLast_eq_take,List.map_take]
   have sv:=qiC C
   have hle:((C.length - 1:Nat):Int)≤(C.length:Int):=by omega
   have hle':C.length - 1≤C.length:=by omega
   rw [hg]at g1
   generalize qU [] s=Ls at*
   rcases lp with ⟨lp,hc,ho⟩|⟨⟨T,lp⟩,hc⟩
   ·simp only at lp hc ho
    subst hc
    have tko:(o.map oRq).take o.length=o.map oRq:=List.take_of_length_le (by simp)
    simp only [go_sem,qa,qb,qc,qd,qe,qf,reduceCtorEq,xK,hb',sp,lp,e1,g1,a1,hd,sv,tko,List.length_map]
   ·simp only at lp hc
    subst hc
    simp only [go_sem,qa,qb,qc,qd,qe,qf,reduceCtorEq,xK,hb',sp,lp,e1,g1,a1,hd,sv,List.length_map,List.map_nil]
  ·rw [if_neg hg]at hcl
   have hgd:decide (C.getLast hne=[])=false:=decide_eq_false hg
   rw [hcl]at lp
   rcases lp with ⟨lp,hc,ho⟩|⟨⟨T,lp⟩,hc⟩
   ·simp only at lp hc ho
    subst hc
    have tko:(o.map oRq).take o.length=o.map oRq:=List.take_of_length_le (by simp)
    simp only [go_sem,qa,qb,qc,qd,qe,qf,reduceCtorEq,xK,hb',sp,lp,e1,g1,a1,hgd,tko,List.length_map]
   ·simp only at lp hc
    subst hc
    simp only [go_sem,qa,qb,qc,qd,qe,qf,reduceCtorEq,xK,hb',sp,lp,e1,g1,a1,hgd,List.length_map,List.map_nil]
end Go.Vm
namespace Go.Vm
theorem qgC: ∀ (n:Nat) (k:Int) (l:Str),k≤n→0≤k→k < 9223372036854775808→l.length+n≤2^62→
 ∃ l',lw qp Zg ⟨[(0,I k),(3,S l)],[]⟩=some (.exit 0,⟨[(3,S l')],[]⟩)∧l'.length≤2^62:=by
 intro n
 induction n with
 |zero=>
  intro k l h1 h2 hbig h3
  obtain rfl:k=0:=by omega
  rw [qQ]
  simp only [go_sem,qa,qb,qc,qd,qe,qf,reduceCtorEq,Zm,show ¬ (0:Int) < 0 by decide]
  exact ⟨l,rfl,by omega⟩
 |succ n ih=>
  intro k l h1 h2 hbig h3
  rw [qQ]
  by_cases h:0 < k
  ·have e1:ze .rem (I k) (I 10)=_:=qer (by decide)
   have e2:ze .quo (I k) (I 10)=_:=qeq (by decide)
   have hq:k.tdiv 10=k / 10:=Int.tdiv_eq_ediv_of_nonneg h2
   have e3:w64 (k.tdiv 10)=k / 10:=by rw [hq,zA]<;>omega
   have hm:k.tmod 10=k % 10:=Int.tmod_eq_emod_of_nonneg h2
   have e4:w64 (48+k.tmod 10)=48+k % 10:=by rw [hm,zA]<;>omega
   have e5:IntKind.u8.wrap (48+k % 10)=48+k % 10:=by
    have:(48+k % 10) % 256=48+k % 10:=by omega
    exact this
   have e6:xj [U8 (48+k % 10)]=some [UInt8.ofNat (48+k % 10).toNat]:=rfl
   have e7:ze .add (S [UInt8.ofNat (48+k % 10).toNat]) (S l)=_:=ju (by simp only [List.length_cons,List.length_nil];omega)
   obtain ⟨l',g1,g2⟩:=ih (k / 10) ([UInt8.ofNat (48+k % 10).toNat]++l) (by omega) (by omega) (by omega) (by simp only [List.length_append,List.length_cons,List.length_nil];omega)
   refine ⟨l', ?_,g2⟩
   simp only [go_sem,qa,qb,qc,qd,qe,qf,reduceCtorEq,Zm,h,e1,e2,e3,e4,e5,e6,e7,List.cons_append,List.nil_append]at g1 ⊢
   exact g1
  ·obtain rfl:k=0:=by omega
   simp only [go_sem,qa,qb,qc,qd,qe,qf,reduceCtorEq,Zm,show ¬ (0:Int) < 0 by decide]
   exact ⟨l,rfl,by omega⟩
theorem qbZ(k:Int) (hk:k < 4000000000000000000): ∃ s:Str,s.length≤2^62+1∧cr qp kN [I k]=some (S s):=by
 rw [zp qhb rfl]
 by_cases h:k≤0
 ·simp only [go_sem,qa,qb,qc,qd,qe,qf,reduceCtorEq,jn,h]
  exact ⟨_,by decide,rfl⟩
 ·obtain ⟨l',g1,g2⟩:=qgC k.toNat k [] (by omega) (by omega) (by omega) (by simp only [List.length_nil];omega)
  have e7:ze .add (S [109]) (S l')=_:=ju (by simp only [List.length_cons,List.length_nil];omega)
  simp only [go_sem,qa,qb,qc,qd,qe,qf,reduceCtorEq,jn,h,g1,e7]
  exact ⟨_,by simp only [List.length_append,List.length_cons,List.length_nil];omega,rfl⟩
end Go.Vm
namespace Go.Vm
open Classical in
noncomputable def mkT(k:Int):Str:=if h:k < 4000000000000000000 then (qbZ k h).choose else []
theorem Xu(k:Int) (h:k < 4000000000000000000):cr qp kN [I k]=some (S (mkT k)):=by
 unfold mkT;rw [dif_pos h];exact (qbZ k h).choose_spec.2
mutual
noncomputable def ZN:Tm→Int→Tm × Int
 | .mk _ _ _ ks,k=>(.mk k (mkT (k+1)) (k+2) (jC ks (k+3)).1,(jC ks (k+3)).2)
noncomputable def jC:List Tm→Int→List Tm × Int
 |[],k=>([],k)
 |t::ts,k=>((ZN t k).1::(jC ts (ZN t k).2).1,(jC ts (ZN t k).2).2)
end
mutual
theorem qgB: ∀ (t:Tm) (k:Int),(ZN t k).2=k+3*nT t
 | .mk _ _ _ ks,k=>by simp only [ZN,nT,qb0 ks (k+3)];omega
theorem qb0: ∀ (ts:List Tm) (k:Int),(jC ts k).2=k+3*nTs ts
 |[],k=>by simp [jC,nTs]
 |t::ts,k=>by simp only [jC,nTs,qb0 ts,qgB t k];omega
end
end Go.Vm
namespace Go.Vm
theorem qbf {f:Nat} {xs:List V} (hs:cr qp f xs=some (B true)): ∃ outs,cw qp f xs=some (B true,outs):=by
 unfold cr at hs
 cases hc:cw qp f xs with
 |none=>rw [hc]at hs;cases hs
 |some r=>rw [hc]at hs;obtain ⟨a,b⟩:=r;simp only [Option.map_some,Option.some.injEq]at hs;subst hs;exact ⟨b,rfl⟩
theorem qe0(τ τ':Bool) (vs vs':List V) (ts ts':List Rq) (hv:RL bRq ts vs) (hv':RL bRq ts' vs') (hw:ts.length≤Lm) (hw': ∀ t ∈ ts,wRq t):
 cr qp YJ [.i τ vs,.i τ' vs']=some (B (decide (ts=ts'))):=by
 have:=qe3 (prog:=qp) YJ YI 3 rfl qed τ τ' vs vs' ts ts' hv hv' hw (fun t ht t' v v' h h'=>by rw [qe1 t (hw' t ht) t' v v' h h'])
 rw [this]
noncomputable def mkR:Int→List Rq→List Rq
 |_,[]=>[]
 |k,_::r=>⟨k,mkT (k+1),mkT (k+2)⟩::mkR (k+3) r
theorem Qn: ∀ (r:List Rq) (k:Int),(mkR k r).length=r.length
 |[],k=>rfl
 |x::r,k=>by simp only [mkR,List.length_cons,Qn r]
theorem qbY(n:Nat) (hn:n≤2^10): ∀ (r ys:List Rq) (k:Int),ys.length+r.length=n→0≤k→k+3*r.length≤2^30→
 lw qp Zf ⟨[(0,.s (0,0) 0 n),(1,I k),(5,I (ys.length:Nat))],[((0,0),3,(ys++r).map oRq)]⟩=
  some (.exit 0,⟨[(1,I (k+3*(r.length:Nat)))],[((0,0),3,(ys++mkR k r).map oRq)]⟩)
 |[],ys,k,h,h0,hk=>by
  have h1: ¬ ((ys.length:Nat):Int) < (n:Int):=by simp only [List.length_nil]at h;omega
  simp only [mkR,List.length_nil,Int.natCast_zero,Int.mul_zero,Int.add_zero]
  rw [qQ]
  simp only [go_sem,qa,qb,qc,qd,qe,qf,reduceCtorEq,Y5,h1]
 |x::r,ys,k,h,h0,hk=>by
  simp only [List.length_cons]at h hk
  have h1:((ys.length:Nat):Int) < (n:Int):=by omega
  have mk1:=Xu (k+1) (by omega)
  have mk2:=Xu (k+2) (by omega)
  have w1:w64 (k+1)=k+1:=by rw [zA]<;>omega
  have w2:w64 (k+1+1)=k+2:=by rw [zA]<;>omega
  have w3:w64 (k+2+1)=k+3:=by rw [zA]<;>omega
  have e2:w64 (((ys.length:Nat):Int)+1)=((ys.length+1:Nat):Int):=by rw [zA]<;>omega
  have ix:=fun y=>qbK (k:=(0,0)) (e:=3) (xs:=ys.map oRq++y::r.map oRq) (i:=ys.length) (len:=n) (by omega) (by simp only [List.length_append,List.length_map,List.length_cons];omega)
  have cg:=fun y zs=>qez (ys.map oRq) y zs ys.length (by simp)
  have cs:=fun y y' zs=>qeA (ys.map oRq) y y' zs ys.length (by simp)
  have ih:=qbY n hn r (ys++[⟨k,mkT (k+1),mkT (k+2)⟩]) (k+3) (by simp only [List.length_append,List.length_cons,List.length_nil];omega) (by omega) (by omega)
  have ek:k+3*((r.length+1:Nat):Int)=k+3+3*(r.length:Int):=by omega
  have e3:(ys++x::r).map oRq=ys.map oRq++ .a [I x.kind,S x.name,S x.text]::r.map oRq:=by simp [oRq]
  have e4:ys++[(⟨k,mkT (k+1),mkT (k+2)⟩:Rq)]++r=ys++⟨k,mkT (k+1),mkT (k+2)⟩::r:=by simp
  have e5:ys++[(⟨k,mkT (k+1),mkT (k+2)⟩:Rq)]++mkR (k+3) r=ys++⟨k,mkT (k+1),mkT (k+2)⟩::mkR (k+3) r:=by simp
  have e6:(ys++(⟨k,mkT (k+1),mkT (k+2)⟩:Rq)::r).map oRq=ys.map oRq++ .a [I k,S (mkT (k+1)),S (mkT (k+2))]::r.map oRq:=by simp [oRq]
  rw [e4,e5,e6]at ih
  simp only [List.length_append,List.length_cons,List.length_nil,Nat.zero_add]at ih
  simp only [mkR,List.length_cons,ek]
  rw [← ih,e3,qQ]
  simp only [go_sem,qa,qb,qc,qd,qe,qf,reduceCtorEq,Y5,h1,mk1,mk2,w1,w2,w3,e2,ix,cg,cs]
theorem qgA(ts:List Rq) (hl:ts.length≤2^10) (k:Int) (h0:0≤k) (hk:k≤2^20):
 cw qp Kb [.o 3 (ts.map oRq),I k]=some (I (k+3*(ts.length:Nat)),[.o 3 ((mkR k ts).map oRq),I k]):=by
 have lp:=qbY ts.length hl ts [] k (by simp) h0 (by omega)
 simp only [List.nil_append,List.length_nil,Int.natCast_zero]at lp
 have tk:((mkR k ts).map oRq).take ts.length=(mkR k ts).map oRq:=List.take_of_length_le (by simp [Qn])
 have ml:=Qn ts k
 rw [qeP qha rfl]
 simp only [go_sem,qa,qb,qc,qd,qe,qf,reduceCtorEq,jW,kV,lp,tk,ml,List.length_map]
theorem qbB(τ:Bool) (n:Nat) (hn:n≤2^10) (all:List Rq) (ha:all.length=n): ∀ (r:List Rq) (i:Nat) (k:Int),all.drop i=mkR k r→i+r.length=n→0≤k→k+3*r.length≤2^30→
 lw qp Ze ⟨[(0,.i τ (all.map oRq)),(1,I k),(5,I i)],[]⟩=some (.exit 0,⟨[(1,I (k+3*(r.length:Nat)))],[]⟩)
 |[],i,k,h,hi,h0,hk=>by
  have h1: ¬ (i:Int) < (n:Int):=by simp only [List.length_nil]at hi;omega
  simp only [List.length_nil,Int.natCast_zero,Int.mul_zero,Int.add_zero]
  rw [qQ]
  simp only [go_sem,qa,qb,qc,qd,qe,qf,reduceCtorEq,Y4,List.length_map,ha,h1]
 |x::r,i,k,h,hi,h0,hk=>by
  simp only [List.length_cons]at hi hk
  simp only [mkR]at h
  have hx:all[i]? =some ⟨k,mkT (k+1),mkT (k+2)⟩:=by
   have:=congrArg (fun z=>z[0]?) h
   simpa using this
  have hd:all.drop (i+1)=mkR (k+3) r:=by
   have:=congrArg (fun z=>z.drop 1) h
   simpa [List.drop_drop,Nat.add_comm]using this
  have h1:(i:Int) < (n:Int):=by omega
  have mk1:=Xu (k+1) (by omega)
  have mk2:=Xu (k+2) (by omega)
  have w1:w64 (k+1)=k+1:=by rw [zA]<;>omega
  have w2:w64 (k+1+1)=k+2:=by rw [zA]<;>omega
  have w3:w64 (k+2+1)=k+3:=by rw [zA]<;>omega
  have e2:w64 ((i:Int)+1)=((i+1:Nat):Int):=by rw [zA]<;>omega
  have g:(all.map oRq)[i]? =some (.a [I k,S (mkT (k+1)),S (mkT (k+2))]):=kX (f:=oRq) hx
  have a1:=fun T=>kj (τ:=τ) (T:=T) (e:=3) g rfl
  have ih:=qbB τ n hn all ha r (i+1) (k+3) hd (by omega) (by omega) (by omega)
  have ek:k+3*((r.length+1:Nat):Int)=k+3+3*(r.length:Int):=by omega
  have dd: ∀ s:Str,decide (s=s)=true:=fun s=>decide_eq_true rfl
  simp only [List.length_cons,ek]
  rw [← ih,qQ]
  simp only [go_sem,qa,qb,qc,qd,qe,qf,reduceCtorEq,Y4,List.length_map,ha,h1,mk1,mk2,w1,w2,w3,e2,g,a1,dd]
theorem qfe(τ:Bool) (ts:List Rq) (hl:ts.length≤2^10) (k:Int) (h0:0≤k) (hk:k≤2^20):
 cr qp YK [.i τ ((mkR k ts).map oRq),I k]=some (I (k+3*(ts.length:Nat))):=by
 have lp:=qbB τ ts.length hl (mkR k ts) (Qn ts k) ts 0 k rfl (by omega) h0 (by omega)
 simp only [Int.natCast_zero]at lp
 rw [zp qg9 rfl]
 simp only [go_sem,qa,qb,qc,qd,qe,qf,reduceCtorEq,jV,lp]
theorem JF: ∀ (f:Nat) (r:List Str) (i:Nat) (out:List Rq),(∀ q ∈ out,okR q=true)→ ∀ q ∈ (y9 f r i out).1,okR q=true
 |0,r,i,out,h=>h
 |f+1,[],i,out,h=>h
 |f+1,l::r,i,out,h=>by
  simp only [y9]
  split
  ·exact JF f r (i+1) out h
  ·cases h2:yb l r with
   |none=>simp
   |some qn=>
    obtain ⟨q,n⟩:=qn
    simp only
    split
    ·rename_i hk
     refine JF f _ _ _ fun x hx=> ?_
     rcases List.mem_append.1 hx with hx|hx
     ·exact h x hx
     ·simp only [List.mem_singleton]at hx;subst hx;exact hk.1
    ·simp
theorem qgQ(q:Rq) (h:okR q=true):wRq q:=by
 unfold okR xE at h
 unfold wRq inI wS
 by_cases k1:q.kind=1
 ·rw [if_pos k1]at h
  simp only [Bool.and_eq_true,decide_eq_true_eq]at h
  rw [k1,h.2]
  exact ⟨by decide,by unfold Lm;omega,by unfold Lm;simp⟩
 rw [if_neg k1]at h
 by_cases k2:q.kind=2
 ·rw [if_pos k2]at h
  simp only [Bool.and_eq_true,decide_eq_true_eq]at h
  rw [k2,h.1]
  exact ⟨by decide,by unfold Lm;simp,by unfold Lm;omega⟩
 rw [if_neg k2]at h
 by_cases k3:q.kind=3
 ·rw [if_pos k3]at h
  simp only [Bool.and_eq_true,decide_eq_true_eq]at h
  rw [k3]
  exact ⟨by decide,by unfold Lm;omega,by unfold Lm;omega⟩
 rw [if_neg k3]at h;cases h
theorem qhK(s:Str): ∀ q ∈ (xF s).1,wRq q:=by
 intro q hq
 unfold xF at hq
 split at hq
 ·cases hq
 ·exact qgQ q (JF _ _ _ [] (by simp) q hq)
theorem qap(ts:List Rq):RL bRq ts (ts.map oRq):=qao (qel false) ts
theorem qgu(s:Str) (hw:s.length≤Lm): ∃ outs,cw qp J3 [S s]=some (B true,outs):=by
 have i1:=qfh s (by unfold Lm at hw;omega)
 have s1:=qiF s (by unfold Lm at hw;omega)
 have hl:=qhJ s
 have hq:=qhK s
 generalize xF s=R at*
 obtain ⟨ts,c⟩:=R
 simp only at i1 s1 hl hq
 have e:=fun τ τ'=>(qe0 τ τ' (ts.map oRq) (ts.map oRq) ts ts (qap ts) (qap ts) (by unfold Lm;omega) hq).trans (by rw [decide_eq_true (rfl:ts=ts)])
 have mk:=qgA ts (by omega) 1 (by decide) (by decide)
 have hd:=fun τ=>qfe τ ts (by omega) 1 (by decide) (by decide)
 have n1: ¬ (1+3*(ts.length:Int)) < 0:=by omega
 have tk:(ts.map oRq).take ts.length=ts.map oRq:=List.take_of_length_le (by simp)
 have ml:=Qn ts 1
 have tk2:((mkR 1 ts).map oRq).take ts.length=(mkR 1 ts).map oRq:=List.take_of_length_le (by simp [Qn])
 have cv: ∀ (τ:Bool) (l:List Rq),qO τ (l.map oRq)=l.map oRq:=fun τ l=>(qeJ τ l).trans rfl
 by_cases hb:(1048576:Int) < s.length
 ·apply qbf
  rw [zp qcx rfl]
  simp only [go_sem,qa,qb,qc,qd,qe,qf,reduceCtorEq,jm,hb]
 ·apply qbf
  rw [zp qcx rfl]
  simp only [go_sem,qa,qb,qc,qd,qe,qf,reduceCtorEq,jm,JU,JV,JW,JX,JY,hb,i1,s1,e,mk,hd,n1,tk,tk2,ml,cv,List.length_map]
end Go.Vm
namespace Go.Proofs
open Go.Shelf
def j2:Go.Shelf.Ren:=⟨fun|146=>32|221=>53|268=>73|138=>74|143=>75|195=>89|197=>77|218=>90|219=>91|260=>92|217=>100|225=>101|224=>102|267=>103|266=>109|314=>110|n=>n,fun|9=>9|31=>55|3=>3|4=>4|0=>0|105=>96|21=>21|5=>5|46=>107|119=>108|139=>111|138=>110|146=>115|51=>114|n=>n,fun|1=>0|3=>1|4=>2|n=>n⟩
theorem Y7:Go.Proofs.LaysM.n146 Tryd.prog j2 where
 mixed:=by kernel_rfl
 f138:=Tryd.func74.trans (congrArg some (by kernel_rfl))
 f143:=Tryd.func75.trans (congrArg some (by kernel_rfl))
 f146:=Tryd.func32.trans (congrArg some (by kernel_rfl))
 f195:=Tryd.func89.trans (congrArg some (by kernel_rfl))
 f197:=Tryd.func77.trans (congrArg some (by kernel_rfl))
 f217:=Tryd.func100.trans (congrArg some (by kernel_rfl))
 f218:=Tryd.func90.trans (congrArg some (by kernel_rfl))
 f219:=Tryd.func91.trans (congrArg some (by kernel_rfl))
 f221:=Tryd.func53.trans (congrArg some (by kernel_rfl))
 f224:=Tryd.func102.trans (congrArg some (by kernel_rfl))
 f225:=Tryd.func101.trans (congrArg some (by kernel_rfl))
 f260:=Tryd.func92.trans (congrArg some (by kernel_rfl))
 f266:=Tryd.func109.trans (congrArg some (by kernel_rfl))
 f267:=Tryd.func103.trans (congrArg some (by kernel_rfl))
 f268:=Tryd.func73.trans (congrArg some (by kernel_rfl))
 f314:=Tryd.func110.trans (congrArg some (by kernel_rfl))
 t0:=Tryd.underlying0
 a0:=Tryd.isAgg0
 z0:=Tryd.sizeOf0
 v0:=Tryd.zeroValue0
 t3:=Tryd.underlying3
 a3:=Tryd.isAgg3
 z3:=Tryd.sizeOf3
 v3:=Tryd.zeroValue3
 t4:=Tryd.underlying4
 a4:=Tryd.isAgg4
 z4:=Tryd.sizeOf4
 v4:=Tryd.zeroValue4
 t5:=Tryd.underlying5
 a5:=Tryd.isAgg5
 z5:=Tryd.sizeOf5
 v5:=Tryd.zeroValue5
 t9:=Tryd.underlying9
 a9:=Tryd.isAgg9
 z9:=Tryd.sizeOf9
 v9:=Tryd.zeroValue9
 t21:=Tryd.underlying21
 a21:=Tryd.isAgg21
 z21:=Tryd.sizeOf21
 v21:=Tryd.zeroValue21
 t31:=Tryd.underlying55
 a31:=Tryd.isAgg55
 z31:=Tryd.sizeOf55
 v31:=Tryd.zeroValue55
 t46:=Tryd.underlying107
 a46:=Tryd.isAgg107
 z46:=Tryd.sizeOf107
 v46:=Tryd.zeroValue107
 t51:=Tryd.underlying114
 a51:=Tryd.isAgg114
 z51:=Tryd.sizeOf114
 v51:=Tryd.zeroValue114
 t105:=Tryd.underlying96
 a105:=Tryd.isAgg96
 z105:=Tryd.sizeOf96
 v105:=Tryd.zeroValue96
 t119:=Tryd.underlying108
 a119:=Tryd.isAgg108
 z119:=Tryd.sizeOf108
 t138:=Tryd.underlying110
 a138:=Tryd.isAgg110
 z138:=Tryd.sizeOf110
 v138:=Tryd.zeroValue110
 t139:=Tryd.underlying111
 a139:=Tryd.isAgg111
 z139:=Tryd.sizeOf111
 v139:=Tryd.zeroValue111
 t146:=Tryd.underlying115
 a146:=Tryd.isAgg115
 z146:=Tryd.sizeOf115
 v146:=Tryd.zeroValue115
 g1:=by kernel_rfl
 g3:=by kernel_rfl
 g4:=by kernel_rfl
 i0:=by kernel_rfl
 i3:=by kernel_rfl
 i4:=by kernel_rfl
 i5:=by kernel_rfl
 i9:=by kernel_rfl
 i21:=by kernel_rfl
 i31:=by kernel_rfl
 i46:=by kernel_rfl
 i51:=by kernel_rfl
 i105:=by kernel_rfl
 i138:=by kernel_rfl
 i139:=by kernel_rfl
 i146:=by kernel_rfl
 m1:=by kernel_rfl
 s1_3:=fun w h=>Go.Proofs.cell_of_shapedOpen_int (zero:= #[.int .i64 0]) (t:=3) h (of_decide_eq_true (by kernel_rfl)) (by kernel_rfl) rfl (by kernel_rfl) (by kernel_rfl) Tryd.underlying3
 m3:=by kernel_rfl
 m4:=by kernel_rfl
def qas:Go.Shelf.Ren:=⟨fun|160=>33|232=>55|231=>54|227=>56|234=>58|233=>57|236=>60|235=>59|228=>76|271=>79|151=>78|197=>77|120=>94|152=>93|260=>92|137=>104|119=>105|224=>102|225=>101|217=>100|266=>109|n=>n,fun|9=>9|4=>4|3=>3|5=>5|117=>83|116=>82|0=>0|124=>86|21=>21|105=>96|46=>107|119=>108|139=>111|138=>110|n=>n,fun|3=>1|4=>2|n=>n⟩
theorem qar:Go.Proofs.Lays.n160 Tryd.prog qas where
 mixed:=by kernel_rfl
 f119:=Tryd.func105.trans (congrArg some (by kernel_rfl))
 f120:=Tryd.func94.trans (congrArg some (by kernel_rfl))
 f137:=Tryd.func104.trans (congrArg some (by kernel_rfl))
 f151:=Tryd.func78.trans (congrArg some (by kernel_rfl))
 f152:=Tryd.func93.trans (congrArg some (by kernel_rfl))
 f160:=Tryd.func33.trans (congrArg some (by kernel_rfl))
 f197:=Tryd.func77.trans (congrArg some (by kernel_rfl))
 f217:=Tryd.func100.trans (congrArg some (by kernel_rfl))
 f224:=Tryd.func102.trans (congrArg some (by kernel_rfl))
 f225:=Tryd.func101.trans (congrArg some (by kernel_rfl))
 f227:=Tryd.func56.trans (congrArg some (by kernel_rfl))
 f228:=Tryd.func76.trans (congrArg some (by kernel_rfl))
 f231:=Tryd.func54.trans (congrArg some (by kernel_rfl))
 f232:=Tryd.func55.trans (congrArg some (by kernel_rfl))
 f233:=Tryd.func57.trans (congrArg some (by kernel_rfl))
 f234:=Tryd.func58.trans (congrArg some (by kernel_rfl))
 f235:=Tryd.func59.trans (congrArg some (by kernel_rfl))
 f236:=Tryd.func60.trans (congrArg some (by kernel_rfl))
 f260:=Tryd.func92.trans (congrArg some (by kernel_rfl))
 f266:=Tryd.func109.trans (congrArg some (by kernel_rfl))
 f271:=Tryd.func79.trans (congrArg some (by kernel_rfl))
 t0:=Tryd.underlying0
 a0:=Tryd.isAgg0
 z0:=Tryd.sizeOf0
 v0:=Tryd.zeroValue0
 t3:=Tryd.underlying3
 a3:=Tryd.isAgg3
 z3:=Tryd.sizeOf3
 v3:=Tryd.zeroValue3
 t4:=Tryd.underlying4
 a4:=Tryd.isAgg4
 z4:=Tryd.sizeOf4
 v4:=Tryd.zeroValue4
 t5:=Tryd.underlying5
 a5:=Tryd.isAgg5
 z5:=Tryd.sizeOf5
 v5:=Tryd.zeroValue5
 t9:=Tryd.underlying9
 a9:=Tryd.isAgg9
 z9:=Tryd.sizeOf9
 v9:=Tryd.zeroValue9
 t21:=Tryd.underlying21
 a21:=Tryd.isAgg21
 z21:=Tryd.sizeOf21
 v21:=Tryd.zeroValue21
 t46:=Tryd.underlying107
 a46:=Tryd.isAgg107
 z46:=Tryd.sizeOf107
 v46:=Tryd.zeroValue107
 t105:=Tryd.underlying96
 a105:=Tryd.isAgg96
 z105:=Tryd.sizeOf96
 v105:=Tryd.zeroValue96
 t116:=Tryd.underlying82
 a116:=Tryd.isAgg82
 z116:=Tryd.sizeOf82
 t117:=Tryd.underlying83
 a117:=Tryd.isAgg83
 z117:=Tryd.sizeOf83
 v117:=Tryd.zeroValue83
 t119:=Tryd.underlying108
 a119:=Tryd.isAgg108
 z119:=Tryd.sizeOf108
 t124:=Tryd.underlying86
 a124:=Tryd.isAgg86
 z124:=Tryd.sizeOf86
 v124:=Tryd.zeroValue86
 t138:=Tryd.underlying110
 a138:=Tryd.isAgg110
 z138:=Tryd.sizeOf110
 v138:=Tryd.zeroValue110
 t139:=Tryd.underlying111
 a139:=Tryd.isAgg111
 z139:=Tryd.sizeOf111
 v139:=Tryd.zeroValue111
 g3:=by kernel_rfl
 g4:=by kernel_rfl
end Go.Proofs
namespace Go.Vm
open Go.Proofs
instance layD:Lay where
 B b:=b=j2.g 1
 L w:= ∃ m,w.cell? ⟨j2.g 1,0,none⟩=some (.int .i64 m)
 st w w' h hL:=by
  obtain ⟨m,hm⟩:=hL
  refine ⟨m, ?_⟩
  rw [← hm]
  simp only [World.cell?,h _ rfl]
theorem qi3: ∀ args r outs,jS args=some (r,outs)→jZ Tryd.prog (qas.f 160) args r outs:=by
 intro args r outs h
 unfold jS at h
 split at h
 case h_2=>cases h
 rename_i s p
 split at h
 case h_2=>cases h
 rename_i c hp
 split at h
 case isFalse=>cases h
 rename_i hb
 simp only [Option.some.injEq,Prod.mk.injEq]at h
 obtain ⟨rfl,rfl⟩:=h
 obtain rfl:p=⟨#[c]⟩:=by
  obtain ⟨a⟩:=p
  have:a.toList=[c]:=hp
  rw [show a= #[c]by apply Array.toList_inj.1;simpa using this]
 have hz: ∀ (E:Env) vs cc,qi E.cl [.v (.string s),.v (.string ⟨#[c]⟩)] vs cc→cc=c0∧vs=[.string s,.string ⟨#[c]⟩]:=by
  intro E vs cc hx
  simp only [qi,Rel]at hx
  obtain ⟨y,ys,c1,c2,rfl,⟨rfl,-,rfl⟩,⟨y',ys',c3,c4,rfl,⟨rfl,-,rfl⟩,⟨rfl,rfl⟩,rfl⟩,rfl⟩:=hx
  exact ⟨rfl,rfl⟩
 refine qhu (x:= .string ⟨(Lib.trimB s.data.toList c).toArray⟩) qar.f160 rfl rfl rfl rfl ?_ (fun E vs c hx=>(hz E vs c hx).1)
 intro E vs hx hL
 obtain ⟨-,rfl⟩:=hz E vs c0 hx
 refine (Any.strings_Trim_one qar s c hb.1 E.w hb.2).mono ?_
 rintro e w' ⟨rfl,rfl|rfl⟩
 ·exact ⟨rfl,qd0 _⟩
 ·exact ⟨rfl,⟨rfl,rfl,rfl,Nat.le_refl _,fun _ _=>rfl⟩⟩
theorem qiM: ∀ args r outs,jN args=some (r,outs)→jZ Tryd.prog (j2.f 146) args r outs:=by
 intro args r outs h
 unfold jN at h
 split at h
 case h_2=>cases h
 rename_i s p
 split at h
 case h_2=>cases h
 rename_i c hp
 split at h
 case isFalse=>cases h
 rename_i hb
 simp only [Option.some.injEq,Prod.mk.injEq]at h
 obtain ⟨rfl,rfl⟩:=h
 obtain rfl:p=⟨#[c]⟩:=by
  obtain ⟨a⟩:=p
  have:a.toList=[c]:=hp
  rw [show a= #[c]by apply Array.toList_inj.1;simpa using this]
 have hz: ∀ (E:Env) vs cc,qi E.cl [.v (.string s),.v (.string ⟨#[c]⟩)] vs cc→cc=c0∧vs=[.string s,.string ⟨#[c]⟩]:=by
  intro E vs cc hx
  simp only [qi,Rel]at hx
  obtain ⟨y,ys,c1,c2,rfl,⟨rfl,-,rfl⟩,⟨y',ys',c3,c4,rfl,⟨rfl,-,rfl⟩,⟨rfl,rfl⟩,rfl⟩,rfl⟩:=hx
  exact ⟨rfl,rfl⟩
 have hd:(Lib.splitB ⟨#[c]⟩ 0 (Lib.countB s ⟨#[c]⟩) s).map (·.data.toList)=Lib.split s.data.toList [c]:=Lib.splitB_data _ _ _ _
 have hl:=Lib.splitB_all ⟨#[c]⟩ (Nat.le_refl 1) 0 _ s rfl
 refine qhv Y7.f146 rfl rfl ?_ (fun E vs c hx=>(hz E vs c hx).1)
 intro E vs hx hL
 obtain ⟨-,rfl⟩:=hz E vs c0 hx
 obtain ⟨m,hm⟩:=hL
 refine (Any.strings_Split {Y7 with} Y7.i9 s ⟨#[c]⟩ m E.w hb hm (Nat.le_refl 1)).mono ?_
 rintro e w' ⟨rfl,rfl⟩
 refine ⟨j2.t 9, ?_, ?_⟩
 ·rw [← hd,List.length_map,hl]
 ·rw [← hd,List.map_map]
  rw [show ((fun s=>Value.string ⟨s.toArray⟩) ∘ fun x:ByteArray=>x.data.toList)=Value.string from funext fun x=>by simp]
end Go.Vm
