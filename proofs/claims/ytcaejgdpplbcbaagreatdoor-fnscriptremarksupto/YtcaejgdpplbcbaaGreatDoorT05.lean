import Derived.Test.YtcaejgdpplbcbaaGreatDoorT03
import Derived.Test.YtcaejgdpplbcbaaGreatDoorT04
import Derived.Lib.ItoaNum
import Derived.Lib.Split
import Derived.Lib.TrimByte
import Derived.Lib.SplitLaws
import Derived.Lib.IndexBytes
import Derived.Shelf.Strconv.Itoa3
import Derived.Shelf.Strings.OnBuilder
import Derived.Shelf.Small.Strs
import Derived.Shelf.Strings.SplitShaped
import Derived.Shelf.Strings.Trim
import Derived.Test.YtcaejgdpplbcbaaGreatDoorProg
import Derived.KernelRfl
open Nat renaming reduceAdd → qa, reduceSub → qb, reduceMul → qc, reduceEqDiff → qd, reduceLeDiff → qe, reduceBEq → qf
set_option autoImplicit false
set_option maxRecDepth 100000
set_option linter.unusedSimpArgs false
set_option linter.unusedVariables false
namespace Go.Vm
end Go.Vm
namespace Go.Vm
end Go.Vm
namespace Go.Vm
theorem xF {α:Type} {f:α→V} {l:List α} {i:Nat} {x:α} (h:l[i]? =some x):(l.map f)[i]? =some (f x):=by simp [h]
end Go.Vm
namespace Go.Vm
end Go.Vm
namespace Go.Vm
def qdP(n:Int):Nat→List Int→Int
 |_,[]=> -1
 |i,x::xs=>if n=x then (i:Int)else qdP n (i+1) xs
end Go.Vm
namespace Go.Vm
mutual
def Z5(l:List Int):Tm→List Int
 | .mk k _ n ks=>Z6 (if k=1∧n ∉ l then l++[n]else l) ks
def Z6(l:List Int):List Tm→List Int
 |[]=>l
 |t::ts=>Z6 (Z5 l t) ts
end
def qnj(t:Tm):List Int:=Z5 [] t
mutual
theorem qg2: ∀ (t:Tm) (l:List Int),(Z5 l t).length≤l.length+nT t
 | .mk k s n ks,l=>by
   simp only [Z5,nT]
   have:=qcD ks (if k=1∧n ∉ l then l++[n]else l)
   have h2:(if k=1∧n ∉ l then l++[n]else l).length≤l.length+1:=by split<;>simp
   omega
theorem qcD: ∀ (ts:List Tm) (l:List Int),(Z6 l ts).length≤l.length+nTs ts
 |[],l=>by simp [Z6,nTs]
 |t::ts,l=>by
  simp only [Z6,nTs]
  have:=qg2 t l
  have:=qcD ts (Z5 l t)
  omega
end
end Go.Vm
namespace Go.Vm
def qv8(caps:List V):Prop:= ∀ c ∈ caps,∃ xs i o,c= .q true xs i o
@[go_sem] theorem qID {α β:Type} {f:α→β} {g:β→V} {l:List α}:((l.map f).map g).take l.length=(l.map f).map g:=by
 apply List.take_of_length_le;simp
mutual
def rnm(φ:Int→Int):Tm→Tm
 | .mk k s n ks=> .mk k s (if k=1 then φ n else n) (qfF φ ks)
def qfF(φ:Int→Int):List Tm→List Tm
 |[]=>[]
 |t::ts=>rnm φ t::qfF φ ts
end
end Go.Vm
namespace Go.Vm
def qhV(fr:Int) (l:List Int):Int→Int:=fun n=>w64 (fr+qdP n 0 l)
def qhv(c:Cl):Tm:= .mk 4 [58,45] 0 [c.head,c.body]
def qkF(φ:Int→Int) (c:Cl):Cl:=⟨rnm φ c.head,rnm φ c.body,c.file⟩
def qEa(c:Cl):Cl:=qkF (qhV 0 (qnj (qhv c))) c
end Go.Vm
namespace Go.Vm
end Go.Vm
namespace Go.Vm
end Go.Vm
namespace Go.Vm
theorem qj9(x lo hi:Int):cr ql jP [I x,I lo,I hi]=some (B (decide (lo≤x∧x≤hi))):=by
 rw [qS qld rfl]
 by_cases h1:lo≤x<;>by_cases h2:x≤hi<;>simp only [go_sem,qa,qb,qc,qd,qe,qf,reduceCtorEq,Qt,h1,h2]
theorem qnm(x lo hi:Int):cr ql je [I x,I lo,I hi]=some (B (decide (lo≤x∧x≤hi))):=by
 rw [qS qk5 rfl]
 by_cases h1:lo≤x<;>by_cases h2:x≤hi<;>simp only [go_sem,qa,qb,qc,qd,qe,qf,reduceCtorEq,Qp,h1,h2]
def qkM(c:UInt8):Bool:=decide (33≤c.toNat∧c.toNat≤126∧c.toNat ≠ 39∧c.toNat ≠ 34)
def qkN(s:Str):Bool:=s.all qkM
def qeg(s:Str):Bool:=qkN s&&decide (1≤s.length∧s.length≤20)
end Go.Vm
namespace Go.Vm
def bkP(k:Key) (i o n:Nat) (x:V) (ob:Option Ob):Mem:=
 match ob with
 |some ob=>if i=0∧o=0∧ob.1=n then [(k,n,[x])]else []
 |none=>[]
@[go_sem] theorem qw3 {T:Mem} {k:Key} {i o:Nat} {x:V}:yn T (.p k i o) (.b x)=bkP k i o x.cells.length x (qq T k):=by simp only [yn,bkP];cases qq T k<;>rfl
@[go_sem] theorem qx2 {k:Key} {i o n:Nat} {x:V} {e:Nat} {zs:List V}:bkP k i o n x (some (e,zs))=if i=0∧o=0∧e=n then [(k,n,[x])]else []:=(rfl)
end Go.Vm
set_option maxHeartbeats 16000000
namespace Go.Vm
theorem qcR(a n:Int) (hn:0≤n): ∃ x,zl .shr (I a) (.v (.int .u64 n))=some (I x):=by
 refine ⟨a.fdiv (2 ^ (min n.toNat IntKind.i64.bits)), ?_⟩
 have:(Op.shift .shr .i64 a .u64 n).val? =some (.int .i64 (a.fdiv (2 ^ (min n.toNat IntKind.i64.bits)))):=by
  simp only [Op.shift,if_neg (show ¬ n < 0 by omega)];rfl
 exact congrArg (Option.map V.v) this
theorem qhh(a b:Int): ∃ x,zl .xor (I a) (I b)=some (I x):=⟨_,rfl⟩
theorem qhf(a b:Int): ∃ x,zl .and (I a) (I b)=some (I x):=⟨_,rfl⟩
theorem qcQ(a:Int): ∃ x:Int,zl .and (I a) (I 255)=some (I x)∧0≤x∧x≤255:=by
 refine ⟨_,rfl, ?_⟩
 have h:(BitVec.ofInt 64 a&&& BitVec.ofInt 64 255).toNat≤255:=by
  rw [BitVec.toNat_and]
  exact Nat.le_trans Nat.and_le_right (by decide)
 show 0≤IntKind.i64.wrap ((BitVec.ofInt 64 a&&& BitVec.ofInt 64 255).toNat:Int)∧IntKind.i64.wrap ((BitVec.ofInt 64 a&&& BitVec.ofInt 64 255).toNat:Int)≤255
 generalize (BitVec.ofInt 64 a&&& BitVec.ofInt 64 255).toNat=m at h
 have:IntKind.i64.wrap (m:Int)=m:=zA (by omega) (by omega)
 rw [this];omega
@[go_sem] theorem qy4(l:List UInt8):qy (l.map qM)=true:=xW (fun _=>rfl) l
@[go_sem] theorem qC2(d:Nat) (l:List UInt8):qC d (l.map qM)=l.map qM:=kS (fun _=>rfl) d l
@[go_sem] theorem qzX(τ:Bool) (l:List UInt8):qW τ (l.map qM)=l.map qM:=kj (fun _=>rfl) l
@[go_sem] theorem qFh(l:List UInt8):zb (l.map qM)=true:=yF (fun _=>rfl) l
def CU(bs:List UInt8) (i:Nat) (h:Int):V:= .b (.a [.i false (bs.map qM),I i,I h])
theorem qdK {bs:List UInt8} {i:Nat} {c:UInt8} (h:bs[i]? =some c):(bs.map qM)[i]? =some (U8 c.toNat):=by
 rw [List.getElem?_map,h];rfl
theorem qkc(bs:List UInt8) (hl:bs.length≤2^40) (m:Nat): ∀ (i:Nat) (h:Int),i+m=min bs.length 4000→
 ∃ h',lw ql ZR ⟨[(0,.i false (bs.map qM)),(3,I h),(4,I i)],[]⟩=some (.exit 0,⟨[(0,.i false (bs.map qM)),(3,I h')],[]⟩):=by
 induction m with
 |zero=>
  intro i h hi
  refine ⟨h, ?_⟩
  rw [qA]
  by_cases h1:(i:Int) < (bs.length:Int)
  ·have h2: ¬ (i:Int) < 4000:=by omega
   simp only [go_sem,qa,qb,qc,qd,qe,qf,reduceCtorEq,ZY,h1,h2,List.length_map]
  ·simp only [go_sem,qa,qb,qc,qd,qe,qf,reduceCtorEq,ZY,h1,List.length_map]
 |succ m ih=>
  intro i h hi
  have h1:(i:Int) < (bs.length:Int):=by omega
  have h2:(i:Int) < 4000:=by omega
  obtain ⟨c,hc⟩:=kO (l:=bs) (i:=i) (by omega)
  have g:=qdK hc
  have a1:=fun T=>kI (τ:=false) (T:=T) (e:=1) g rfl
  have e1:w64 ((i:Int)+1)=((i+1:Nat):Int):=by rw [zA]<;>omega
  obtain ⟨x,hx⟩:=qhf (w64 (w64 (w64 (h*131)+w64 c.toNat)+7)) 1073741823
  obtain ⟨h',hh⟩:=ih (i+1) x (by omega)
  refine ⟨h', ?_⟩
  rw [← hh,qA]
  simp only [go_sem,qa,qb,qc,qd,qe,qf,reduceCtorEq,ZY,h1,h2,g,a1,e1,hx,List.length_map]
theorem qd4(bs:List UInt8) (hl:bs.length≤2^40): ∃ h,cr ql XV [.i false (bs.map qM)]=some (CU bs 0 h):=by
 obtain ⟨h',lp⟩:=qkc bs hl (min bs.length 4000) 0 (w64 (95101+(bs.length:Int))) (by omega)
 simp only [Int.natCast_zero]at lp
 refine ⟨h', ?_⟩
 rw [qS qlf rfl]
 unfold CU
 simp only [go_sem,qa,qb,qc,qd,qe,qf,reduceCtorEq,Qv,lp,List.length_map]
theorem qj8(bs:List UInt8) (hl:bs.length≤2^40) (i:Nat) (h:Int) (hi:i≤bs.length):
 ∃ (i':Nat) (h' x:Int),cw ql jO [CU bs i h]=some (I x,[CU bs i' h'])∧i'≤bs.length∧0≤x∧x≤255:=by
 obtain ⟨s1,h1⟩:=qcR (w64 (w64 (h*6364136223846793005)+1442695040888963407)) 33 (by decide)
 obtain ⟨s2,h2⟩:=qcR (w64 (w64 (h*6364136223846793005)+1442695040888963407)) 45 (by decide)
 obtain ⟨s3,h3⟩:=qhh s1 s2
 obtain ⟨x,h4,h5,h6⟩:=qcQ s3
 by_cases hlt:(i:Int) < (bs.length:Int)
 ·obtain ⟨c,hc⟩:=kO (l:=bs) (i:=i) (by omega)
  have g:=qdK hc
  have a1:=fun T=>kI (τ:=false) (T:=T) (e:=1) g rfl
  have e1:w64 ((i:Int)+1)=((i+1:Nat):Int):=by rw [zA]<;>omega
  obtain ⟨y,k1,k2,k3⟩:=qcQ (w64 (x+w64 c.toNat))
  refine ⟨i+1,w64 (w64 (h*6364136223846793005)+1442695040888963407),y, ?_,by omega,k2,k3⟩
  rw [jp qeK rfl]
  unfold CU
  simp only [go_sem,qa,qb,qc,qd,qe,qf,reduceCtorEq,jI,yR,h1,h2,h3,h4,hlt,g,a1,e1,k1,List.length_map]
 ·refine ⟨i,w64 (w64 (h*6364136223846793005)+1442695040888963407),x, ?_,hi,h5,h6⟩
  rw [jp qeK rfl]
  unfold CU
  simp only [go_sem,qa,qb,qc,qd,qe,qf,reduceCtorEq,jI,yR,h1,h2,h3,h4,hlt,List.length_map]
end Go.Vm
namespace Go.Vm
theorem qf9(a n:Int) (ha:0≤a) (hn:0 < n):0≤a.tmod n∧a.tmod n < n:=⟨Int.tmod_nonneg n ha,Int.tmod_lt_of_pos a hn⟩
theorem jZ(bs:List UInt8) (hl:bs.length≤2^40) (i:Nat) (h:Int) (hi:i≤bs.length) (n:Int) (hn:0 < n) (hn2:n≤256):
 ∃ (i':Nat) (h' x:Int),cw ql kG [CU bs i h,I n]=some (I x,[CU bs i' h',I n])∧i'≤bs.length∧0≤x∧x < n:=by
 obtain ⟨i1,h1,x1,b1,hi1,p1,q1⟩:=qj8 bs hl i h hi
 obtain ⟨m1,m2⟩:=qf9 x1 n p1 hn
 have br:=QF (a:=x1) (b:=n) (by omega)
 have n0: ¬ n≤0:=by omega
 refine ⟨i1,h1,x1.tmod n, ?_,hi1,m1,m2⟩
 rw [jp qlc rfl]
 unfold CU at b1 ⊢
 simp only [go_sem,qa,qb,qc,qd,qe,qf,reduceCtorEq,Qs,yR,n0,hn2,b1,br]
theorem QT(bs:List UInt8) (hl:bs.length≤2^40) (i:Nat) (h:Int) (hi:i≤bs.length) (e:Nat) (ls:List Str) (h0:0 < ls.length) (h1:ls.length≤256):
 ∃ (i':Nat) (h':Int) (s:Str),cw ql jf [CU bs i h,.o 1 (ls.map S)]=some (S s,[CU bs i' h',.o 1 (ls.map S)])∧i'≤bs.length∧s ∈ ls:=by
 obtain ⟨i1,h1',x1,b1,hi1,p1,q1⟩:=jZ bs hl i h hi ls.length (by omega) (by omega)
 obtain ⟨k,rfl⟩: ∃ k:Nat,x1=k:=⟨x1.toNat,by omega⟩
 obtain ⟨s,hs⟩:=kO (l:=ls) (i:=k) (by omega)
 have g:=xF (f:=S) hs
 have ix:=jr (k:=(1,0)) (e:=1) (xs:=ls.map S) (i:=k) (len:=ls.length) (by omega) (by simp)
 have tk:(ls.map S).take ls.length=ls.map S:=List.take_of_length_le (by simp)
 refine ⟨i1,h1',s, ?_,hi1,List.mem_of_getElem? hs⟩
 rw [jp qlg rfl]
 unfold CU at b1 ⊢
 simp only [go_sem,qa,qb,qc,qd,qe,qf,reduceCtorEq,Qw,yR,b1,ix,g,tk,List.length_map]
end Go.Vm
namespace Go.Vm
def j1:List Str:=[[112,40,97,41],[112,40,98,41],[112,40,99,41],[113,40,88,41,32,58,45,32,112,40,88,41],[113,40,122,41],[114,40,88,44,32,89,41,32,58,45,32,112,40,88,41,44,32,113,40,89,41],[97,112,112,40,91,93,44,32,76,44,32,76,41],[97,112,112,40,91,72,124,84,93,44,32,76,44,32,91,72,124,82,93,41,32,58,45,32,97,112,112,40,84,44,32,76,44,32,82,41],[108,101,110,40,91,93,44,32,48,41],[108,101,110,40,91,95,124,84,93,44,32,78,41,32,58,45,32,108,101,110,40,84,44,32,77,41,44,32,78,32,105,115,32,77,32,43,32,49],[115,40,88,41,32,58,45,32,112,40,88,41,44,32,33],[115,40,122,41],[116,40,88,41,32,58,45,32,40,112,40,88,41,32,45,62,32,116,114,117,101,32,59,32,88,32,61,32,110,111,110,101,41],[117,40,88,41,32,58,45,32,92,43,32,112,40,88,41],[119,40,88,41,32,58,45,32,112,40,88,41,44,32,119,114,105,116,101,40,88,41],[99,40,88,41,32,58,45,32,99,97,116,99,104,40,112,40,88,41,44,32,95,44,32,116,114,117,101,41],[101,40,88,41,32,58,45,32,99,97,116,99,104,40,116,104,114,111,119,40,88,41,44,32,89,44,32,119,114,105,116,101,40,89,41,41],[110,40,88,41,32,58,45,32,88,32,105,115,32,51,32,47,47,32,48],[109,40,88,41,32,58,45,32,99,97,116,99,104,40,110,40,88,41,44,32,101,114,114,111,114,40,69,44,32,95,41,44,32,40,88,32,61,32,69,41,41],[97,100,100,40,88,41,32,58,45,32,97,115,115,101,114,116,122,40,112,40,88,41,41],[100,101,108,40,88,41,32,58,45,32,114,101,116,114,97,99,116,40,112,40,88,41,41],[108,111,111,112,32,58,45,32,108,111,111,112],[118,40,88,41,32,58,45,32,99,97,108,108,40,112,44,32,88,41],[100,40,88,44,32,89,41,32,58,45,32,88,32,61,32,89,32,59,32,89,32,61,32,98],[103,40,102,40,88,41,44,32,88,41],[103,40,104,40,88,41,44,32,88,41],[103,40,49,44,32,111,110,101,41],[107,40,88,41,32,58,45,32,117,110,107,110,111,119,110,40,88,41],[121,40,88,41,32,58,45,32,112,40,88,41,44,32,97,115,115,101,114,116,122,40,112,40,100,41,41,44,32,88,32,61,32,98]]
def jQ:List Str:=[[112,40,88,41],[113,40,88,41],[114,40,88,44,32,89,41],[97,112,112,40,88,44,32,89,44,32,91,97,44,32,98,93,41],[108,101,110,40,91,97,44,32,98,93,44,32,78,41],[115,40,88,41],[116,40,88,41],[117,40,122,41],[119,40,88,41,44,32,102,97,105,108],[99,40,88,41],[101,40,98,97,108,108,41],[110,40,88,41],[109,40,88,41],[97,100,100,40,101,41,44,32,112,40,88,41],[100,101,108,40,88,41,44,32,112,40,89,41],[108,111,111,112],[118,40,88,41],[100,40,88,44,32,89,41],[103,40,104,40,97,41,44,32,89,41],[103,40,88,44,32,89,41],[107,40,49,41],[121,40,88,41],[88,32,61,32,102,40,88,41],[99,97,116,99,104,40,102,97,105,108,44,32,95,44,32,116,114,117,101,41],[40,112,40,88,41,44,32,33,32,59,32,113,40,88,41,41],[92,43,32,112,40,122,41],[119,114,105,116,101,40,88,41,44,32,88,32,61,32,49],[88],[51],[116,104,114,111,119,40,102,40,88,41,41],[99,97,116,99,104,40,112,40,88,41,44,32,95,44,32,116,114,117,101,41,44,32,116,104,114,111,119,40,120,41],[40,112,40,88,41,32,45,62,32,113,40,89,41,32,59,32,116,114,117,101,41],[99,97,108,108,40,97,112,112,40,91,97,93,41,44,32,88,44,32,89,41],[112,40,88,41,44,32,97,115,115,101,114,116,122,40,40,112,50,40,89,41,32,58,45,32,112,40,89,41,41,41,44,32,112,50,40,90,41],[97,116,111,109,40,88,41],[114,101,116,114,97,99,116,40,40,113,40,88,41,32,58,45,32,112,40,88,41,41,41],[88,32,61,61,32,88,44,32,88,32,92,61,32,97],[112,40,88,41,44,32,88,32,61,61,32,98],[97,112,112,40,88,44,32,91,99,124,89,93,44,32,90,41]]
theorem qke:cr ql JV []=some (.o 1 (j1.map S)):=by
 rw [qS qli rfl]
 simp only [go_sem,qa,qb,qc,qd,qe,qf,reduceCtorEq,Qx]
 rfl
theorem qkf:cr ql JW []=some (.o 1 (jQ.map S)):=by
 rw [qS qlj rfl]
 simp only [go_sem,qa,qb,qc,qd,qe,qf,reduceCtorEq,Qy]
 rfl
theorem qkz: ∀ s ∈ j1,s.length≤60:=by decide
theorem qha: ∀ s ∈ jQ,s.length≤60:=by decide
theorem qkh(bs:List UInt8) (hl:bs.length≤2^40) (ls:List Str) (h0:0 < ls.length) (h1:ls.length≤256) (hls: ∀ s ∈ ls,s.length≤60) (m:Nat): ∀ (i:Nat) (s:Str) (ci:Nat) (ch:Int),i+m=6→ci≤bs.length→s.length≤200*i→
 ∃ (ci':Nat) (ch':Int) (s':Str),lw ql jh ⟨[(0,.p (0,0) 0 0),(3,S s),(4,.s (100000,0) 0 ls.length),(5,I i)],[((0,0),3,[.a [.i false (bs.map qM),I ci,I ch]]),((100000,0),1,ls.map S)]⟩=some (.exit 0,⟨[(0,.p (0,0) 0 0),(3,S s')],[((0,0),3,[.a [.i false (bs.map qM),I ci',I ch']]),((100000,0),1,ls.map S)]⟩)∧ci'≤bs.length∧s'.length≤1200:=by
 have tkl:(ls.map S).take ls.length=ls.map S:=List.take_of_length_le (by simp)
 induction m with
 |zero=>
  intro i s ci ch hi hc hs
  obtain ⟨c1,d1,x1,b1,q1,q2,q3⟩:=jZ bs hl ci ch hc 6 (by decide) (by decide)
  refine ⟨c1,d1,s, ?_,q1,by omega⟩
  have hlt: ¬ (i:Int) < x1:=by omega
  unfold CU at b1
  rw [qA]
  simp only [go_sem,qa,qb,qc,qd,qe,qf,reduceCtorEq,xA,b1,hlt]
 |succ m ih=>
  intro i s ci ch hi hc hs
  obtain ⟨c1,d1,x1,b1,q1,q2,q3⟩:=jZ bs hl ci ch hc 6 (by decide) (by decide)
  by_cases hlt:(i:Int) < x1
  case neg=>
   refine ⟨c1,d1,s, ?_,q1,by omega⟩
   unfold CU at b1
   rw [qA]
   simp only [go_sem,qa,qb,qc,qd,qe,qf,reduceCtorEq,xA,b1,hlt]
  obtain ⟨c2,d2,x2,b2,q4,q5,q6⟩:=jZ bs hl c1 d1 q1 12 (by decide) (by decide)
  have e1:w64 ((i:Int)+1)=((i+1:Nat):Int):=by rw [zA]<;>omega
  have go: ∀ (c3:Nat) (d3:Int) (s3:Str),c3≤bs.length→s3.length≤s.length+200→lw ql jh ⟨[(0,.p (0,0) 0 0),(3,S s),(4,.s (100000,0) 0 ls.length),(5,I i)],[((0,0),3,[.a [.i false (bs.map qM),I ci,I ch]]),((100000,0),1,ls.map S)]⟩=lw ql jh ⟨[(0,.p (0,0) 0 0),(3,S s3),(4,.s (100000,0) 0 ls.length),(5,I ((i+1:Nat):Int))],[((0,0),3,[.a [.i false (bs.map qM),I c3,I d3]]),((100000,0),1,ls.map S)]⟩→
   ∃ (ci':Nat) (ch':Int) (s':Str),lw ql jh ⟨[(0,.p (0,0) 0 0),(3,S s),(4,.s (100000,0) 0 ls.length),(5,I i)],[((0,0),3,[.a [.i false (bs.map qM),I ci,I ch]]),((100000,0),1,ls.map S)]⟩=some (.exit 0,⟨[(0,.p (0,0) 0 0),(3,S s')],[((0,0),3,[.a [.i false (bs.map qM),I ci',I ch']]),((100000,0),1,ls.map S)]⟩)∧ci'≤bs.length∧s'.length≤1200:=by
   intro c3 d3 s3 hc3 hs3 hst
   rw [hst]
   exact ih (i+1) s3 c3 d3 (by omega) hc3 (by omega)
  unfold CU at b1 b2
  by_cases k0:x2=0
  ·have a0:=qv (x:=s) (y:=[58,45,32,105,110,99,108,117,100,101,40,116,119,111,41,46,10]) (by simp only [List.length_cons,List.length_nil];omega)
   refine go c2 d2 (s++[58,45,32,105,110,99,108,117,100,101,40,116,119,111,41,46,10]) q4 (by simp only [List.length_append,List.length_cons,List.length_nil];omega) ?_
   rw [qA]
   simp only [go_sem,qa,qb,qc,qd,qe,qf,reduceCtorEq,xA,b1,b2,hlt,k0,a0,e1,Int.reduceEq]
  by_cases k1:x2=1
  ·obtain ⟨c3,d3,w,b3,q7,q8⟩:=QT bs hl c2 d2 q4 1 ls h0 h1
   have hw:=hls w q8
   unfold CU at b3
   have a0:=qv (x:=s) (y:=[58,45,32,105,102,40,112,40,97,41,41,46,10]) (by simp only [List.length_cons,List.length_nil];omega)
   have a1:=qv (x:=s++[58,45,32,105,102,40,112,40,97,41,41,46,10]) (y:=w) (by simp only [List.length_append,List.length_cons,List.length_nil];omega)
   have a2:=qv (x:=s++[58,45,32,105,102,40,112,40,97,41,41,46,10]++w) (y:=[46,10,58,45,32,101,108,115,101,46,10,122,40,49,41,46,10,58,45,32,101,110,100,105,102,46,10]) (by simp only [List.length_append,List.length_cons,List.length_nil];omega)
   refine go c3 d3 (s++[58,45,32,105,102,40,112,40,97,41,41,46,10]++w++[46,10,58,45,32,101,108,115,101,46,10,122,40,49,41,46,10,58,45,32,101,110,100,105,102,46,10]) q7 (by simp only [List.length_append,List.length_cons,List.length_nil];omega) ?_
   rw [qA]
   simp only [go_sem,qa,qb,qc,qd,qe,qf,reduceCtorEq,xA,b1,b2,b3,hlt,k1,a0,a1,a2,e1,Int.reduceEq,tkl]
  by_cases k2:x2=2
  ·have a0:=qv (x:=s) (y:=[58,45,32,111,112,101,110,40,47,40,111,44,32,49,41,41,46,10]) (by simp only [List.length_cons,List.length_nil];omega)
   refine go c2 d2 (s++[58,45,32,111,112,101,110,40,47,40,111,44,32,49,41,41,46,10]) q4 (by simp only [List.length_append,List.length_cons,List.length_nil];omega) ?_
   rw [qA]
   simp only [go_sem,qa,qb,qc,qd,qe,qf,reduceCtorEq,xA,b1,b2,hlt,k2,a0,e1,Int.reduceEq]
  by_cases k3:x2=3
  ·have a0:=qv (x:=s) (y:=[115,32,45,45,62,32,91,97,93,44,32,115,46,10,115,32,45,45,62,32,91,93,46,10]) (by simp only [List.length_cons,List.length_nil];omega)
   refine go c2 d2 (s++[115,32,45,45,62,32,91,97,93,44,32,115,46,10,115,32,45,45,62,32,91,93,46,10]) q4 (by simp only [List.length_append,List.length_cons,List.length_nil];omega) ?_
   rw [qA]
   simp only [go_sem,qa,qb,qc,qd,qe,qf,reduceCtorEq,xA,b1,b2,hlt,k3,a0,e1,Int.reduceEq]
  by_cases k4:x2=4
  ·have a0:=qv (x:=s) (y:=[101,120,112,97,110,100,40,111,108,100,40,88,41,44,32,112,40,88,41,41,46,10,111,108,100,40,107,41,46,10]) (by simp only [List.length_cons,List.length_nil];omega)
   refine go c2 d2 (s++[101,120,112,97,110,100,40,111,108,100,40,88,41,44,32,112,40,88,41,41,46,10,111,108,100,40,107,41,46,10]) q4 (by simp only [List.length_append,List.length_cons,List.length_nil];omega) ?_
   rw [qA]
   simp only [go_sem,qa,qb,qc,qd,qe,qf,reduceCtorEq,xA,b1,b2,hlt,k4,a0,e1,Int.reduceEq]
  by_cases k5:x2=5
  ·have a0:=qv (x:=s) (y:=[58,45,32,119,114,105,116,101,40,120,41,46,10,58,45,32,102,97,105,108,46,10]) (by simp only [List.length_cons,List.length_nil];omega)
   refine go c2 d2 (s++[58,45,32,119,114,105,116,101,40,120,41,46,10,58,45,32,102,97,105,108,46,10]) q4 (by simp only [List.length_append,List.length_cons,List.length_nil];omega) ?_
   rw [qA]
   simp only [go_sem,qa,qb,qc,qd,qe,qf,reduceCtorEq,xA,b1,b2,hlt,k5,a0,e1,Int.reduceEq]
  by_cases k6:x2=6
  ·obtain ⟨c3,d3,w,b3,q7,q8⟩:=QT bs hl c2 d2 q4 1 [[97,32,98,46,10],[58,45,32,101,108,115,101,46,10],[58,45,32,105,102,40,116,114,117,101,41,46,10],[58,45,32,101,110,100,105,102,46,10],[88,46,10],[116,114,117,101,46,10],[58,45,32,97,115,115,101,114,116,122,40,112,40,110,41,41,46,10],[58,45,32,105,110,99,108,117,100,101,40,110,111,110,101,41,46,10]] (by decide) (by decide)
   have hw:w.length≤60:=(show ∀ w ∈ ([[97,32,98,46,10],[58,45,32,101,108,115,101,46,10],[58,45,32,105,102,40,116,114,117,101,41,46,10],[58,45,32,101,110,100,105,102,46,10],[88,46,10],[116,114,117,101,46,10],[58,45,32,97,115,115,101,114,116,122,40,112,40,110,41,41,46,10],[58,45,32,105,110,99,108,117,100,101,40,110,111,110,101,41,46,10]]:List Str),w.length≤60 by decide) w q8
   unfold CU at b3
   simp only [List.map_cons,List.map_nil]at b3
   have a0:=qv (x:=s) (y:=w) (by omega)
   refine go c3 d3 (s++w) q7 (by simp only [List.length_append];omega) ?_
   rw [qA]
   simp only [go_sem,qa,qb,qc,qd,qe,qf,reduceCtorEq,xA,b1,b2,b3,hlt,k0,k1,k2,k3,k4,k5,k6,a0,e1,Int.reduceEq,tkl]
  ·obtain ⟨c3,d3,w,b3,q7,q8⟩:=QT bs hl c2 d2 q4 1 ls h0 h1
   have hw:=hls w q8
   unfold CU at b3
   have a0:=qv (x:=s) (y:=w) (by omega)
   have a1:=qv (x:=s++w) (y:=[46,10]) (by simp only [List.length_append,List.length_cons,List.length_nil];omega)
   refine go c3 d3 (s++w++[46,10]) q7 (by simp only [List.length_append,List.length_cons,List.length_nil];omega) ?_
   rw [qA]
   simp only [go_sem,qa,qb,qc,qd,qe,qf,reduceCtorEq,xA,b1,b2,b3,hlt,k0,k1,k2,k3,k4,k5,k6,a0,a1,e1,Int.reduceEq,tkl]
theorem qd5(bs:List UInt8) (hl:bs.length≤2^40) (ci:Nat) (ch:Int) (hc:ci≤bs.length):
 ∃ (ci':Nat) (ch':Int) (s:Str),cw ql XY [CU bs ci ch]=some (S s,[CU bs ci' ch'])∧ci'≤bs.length∧s.length≤1200:=by
 obtain ⟨c1,d1,s,lp,q1,q2⟩:=qkh bs hl j1 (by decide) (by decide) qkz 6 0 [] ci ch (by omega) hc (by simp)
 have l8:=qke
 have tkl:(j1.map S).take j1.length=j1.map S:=List.take_of_length_le (by simp)
 simp only [Int.natCast_zero]at lp
 refine ⟨c1,d1,s, ?_,q1,q2⟩
 generalize j1=ls at*
 rw [jp qll rfl]
 unfold CU
 simp only [go_sem,qa,qb,qc,qd,qe,qf,reduceCtorEq,Qz,yR,l8,lp,tkl,List.length_map]
end Go.Vm
namespace Go.Vm
structure Rq where
 kind:Int
 name:Str
 text:Str
noncomputable instance:DecidableEq Rq:=fun a b=>Classical.propDecidable (a=b)
def bRq(x:Rq) (v:V):Prop:=v= .a [I x.kind,S x.name,S x.text]
def oRq(x:Rq):V:= .a [I x.kind,S x.name,S x.text]
def iRq(τ:Bool) (x:Rq):V:= .a [I x.kind,S x.name,S x.text]
def wRq(x:Rq):Prop:=inI x.kind∧wS x.name∧wS x.text
theorem qdo(τ:Bool) (x:Rq):qV τ (oRq x)=iRq τ x:=by simp only [oRq,iRq,go_sem]
theorem qex(x:Rq):qT (oRq x)=true:=by simp only [oRq,go_sem]
theorem qes(x:Rq):qT (iRq false x)=true:=by simp only [iRq,go_sem]
@[go_sem] theorem qJF(τ:Bool) (x:Rq):qX (iRq τ x)=true:=rfl
@[go_sem] theorem qzP(m:Nat) (T:Mem) (τ:Bool) (x:Rq):qu (m+2) T (iRq τ x)=(iRq τ x,T):=rfl
@[go_sem] theorem qAb(τ τ':Bool) (x:Rq):qV τ (iRq τ' x)=iRq τ' x:=rfl
@[go_sem] theorem qDm(d:Nat) (τ:Bool) (x:Rq):qG d (iRq τ x)=iRq τ x:=rfl
@[go_sem] theorem qAE(τ:Bool) (x:Rq):yj (iRq τ x)=[]:=rfl
@[go_sem] theorem qCP(τ:Bool) (x:Rq):(iRq τ x).isA=true:=rfl
@[go_sem] theorem qDN(τ:Bool) (x:Rq):qR true 3 (iRq τ x) 0=some (iRq τ x):=rfl
@[go_sem] theorem qyN(τ:Bool) (x:Rq):(iRq τ x).cells=[I x.kind,S x.name,S x.text]:=rfl
@[go_sem] theorem qc5(x:Rq):clE (oRq x)=true:=rfl
@[go_sem] theorem qy2(τ:Bool) (x:Rq):clE (iRq τ x)=true:=rfl
attribute [go_sem] qdo qex qes
@[go_sem] theorem qz1(τ:Bool) (l:List Rq):qW τ (l.map oRq)=l.map (iRq τ):=kj (qdo τ) l
@[go_sem] theorem qFl(l:List Rq):zb (l.map oRq)=true:=yF qex l
@[go_sem] theorem qFs(l:List Rq):zb (l.map (iRq false))=true:=yF qes l
@[go_sem] theorem qdd(l:List Rq):qy (l.map oRq)=true:=xW qc5 l
@[go_sem] theorem qD0(m:Nat) (T:Mem) (l:List Rq):qx (zn m) T (l.map oRq)=(l.map oRq,T):=xZ m T _ (qdd l)
@[go_sem] theorem qHX(k:Key) (ob:Ob) (l:List Rq):zu k ob (l.map oRq)=none:=jy k ob _ (qdd l)
@[go_sem] theorem qC6(d:Nat) (l:List Rq):qC d (l.map oRq)=l.map oRq:=kS qc5 d l
end Go.Vm
namespace Go.Vm
def kM(q:Rq):Prop:=q.name.length≤60∧q.text.length≤1300
theorem qki(bs:List UInt8) (hl:bs.length≤2^40) (ci:Nat) (ch:Int) (hc:ci≤bs.length):
 ∃ (ci':Nat) (ch':Int) (q:Rq),cw ql XZ [CU bs ci ch]=some (.a [I q.kind,S q.name,S q.text],[CU bs ci' ch'])∧ci'≤bs.length∧kM q:=by
 obtain ⟨c1,d1,x1,b1,q1,q2,q3⟩:=jZ bs hl ci ch hc 6 (by decide) (by decide)
 unfold CU at b1
 have fil: ∀ (k:x1=0∨x1=1),∃ (ci':Nat) (ch':Int) (q:Rq),cw ql XZ [CU bs ci ch]=some (.a [I q.kind,S q.name,S q.text],[CU bs ci' ch'])∧ci'≤bs.length∧kM q:=by
  intro k
  obtain ⟨c2,d2,w,b2,q4,q5⟩:=QT bs hl c1 d1 q1 1 [[111,110,101],[116,119,111]] (by decide) (by decide)
  obtain ⟨c3,d3,s,b3,q6,q7⟩:=qd5 bs hl c2 d2 q4
  have hw:w.length≤60:=(show ∀ w ∈ ([[111,110,101],[116,119,111]]:List Str),w.length≤60 by decide) w q5
  unfold CU at b2 b3
  simp only [List.map_cons,List.map_nil]at b2
  refine ⟨c3,d3,⟨3,w,s⟩, ?_,q6,hw,by simp only;omega⟩
  rw [jp qa1 rfl]
  unfold CU
  rcases k with k|k<;>simp only [go_sem,qa,qb,qc,qd,qe,qf,reduceCtorEq,jc,yR,b1,b2,b3,k,Int.reduceEq]
 by_cases k0:x1=0
 ·exact fil (.inl k0)
 by_cases k1:x1=1
 ·exact fil (.inr k1)
 by_cases k2:x1=2
 ·obtain ⟨c2,d2,w,b2,q4,q5⟩:=QT bs hl c1 d1 q1 1 [[111,110,101],[116,119,111],[110,111,110,101]] (by decide) (by decide)
  have hw:w.length≤60:=(show ∀ w ∈ ([[111,110,101],[116,119,111],[110,111,110,101]]:List Str),w.length≤60 by decide) w q5
  unfold CU at b2
  simp only [List.map_cons,List.map_nil]at b2
  refine ⟨c2,d2,⟨1,w,[]⟩, ?_,q4,hw,by simp⟩
  rw [jp qa1 rfl]
  unfold CU
  simp only [go_sem,qa,qb,qc,qd,qe,qf,reduceCtorEq,jc,yR,b1,b2,k2,Int.reduceEq]
 ·obtain ⟨c2,d2,w,b2,q4,q5⟩:=QT bs hl c1 d1 q1 1 jQ (by decide) (by decide)
  have hw:=qha w q5
  have ak:=qkf
  have tkl:(jQ.map S).take jQ.length=jQ.map S:=List.take_of_length_le (by simp)
  have a0:=qv (x:=w) (y:=[46]) (by simp only [List.length_cons,List.length_nil];omega)
  unfold CU at b2
  refine ⟨c2,d2,⟨2,[],w++[46]⟩, ?_,q4,by simp,by simp only [List.length_append,List.length_cons,List.length_nil];omega⟩
  generalize jQ=ls at*
  rw [jp qa1 rfl]
  unfold CU
  simp only [go_sem,qa,qb,qc,qd,qe,qf,reduceCtorEq,jc,yR,b1,b2,ak,k0,k1,k2,a0,tkl,List.length_map]
theorem qkj(bs:List UInt8) (hl:bs.length≤2^40) (most:Int) (hm:most≤9) (m:Nat): ∀ (out:List Rq) (ci:Nat) (ch:Int),out.length+m=9→ci≤bs.length→(∀ q ∈ out,kM q)→2≤out.length→
 ∃ (ci':Nat) (ch':Int) (o:List Rq),lw ql ji ⟨[(3,.p (100000,0) 0 0),(4,I most),(5,.s (100000,1) 0 (out).length)],[((100000,0),3,[.a [.i false (bs.map qM),I ci,I ch]]),((100000,1),3,(out).map oRq)]⟩=some (.exit 0,⟨[(5,.s (100000,1) 0 (o).length)],[((100000,0),3,[.a [.i false (bs.map qM),I ci',I ch']]),((100000,1),3,(o).map oRq)]⟩)∧2≤o.length∧o.length≤9∧(∀ q ∈ o,kM q):=by
 induction m with
 |zero=>
  intro out ci ch ho hc hq h2
  have h1: ¬ (out.length:Int) < most:=by omega
  refine ⟨ci,ch,out, ?_,h2,by omega,hq⟩
  rw [qA]
  simp only [go_sem,qa,qb,qc,qd,qe,qf,reduceCtorEq,Z0,h1]
 |succ m ih=>
  intro out ci ch ho hc hq h2
  by_cases h1:(out.length:Int) < most
  case neg=>
   refine ⟨ci,ch,out, ?_,h2,by omega,hq⟩
   rw [qA]
   simp only [go_sem,qa,qb,qc,qd,qe,qf,reduceCtorEq,Z0,h1]
  obtain ⟨c1,d1,q,b1,q1,q2⟩:=qki bs hl ci ch hc
  have l1:decide ((out.length+1)*40≤lim)=true:=decide_eq_true (by rw [xG];omega)
  have l2:decide (out.length+1≤lim)=true:=decide_eq_true (by rw [xG];omega)
  have eo:(out++[q]).map oRq=out.map oRq++[.a [I q.kind,S q.name,S q.text]]:=by simp [oRq]
  have tko:(out.map oRq).take out.length=out.map oRq:=List.take_of_length_le (by simp)
  have stp:lw ql ji ⟨[(3,.p (100000,0) 0 0),(4,I most),(5,.s (100000,1) 0 (out).length)],[((100000,0),3,[.a [.i false (bs.map qM),I ci,I ch]]),((100000,1),3,(out).map oRq)]⟩=lw ql ji ⟨[(3,.p (100000,0) 0 0),(4,I most),(5,.s (100000,1) 0 ((out++[q])).length)],[((100000,0),3,[.a [.i false (bs.map qM),I c1,I d1]]),((100000,1),3,((out++[q])).map oRq)]⟩:=by
   unfold CU at b1
   rw [qA,eo]
   simp only [go_sem,qa,qb,qc,qd,qe,qf,reduceCtorEq,Z0,h1,b1,l1,l2,tko,List.length_map,List.length_append,List.length_cons,List.length_nil]
  rw [stp]
  refine ih (out++[q]) c1 d1 (by simp;omega) q1 (fun x hx=> ?_) (by simp;omega)
  rcases List.mem_append.1 hx with hx|hx
  ·exact hq x hx
  ·simp only [List.mem_singleton]at hx;subst hx;exact q2
theorem qkk(bs:List UInt8) (hl:bs.length≤2^40):
 ∃ (o:List Rq),cr ql JY [.i false (bs.map qM)]=some (.o 3 (o.map oRq))∧2≤o.length∧o.length≤9∧(∀ q ∈ o,kM q):=by
 obtain ⟨ch,nw⟩:=qd4 bs hl
 obtain ⟨c1,d1,s,b1,q1,q2⟩:=qd5 bs hl 0 ch (Nat.zero_le _)
 have bq:=qhg (a:=(bs.length:Int)) (b:=10) (by decide)
 have tl:[112,40,97,41,46,10,112,40,98,41,46,10].length=12:=rfl
 have a0:=qv (x:=s) (y:=[112,40,97,41,46,10,112,40,98,41,46,10]) (by simp only [List.length_cons,List.length_nil];omega)
 have hq0: ∀ q ∈ ([⟨3,[111,110,101],s++[112,40,97,41,46,10,112,40,98,41,46,10]⟩,⟨1,[111,110,101],[]⟩]:List Rq),kM q:=by
  intro q hq
  simp only [List.mem_cons,List.not_mem_nil,or_false]at hq
  rcases hq with rfl|rfl
  ·exact ⟨by simp,by simp only [List.length_append,List.length_cons,List.length_nil];omega⟩
  ·exact ⟨by simp,by simp⟩
 unfold CU at nw b1
 simp only [Int.natCast_zero]at nw b1
 have key: ∀ most:Int,most≤9→ ∃ (ci':Nat) (ch':Int) (o:List Rq),lw ql ji ⟨[(3,.p (100000,0) 0 0),(4,I most),(5,.s (100000,1) 0 2)],[((100000,0),3,[.a [.i false (bs.map qM),I c1,I d1]]),((100000,1),3,[.a [I 3,S [111,110,101],S (s++[112,40,97,41,46,10,112,40,98,41,46,10])],.a [I 1,S [111,110,101],S []]])]⟩=some (.exit 0,⟨[(5,.s (100000,1) 0 (o).length)],[((100000,0),3,[.a [.i false (bs.map qM),I ci',I ch']]),((100000,1),3,(o).map oRq)]⟩)∧2≤o.length∧o.length≤9∧(∀ q ∈ o,kM q):=
  fun most hm=>qkj bs hl most hm 7 _ c1 d1 rfl q1 hq0 (Nat.le_refl _)
 by_cases hb:(9:Int) < w64 (3+w64 ((bs.length:Int).tdiv 10))
 ·obtain ⟨ci',ch',o,lp,o1,o2,o3⟩:=key 9 (by decide)
  refine ⟨o, ?_,o1,o2,o3⟩
  have tko:(o.map oRq).take o.length=o.map oRq:=List.take_of_length_le (by simp)
  rw [qS qeL rfl]
  simp only [go_sem,qa,qb,qc,qd,qe,qf,reduceCtorEq,jK,nw,b1,bq,a0,hb,lp,tko,List.length_map]
 ·obtain ⟨ci',ch',o,lp,o1,o2,o3⟩:=key (w64 (3+w64 ((bs.length:Int).tdiv 10))) (by omega)
  refine ⟨o, ?_,o1,o2,o3⟩
  have tko:(o.map oRq).take o.length=o.map oRq:=List.take_of_length_le (by simp)
  rw [qS qeL rfl]
  simp only [go_sem,qa,qb,qc,qd,qe,qf,reduceCtorEq,jK,nw,b1,bq,a0,hb,lp,tko,List.length_map]
end Go.Vm
namespace Go.Vm
@[go_sem] theorem qhm: ∀ l:List UInt8,xj (l.map qM)=some l
 |[]=>rfl
 |c::l=>by
  show (match xj (l.map qM)with|some l=>some (UInt8.ofNat ((c.toNat:Nat):Int).toNat::l)|none=>none)=_
  rw [qhm l];simp
@[go_sem] theorem qy6(n:Nat) (k:Int):qy (List.replicate n (U8 k))=true:=QJ n _ rfl
theorem qka(n:Nat) (hn:n≤2^20) (m:Nat): ∀ i:Nat,i+m=n→
 lw ql ZQ ⟨[(0,I n),(1,U8 32),(5,.s (100000,0) 0 n),(6,I i)],[((100000,0),1,(List.replicate i (32:UInt8)).map qM++List.replicate m (U8 0))]⟩=some (.exit 0,⟨[(5,.s (100000,0) 0 n)],[((100000,0),1,(List.replicate n (32:UInt8)).map qM)]⟩):=by
 induction m with
 |zero=>
  intro i hi
  obtain rfl:i=n:=by omega
  have h: ¬ (i:Int) < (i:Int):=by omega
  rw [List.replicate_zero,List.append_nil,qA]
  simp only [go_sem,qa,qb,qc,qd,qe,qf,reduceCtorEq,Kv,h]
 |succ m ih=>
  intro i hi
  have h:(i:Int) < (n:Int):=by omega
  have e1:w64 ((i:Int)+1)=((i+1:Nat):Int):=by rw [zA]<;>omega
  have ix:=jr (k:=(100000,0)) (e:=1) (xs:=(List.replicate i (32:UInt8)).map qM++U8 0::List.replicate m (U8 0)) (i:=i) (len:=n) (by omega) (by simp;omega)
  have cg:=fun y zs=>qhp ((List.replicate i (32:UInt8)).map qM) y zs i (by simp)
  have cs:=fun y y' zs=>qhr ((List.replicate i (32:UInt8)).map qM) y y' zs i (by simp)
  have er:(List.replicate (i+1) (32:UInt8)).map qM++List.replicate m (U8 0)=(List.replicate i (32:UInt8)).map qM++U8 32::List.replicate m (U8 0):=by
   rw [List.replicate_succ',List.map_append,List.append_assoc];rfl
  have i1:=ih (i+1) (by omega)
  rw [er]at i1
  rw [← i1,List.replicate_succ,qA]
  simp only [go_sem,qa,qb,qc,qd,qe,qf,reduceCtorEq,Kv,h,e1,ix,cg,cs]
theorem qkb(n:Nat) (hn:n≤2^20):cr ql JU [I n,U8 32]=some (S (List.replicate n 32)):=by
 have lp:=qka n hn n 0 (by omega)
 simp only [Int.natCast_zero,List.replicate_zero,List.map_nil,List.nil_append]at lp
 have mk:=fun σ T=>qkB (σ:=σ) (T:=T) (e:=1) (bytes:=1) (z:=U8 0) (n:=n) (d:=8) (by rw [xG];omega) (by rw [xG];omega) rfl rfl rfl
 have tk:((List.replicate n (32:UInt8)).map qM).take n=(List.replicate n (32:UInt8)).map qM:=List.take_of_length_le (by simp)
 rw [qS qle rfl]
 simp only [go_sem,qa,qb,qc,qd,qe,qf,reduceCtorEq,Qu,mk,lp,tk,List.length_map,List.length_replicate]
end Go.Vm
namespace Go.Vm
theorem qa3(ls:List Str) (j:Nat) (hj:j < ls.length) (b:Nat) (hb: ∀ s ∈ ls,s.length≤b): ∃ w,(ls.map S)[j]? =some (S w)∧w.length≤b:=by
 obtain ⟨w,hw⟩:=kO (l:=ls) (i:=j) hj
 exact ⟨w,xF (f:=S) hw,hb w (List.mem_of_getElem? hw)⟩
theorem JC(a:Int) (n:Nat) (ha:0≤a) (hn:0 < n): ∃ j:Nat,a.tmod n=j∧j < n:=by
 have:=qf9 a n ha (by omega)
 exact ⟨(a.tmod n).toNat,by omega,by omega⟩
theorem qkp(o:List Rq) (ho:o.length≤9) (hq: ∀ q ∈ o,kM q) (k y:Int) (hy:0≤y) (hy2:y < 60) (m:Nat): ∀ (i:Nat) (s:Str),i+m=o.length→i≤s.length→s.length≤1500*i→
 ∃ s':Str,lw ql jk ⟨[(4,I k),(5,I y),(6,.s (100000,0) 0 o.length),(7,S s),(8,I i)],[((100000,0),3,o.map oRq)]⟩=some (.exit 0,⟨[(4,I k),(5,I y),(7,S s')],[((100000,0),3,o.map oRq)]⟩)∧o.length≤s'.length∧s'.length≤1500*o.length:=by
 induction m with
 |zero=>
  intro i s hi h1 h2
  obtain rfl:i=o.length:=by omega
  have h: ¬ (o.length:Int) < (o.length:Int):=by omega
  refine ⟨s, ?_,h1,h2⟩
  rw [qA]
  simp only [go_sem,qa,qb,qc,qd,qe,qf,reduceCtorEq,yN,h]
 |succ m ih=>
  intro i s hi hs1 hs2
  have hlt:(i:Int) < (o.length:Int):=by omega
  obtain ⟨q,hqi⟩:=kO (l:=o) (i:=i) (by omega)
  have bq:=hq q (List.mem_of_getElem? hqi)
  unfold kM at bq
  have g:(o.map oRq)[i]? =some (.a [I q.kind,S q.name,S q.text]):=xF (f:=oRq) hqi
  have ix:=jr (k:=(100000,0)) (e:=3) (xs:=o.map oRq) (i:=i) (len:=o.length) (by omega) (by simp)
  have e1:w64 ((i:Int)+1)=((i+1:Nat):Int):=by rw [zA]<;>omega
  have e7:w64 ((i:Int)*7)=(i:Int)*7:=by rw [zA]<;>omega
  have e8:w64 ((i:Int)*7+y)=(i:Int)*7+y:=by rw [zA]<;>omega
  have r5:=QF (a:=(i:Int)*7+y) (b:=5) (by decide)
  have r4:=QF (a:=y) (b:=4) (by decide)
  have r5y:=QF (a:=y) (b:=5) (by decide)
  obtain ⟨j4,t4,u4⟩:=JC y 4 hy (by decide)
  obtain ⟨j5,t5,u5⟩:=JC y 5 hy (by decide)
  rw [show y.tmod 4=(j4:Int)from t4]at r4
  rw [show y.tmod 5=(j5:Int)from t5]at r5y
  obtain ⟨wa,ga,la⟩:=qa3 [[10],[32,32,10],[35,32,97,32,119,111,114,100,10],[35,98,10]] j4 u4 20 (by decide)
  obtain ⟨wb,gb,lb⟩:=qa3 [[97,115,107],[119,104,97,116,10],[102,105,108,101,32,65,10,101,110,100,10],[99,111,110,115,117,108,116,10],[102,105,108,101,32,111,110,101,10]] j5 u5 20 (by decide)
  simp only [List.map_cons,List.map_nil]at ga gb
  have ixa:=jr (k:=(31,0)) (e:=1) (xs:=[S [10],S [32,32,10],S [35,32,97,32,119,111,114,100,10],S [35,98,10]]) (i:=j4) (len:=4) u4 (by decide)
  have ixb:=jr (k:=(41,0)) (e:=1) (xs:=[S [97,115,107],S [119,104,97,116,10],S [102,105,108,101,32,65,10,101,110,100,10],S [99,111,110,115,117,108,116,10],S [102,105,108,101,32,111,110,101,10]]) (i:=j5) (len:=5) u5 (by decide)
  have go: ∀ s3:Str,s.length+1≤s3.length→s3.length≤s.length+1500→lw ql jk ⟨[(4,I k),(5,I y),(6,.s (100000,0) 0 o.length),(7,S s),(8,I i)],[((100000,0),3,o.map oRq)]⟩=lw ql jk ⟨[(4,I k),(5,I y),(6,.s (100000,0) 0 o.length),(7,S s3),(8,I ((i+1:Nat):Int))],[((100000,0),3,o.map oRq)]⟩→
   ∃ s':Str,lw ql jk ⟨[(4,I k),(5,I y),(6,.s (100000,0) 0 o.length),(7,S s),(8,I i)],[((100000,0),3,o.map oRq)]⟩=some (.exit 0,⟨[(4,I k),(5,I y),(7,S s')],[((100000,0),3,o.map oRq)]⟩)∧o.length≤s'.length∧s'.length≤1500*o.length:=by
   intro s3 h1 h2 h3
   rw [h3]
   exact ih (i+1) s3 (by omega) (by omega) (by omega)
  have A1:=qv (x:=s) (y:=wa) (by omega)
  by_cases hA:((i:Int)*7+y).tmod 5=0
  ·have B1:=qv (x:=s++wa) (y:=wb) (by first|omega|(simp only [List.length_append,List.length_cons,List.length_nil];omega))
   by_cases hB:(i:Int)=y
   ·have hBd:decide ((i:Int)=y)=true:=decide_eq_true hB
    by_cases k3:q.kind=3
    ·have C0:=qv (x:=s++wa++wb) (y:=[102,105,108,101,32]) (by first|omega|(simp only [List.length_append,List.length_cons,List.length_nil];omega))
     have C1:=qv (x:=s++wa++wb++[102,105,108,101,32]) (y:=q.name) (by first|omega|(simp only [List.length_append,List.length_cons,List.length_nil];omega))
     have C2:=qv (x:=s++wa++wb++[102,105,108,101,32]++q.name) (y:=[10]) (by first|omega|(simp only [List.length_append,List.length_cons,List.length_nil];omega))
     have C3:=qv (x:=s++wa++wb++[102,105,108,101,32]++q.name++[10]) (y:=q.text) (by first|omega|(simp only [List.length_append,List.length_cons,List.length_nil];omega))
     have C4:=qv (x:=s++wa++wb++[102,105,108,101,32]++q.name++[10]++q.text) (y:=[101,110,100,10]) (by first|omega|(simp only [List.length_append,List.length_cons,List.length_nil];omega))
     refine go (s++wa++wb++[102,105,108,101,32]++q.name++[10]++q.text++[101,110,100,10]) (by first|omega|(simp only [List.length_append,List.length_cons,List.length_nil];omega)) (by first|omega|(simp only [List.length_append,List.length_cons,List.length_nil];omega)) ?_
     rw [qA]
     simp only [go_sem,qa,qb,qc,qd,qe,qf,reduceCtorEq,yN,r5,r4,r5y,e1,e7,e8,g,ix,hlt,hA,hBd,A1,ixa,ga,B1,ixb,gb,k3,C0,C1,C2,C3,C4,Int.reduceEq]
    by_cases k1:q.kind=1
    ·have C0:=qv (x:=s++wa++wb) (y:=[99,111,110,115,117,108,116,32]) (by first|omega|(simp only [List.length_append,List.length_cons,List.length_nil];omega))
     have C1:=qv (x:=s++wa++wb++[99,111,110,115,117,108,116,32]) (y:=q.name) (by first|omega|(simp only [List.length_append,List.length_cons,List.length_nil];omega))
     have C2:=qv (x:=s++wa++wb++[99,111,110,115,117,108,116,32]++q.name) (y:=[10]) (by first|omega|(simp only [List.length_append,List.length_cons,List.length_nil];omega))
     refine go (s++wa++wb++[99,111,110,115,117,108,116,32]++q.name++[10]) (by first|omega|(simp only [List.length_append,List.length_cons,List.length_nil];omega)) (by first|omega|(simp only [List.length_append,List.length_cons,List.length_nil];omega)) ?_
     rw [qA]
     simp only [go_sem,qa,qb,qc,qd,qe,qf,reduceCtorEq,yN,r5,r4,r5y,e1,e7,e8,g,ix,hlt,hA,hBd,A1,ixa,ga,B1,ixb,gb,k3,k1,C0,C1,C2,Int.reduceEq]
    ·have C0:=qv (x:=s++wa++wb) (y:=[97,115,107,32]) (by first|omega|(simp only [List.length_append,List.length_cons,List.length_nil];omega))
     have C1:=qv (x:=s++wa++wb++[97,115,107,32]) (y:=q.text) (by first|omega|(simp only [List.length_append,List.length_cons,List.length_nil];omega))
     have C2:=qv (x:=s++wa++wb++[97,115,107,32]++q.text) (y:=[10]) (by first|omega|(simp only [List.length_append,List.length_cons,List.length_nil];omega))
     refine go (s++wa++wb++[97,115,107,32]++q.text++[10]) (by first|omega|(simp only [List.length_append,List.length_cons,List.length_nil];omega)) (by first|omega|(simp only [List.length_append,List.length_cons,List.length_nil];omega)) ?_
     rw [qA]
     simp only [go_sem,qa,qb,qc,qd,qe,qf,reduceCtorEq,yN,r5,r4,r5y,e1,e7,e8,g,ix,hlt,hA,hBd,A1,ixa,ga,B1,ixb,gb,k3,k1,C0,C1,C2,Int.reduceEq]
   ·have hBd:decide ((i:Int)=y)=false:=decide_eq_false hB
    by_cases k3:q.kind=3
    ·have C0:=qv (x:=s++wa) (y:=[102,105,108,101,32]) (by first|omega|(simp only [List.length_append,List.length_cons,List.length_nil];omega))
     have C1:=qv (x:=s++wa++[102,105,108,101,32]) (y:=q.name) (by first|omega|(simp only [List.length_append,List.length_cons,List.length_nil];omega))
     have C2:=qv (x:=s++wa++[102,105,108,101,32]++q.name) (y:=[10]) (by first|omega|(simp only [List.length_append,List.length_cons,List.length_nil];omega))
     have C3:=qv (x:=s++wa++[102,105,108,101,32]++q.name++[10]) (y:=q.text) (by first|omega|(simp only [List.length_append,List.length_cons,List.length_nil];omega))
     have C4:=qv (x:=s++wa++[102,105,108,101,32]++q.name++[10]++q.text) (y:=[101,110,100,10]) (by first|omega|(simp only [List.length_append,List.length_cons,List.length_nil];omega))
     refine go (s++wa++[102,105,108,101,32]++q.name++[10]++q.text++[101,110,100,10]) (by first|omega|(simp only [List.length_append,List.length_cons,List.length_nil];omega)) (by first|omega|(simp only [List.length_append,List.length_cons,List.length_nil];omega)) ?_
     rw [qA]
     simp only [go_sem,qa,qb,qc,qd,qe,qf,reduceCtorEq,yN,r5,r4,r5y,e1,e7,e8,g,ix,hlt,hA,hBd,A1,ixa,ga,k3,C0,C1,C2,C3,C4,Int.reduceEq]
    by_cases k1:q.kind=1
    ·have C0:=qv (x:=s++wa) (y:=[99,111,110,115,117,108,116,32]) (by first|omega|(simp only [List.length_append,List.length_cons,List.length_nil];omega))
     have C1:=qv (x:=s++wa++[99,111,110,115,117,108,116,32]) (y:=q.name) (by first|omega|(simp only [List.length_append,List.length_cons,List.length_nil];omega))
     have C2:=qv (x:=s++wa++[99,111,110,115,117,108,116,32]++q.name) (y:=[10]) (by first|omega|(simp only [List.length_append,List.length_cons,List.length_nil];omega))
     refine go (s++wa++[99,111,110,115,117,108,116,32]++q.name++[10]) (by first|omega|(simp only [List.length_append,List.length_cons,List.length_nil];omega)) (by first|omega|(simp only [List.length_append,List.length_cons,List.length_nil];omega)) ?_
     rw [qA]
     simp only [go_sem,qa,qb,qc,qd,qe,qf,reduceCtorEq,yN,r5,r4,r5y,e1,e7,e8,g,ix,hlt,hA,hBd,A1,ixa,ga,k3,k1,C0,C1,C2,Int.reduceEq]
    ·have C0:=qv (x:=s++wa) (y:=[97,115,107,32]) (by first|omega|(simp only [List.length_append,List.length_cons,List.length_nil];omega))
     have C1:=qv (x:=s++wa++[97,115,107,32]) (y:=q.text) (by first|omega|(simp only [List.length_append,List.length_cons,List.length_nil];omega))
     have C2:=qv (x:=s++wa++[97,115,107,32]++q.text) (y:=[10]) (by first|omega|(simp only [List.length_append,List.length_cons,List.length_nil];omega))
     refine go (s++wa++[97,115,107,32]++q.text++[10]) (by first|omega|(simp only [List.length_append,List.length_cons,List.length_nil];omega)) (by first|omega|(simp only [List.length_append,List.length_cons,List.length_nil];omega)) ?_
     rw [qA]
     simp only [go_sem,qa,qb,qc,qd,qe,qf,reduceCtorEq,yN,r5,r4,r5y,e1,e7,e8,g,ix,hlt,hA,hBd,A1,ixa,ga,k3,k1,C0,C1,C2,Int.reduceEq]
  ·have B1:=qv (x:=s) (y:=wb) (by first|omega|(simp only [List.length_append,List.length_cons,List.length_nil];omega))
   by_cases hB:(i:Int)=y
   ·have hBd:decide ((i:Int)=y)=true:=decide_eq_true hB
    by_cases k3:q.kind=3
    ·have C0:=qv (x:=s++wb) (y:=[102,105,108,101,32]) (by first|omega|(simp only [List.length_append,List.length_cons,List.length_nil];omega))
     have C1:=qv (x:=s++wb++[102,105,108,101,32]) (y:=q.name) (by first|omega|(simp only [List.length_append,List.length_cons,List.length_nil];omega))
     have C2:=qv (x:=s++wb++[102,105,108,101,32]++q.name) (y:=[10]) (by first|omega|(simp only [List.length_append,List.length_cons,List.length_nil];omega))
     have C3:=qv (x:=s++wb++[102,105,108,101,32]++q.name++[10]) (y:=q.text) (by first|omega|(simp only [List.length_append,List.length_cons,List.length_nil];omega))
     have C4:=qv (x:=s++wb++[102,105,108,101,32]++q.name++[10]++q.text) (y:=[101,110,100,10]) (by first|omega|(simp only [List.length_append,List.length_cons,List.length_nil];omega))
     refine go (s++wb++[102,105,108,101,32]++q.name++[10]++q.text++[101,110,100,10]) (by first|omega|(simp only [List.length_append,List.length_cons,List.length_nil];omega)) (by first|omega|(simp only [List.length_append,List.length_cons,List.length_nil];omega)) ?_
     rw [qA]
     simp only [go_sem,qa,qb,qc,qd,qe,qf,reduceCtorEq,yN,r5,r4,r5y,e1,e7,e8,g,ix,hlt,hA,hBd,B1,ixb,gb,k3,C0,C1,C2,C3,C4,Int.reduceEq]
    by_cases k1:q.kind=1
    ·have C0:=qv (x:=s++wb) (y:=[99,111,110,115,117,108,116,32]) (by first|omega|(simp only [List.length_append,List.length_cons,List.length_nil];omega))
     have C1:=qv (x:=s++wb++[99,111,110,115,117,108,116,32]) (y:=q.name) (by first|omega|(simp only [List.length_append,List.length_cons,List.length_nil];omega))
     have C2:=qv (x:=s++wb++[99,111,110,115,117,108,116,32]++q.name) (y:=[10]) (by first|omega|(simp only [List.length_append,List.length_cons,List.length_nil];omega))
     refine go (s++wb++[99,111,110,115,117,108,116,32]++q.name++[10]) (by first|omega|(simp only [List.length_append,List.length_cons,List.length_nil];omega)) (by first|omega|(simp only [List.length_append,List.length_cons,List.length_nil];omega)) ?_
     rw [qA]
     simp only [go_sem,qa,qb,qc,qd,qe,qf,reduceCtorEq,yN,r5,r4,r5y,e1,e7,e8,g,ix,hlt,hA,hBd,B1,ixb,gb,k3,k1,C0,C1,C2,Int.reduceEq]
    ·have C0:=qv (x:=s++wb) (y:=[97,115,107,32]) (by first|omega|(simp only [List.length_append,List.length_cons,List.length_nil];omega))
     have C1:=qv (x:=s++wb++[97,115,107,32]) (y:=q.text) (by first|omega|(simp only [List.length_append,List.length_cons,List.length_nil];omega))
     have C2:=qv (x:=s++wb++[97,115,107,32]++q.text) (y:=[10]) (by first|omega|(simp only [List.length_append,List.length_cons,List.length_nil];omega))
     refine go (s++wb++[97,115,107,32]++q.text++[10]) (by first|omega|(simp only [List.length_append,List.length_cons,List.length_nil];omega)) (by first|omega|(simp only [List.length_append,List.length_cons,List.length_nil];omega)) ?_
     rw [qA]
     simp only [go_sem,qa,qb,qc,qd,qe,qf,reduceCtorEq,yN,r5,r4,r5y,e1,e7,e8,g,ix,hlt,hA,hBd,B1,ixb,gb,k3,k1,C0,C1,C2,Int.reduceEq]
   ·have hBd:decide ((i:Int)=y)=false:=decide_eq_false hB
    by_cases k3:q.kind=3
    ·have C0:=qv (x:=s) (y:=[102,105,108,101,32]) (by first|omega|(simp only [List.length_append,List.length_cons,List.length_nil];omega))
     have C1:=qv (x:=s++[102,105,108,101,32]) (y:=q.name) (by first|omega|(simp only [List.length_append,List.length_cons,List.length_nil];omega))
     have C2:=qv (x:=s++[102,105,108,101,32]++q.name) (y:=[10]) (by first|omega|(simp only [List.length_append,List.length_cons,List.length_nil];omega))
     have C3:=qv (x:=s++[102,105,108,101,32]++q.name++[10]) (y:=q.text) (by first|omega|(simp only [List.length_append,List.length_cons,List.length_nil];omega))
     have C4:=qv (x:=s++[102,105,108,101,32]++q.name++[10]++q.text) (y:=[101,110,100,10]) (by first|omega|(simp only [List.length_append,List.length_cons,List.length_nil];omega))
     refine go (s++[102,105,108,101,32]++q.name++[10]++q.text++[101,110,100,10]) (by first|omega|(simp only [List.length_append,List.length_cons,List.length_nil];omega)) (by first|omega|(simp only [List.length_append,List.length_cons,List.length_nil];omega)) ?_
     rw [qA]
     simp only [go_sem,qa,qb,qc,qd,qe,qf,reduceCtorEq,yN,r5,r4,r5y,e1,e7,e8,g,ix,hlt,hA,hBd,k3,C0,C1,C2,C3,C4,Int.reduceEq]
    by_cases k1:q.kind=1
    ·have C0:=qv (x:=s) (y:=[99,111,110,115,117,108,116,32]) (by first|omega|(simp only [List.length_append,List.length_cons,List.length_nil];omega))
     have C1:=qv (x:=s++[99,111,110,115,117,108,116,32]) (y:=q.name) (by first|omega|(simp only [List.length_append,List.length_cons,List.length_nil];omega))
     have C2:=qv (x:=s++[99,111,110,115,117,108,116,32]++q.name) (y:=[10]) (by first|omega|(simp only [List.length_append,List.length_cons,List.length_nil];omega))
     refine go (s++[99,111,110,115,117,108,116,32]++q.name++[10]) (by first|omega|(simp only [List.length_append,List.length_cons,List.length_nil];omega)) (by first|omega|(simp only [List.length_append,List.length_cons,List.length_nil];omega)) ?_
     rw [qA]
     simp only [go_sem,qa,qb,qc,qd,qe,qf,reduceCtorEq,yN,r5,r4,r5y,e1,e7,e8,g,ix,hlt,hA,hBd,k3,k1,C0,C1,C2,Int.reduceEq]
    ·have C0:=qv (x:=s) (y:=[97,115,107,32]) (by first|omega|(simp only [List.length_append,List.length_cons,List.length_nil];omega))
     have C1:=qv (x:=s++[97,115,107,32]) (y:=q.text) (by first|omega|(simp only [List.length_append,List.length_cons,List.length_nil];omega))
     have C2:=qv (x:=s++[97,115,107,32]++q.text) (y:=[10]) (by first|omega|(simp only [List.length_append,List.length_cons,List.length_nil];omega))
     refine go (s++[97,115,107,32]++q.text++[10]) (by first|omega|(simp only [List.length_append,List.length_cons,List.length_nil];omega)) (by first|omega|(simp only [List.length_append,List.length_cons,List.length_nil];omega)) ?_
     rw [qA]
     simp only [go_sem,qa,qb,qc,qd,qe,qf,reduceCtorEq,yN,r5,r4,r5y,e1,e7,e8,g,ix,hlt,hA,hBd,k3,k1,C0,C1,C2,Int.reduceEq]
end Go.Vm
namespace Go.Vm
def qkO(t:Tm):Bool:=
 if t.kind=1 then decide (0≤t.num∧t.num≤99999)&&(decide (t.name=[])&&decide ((t.kids.length:Int)=0))
 else if t.kind=2 then qeg t.name&&(decide (t.num=0)&&decide ((t.kids.length:Int)=0))
 else if t.kind=3 then decide (-999999999≤t.num∧t.num≤999999999)&&(decide (t.name=[])&&decide ((t.kids.length:Int)=0))
 else if t.kind=4 then qeg t.name&&(decide (t.num=0)&&decide (1≤(t.kids.length:Int)∧(t.kids.length:Int)≤5))
 else false
mutual
def qbo:Int→Tm→Bool
 |d,.mk k s n ks=>decide (d≤40)&&(qkO (.mk k s n ks)&&qfE (d+1) ks)
def qfE:Int→List Tm→Bool
 |_,[]=>true
 |d,t::ts=>qbo d t&&qfE d ts
end
def qIG(t:Tm):Bool:=decide (nT t≤400)&&qbo 1 t
mutual
def QL:Tm→Int→Int
 | .mk _ _ _ ks,r=>jV ks (r - 1)
def jV:List Tm→Int→Int
 |[],r=>r
 |t::ts,r=>if 0≤r then jV ts (QL t r)else r
end
mutual
theorem qhA: ∀ (t:Tm) (r:Int),0≤r→(nT t≤r→QL t r=r - nT t)∧(¬ (nT t:Int)≤r→QL t r < 0∧ -1≤QL t r)
 | .mk k s n ks,r,h=>by
   have:=qah ks (r - 1) (by omega)
   simp only [QL,nT]
   refine ⟨fun h1=> ?_,fun h1=> ?_⟩
   ·rw [this.1 (by omega)];omega
   ·exact this.2 (by omega)
theorem qah: ∀ (ts:List Tm) (r:Int),-1≤r→(nTs ts≤r→jV ts r=r - nTs ts)∧(¬ (nTs ts:Int)≤r→jV ts r < 0∧ -1≤jV ts r)
 |[],r,h=>by simp only [jV,nTs];omega
 |t::ts,r,h=>by
  simp only [jV,nTs]
  by_cases h0:0≤r
  ·rw [if_pos h0]
   have h1:=qhA t r h0
   have hp:=qef t
   by_cases h2:(nT t:Int)≤r
   ·rw [h1.1 h2]
    have h3:=qah ts (r - nT t) (by omega)
    refine ⟨fun h4=> ?_,fun h4=> ?_⟩
    ·rw [h3.1 (by omega)];omega
    ·exact h3.2 (by omega)
   ·have h3:=h1.2 h2
    have h4:=qah ts (QL t r) h3.2
    refine ⟨fun h5=>by omega,fun h5=> ?_⟩
    exact h4.2 (by omega)
  ·rw [if_neg h0]
   have:=qef t
   omega
end
end Go.Vm
set_option maxHeartbeats 4000000
namespace Go.Vm
def szI(d:Int) (t:Tm):Int:=if qbo d t=true∧nT t≤400 then nT t else 401
end Go.Vm
namespace Go.Vm
open Go.Lib (itoa decDigits)
def qAr(m:Nat):Str:=if m=0 then []else decDigits m
theorem qdR(n:Int) (h0: -9223372036854775808≤n) (h1:n≤9223372036854775807):cr ql ZJ [I n]=some (S (itoa n)):=by
 rw [qS qkY rfl]
 have h:=qhE qlq n h0 h1
 simp only [go_sem,qa,qb,qc,qd,qe,qf,reduceCtorEq,Qn,h]
end Go.Vm
namespace Go.Vm
open Go.Lib (itoa decDigits)
@[go_sem] theorem qDw {n:Nat} {a:Int}:qR false n (I a) 0=some (I a):=(rfl)
@[go_sem] theorem qDy {n:Nat} {x:Str}:qR false n (S x) 0=some (S x):=(rfl)
@[go_sem] theorem qDA {n:Nat} {a:Int}:qR false n (U8 a) 0=some (U8 a):=(rfl)
def qh6(n:Str):Nat→List Str→Int
 |_,[]=> -1
 |i,x::xs=>if n=x then (i:Int)else qh6 n (i+1) xs
def qhH:List Str:=[[116,114,117,101,47,48],[102,97,105,108,47,48],[33,47,48],[44,47,50],[59,47,50],[45,62,47,50],[92,43,47,49],[99,97,108,108,47,49],[99,97,108,108,47,50],[99,97,108,108,47,51],[99,97,116,99,104,47,51],[116,104,114,111,119,47,49],[61,47,50],[92,61,47,50],[61,61,47,50],[105,115,47,50],[60,47,50],[61,58,61,47,50],[118,97,114,47,49],[97,116,111,109,47,49],[119,114,105,116,101,47,49],[97,115,115,101,114,116,122,47,49],[114,101,116,114,97,99,116,47,49],[58,45,47,50],[58,45,47,49],[45,45,62,47,50]]
def qCX(p:Str):Bool:=decide (p ∈ qhH)
def qG4(t:Tm):Str:=if t.kind=2∨t.kind=4 then t.name++[47]++itoa t.kids.length else []
end Go.Vm
namespace Go.Vm
open Go.Lib (itoa decDigits indexByte)
def qm3:Str:=[43,45,42,47,92,94,60,62,61,126,58,46,63,64,35,38,36]
def qm2(c:UInt8):Bool:=decide (c ∈ qm3)
end Go.Vm
namespace Go.Vm
def inB(lo hi:Int) (c:UInt8):Bool:=decide (lo≤(c.toNat:Int))&&decide ((c.toNat:Int)≤hi)
def isB(n:Int) (c:UInt8):Bool:=decide ((c.toNat:Int)=n)
def qh1(c:UInt8):Bool:=inB 65 90 c||isB 95 c
def qJj(c:UInt8):Bool:=inB 97 122 c||qh1 c||inB 48 57 c
def qhi(c:UInt8):Bool:=isB 32 c||isB 9 c||isB 10 c
theorem qkd(c:UInt8):cr ql XW [U8 c.toNat]=some (B (inB 97 122 c)):=by
 rw [qS qlh rfl]
 unfold inB
 by_cases h1:(97:Int)≤(c.toNat:Int)
 ·rw [decide_eq_true h1,Bool.true_and]
  by_cases h2:(c.toNat:Int)≤122
  ·rw [decide_eq_true h2];simp only [go_sem,qa,qb,qc,qd,qe,qf,reduceCtorEq,jb,h1,h2]
  ·rw [decide_eq_false h2];simp only [go_sem,qa,qb,qc,qd,qe,qf,reduceCtorEq,jb,h1,h2]
 ·rw [decide_eq_false h1,Bool.false_and];simp only [go_sem,qa,qb,qc,qd,qe,qf,reduceCtorEq,jb,h1]
theorem qh9(c:UInt8):cr ql ZL [U8 c.toNat]=some (B (inB 97 122 c)):=by
 rw [qS qk2 rfl]
 unfold inB
 by_cases h1:(97:Int)≤(c.toNat:Int)
 ·rw [decide_eq_true h1,Bool.true_and]
  by_cases h2:(c.toNat:Int)≤122
  ·rw [decide_eq_true h2];simp only [go_sem,qa,qb,qc,qd,qe,qf,reduceCtorEq,k8,h1,h2]
  ·rw [decide_eq_false h2];simp only [go_sem,qa,qb,qc,qd,qe,qf,reduceCtorEq,k8,h1,h2]
 ·rw [decide_eq_false h1,Bool.false_and];simp only [go_sem,qa,qb,qc,qd,qe,qf,reduceCtorEq,k8,h1]
end Go.Vm
namespace Go.Vm
def pre(p:UInt8→Bool):Str→Nat
 |[]=>0
 |c::r=>if p c=true then pre p r+1 else 0
theorem qeT(p:UInt8→Bool): ∀ s,pre p s≤s.length
 |[]=>Nat.le_refl _
 |c::r=>by have:=qeT p r;simp only [pre,List.length_cons];split<;>omega
theorem ql7(p:UInt8→Bool) (g:Nat) (hg: ∀ c,cr ql g [U8 c.toNat]=some (B (p c))) (s:Str) (hl:s.length≤2^61) (m:Nat): ∀ i,i+m=s.length→
 lw ql ZO ⟨[(0,S s),(1,I i),(2,Fc g)],[]⟩=some (.exit 0,⟨[(1,I ((i+pre p (s.drop i):Nat):Int))],[]⟩):=by
 induction m with
 |zero=>
  intro i hi
  rw [List.drop_eq_nil_of_le (by omega),qA]
  have h: ¬ (i:Int) < s.length:=by omega
  simp only [go_sem,qa,qb,qc,qd,qe,qf,reduceCtorEq,ZX,h,pre]
 |succ m ih=>
  intro i hi
  have h:(i:Int) < s.length:=by omega
  obtain ⟨c,hc⟩:=kO (l:=s) (i:=i) (by omega)
  have ix:=Yn (l:=s) (i:=(i:Int)) (c:=c) (by omega) (by simpa using hc)
  have w:=hg c
  have e1:w64 ((i:Int)+1)=((i+1:Nat):Int):=by rw [zA]<;>omega
  rw [KO hc,qA,pre]
  cases hw:p c with
  |true=>
   rw [hw]at w
   have i1:=ih (i+1) (by omega)
   rw [if_pos rfl,show i+(pre p (s.drop (i+1))+1)=i+1+pre p (s.drop (i+1))by omega]
   simp only [go_sem,qa,qb,qc,qd,qe,qf,reduceCtorEq,ZX,h,ix,w,e1]
   exact i1
  |false=>
   rw [hw]at w
   rw [if_neg (by decide)]
   simp only [go_sem,qa,qb,qc,qd,qe,qf,reduceCtorEq,ZX,h,ix,w,e1]
theorem ql9(p:UInt8→Bool) (g:Nat) (hg: ∀ c,cr ql g [U8 c.toNat]=some (B (p c))) (s:Str) (hl:s.length≤2^61) (i:Nat) (hi:i≤s.length):cr ql JJ [S s,I i,Fc g]=some (I ((i+pre p (s.drop i):Nat):Int)):=by
 rw [qS qk4 rfl]
 have h:=ql7 p g hg s hl (s.length - i) i (by omega)
 simp only [go_sem,qa,qb,qc,qd,qe,qf,reduceCtorEq,Qo,h]
end Go.Vm
namespace Go.Vm
def qK:Str→Str→List Str
 |acc,[]=>if acc=[]then []else [acc]
 |acc,c::r=>if c=10 then acc::qK [] r else qK (acc++[c]) r
def zI:Str→Str→List Str
 |acc,[]=>[acc]
 |acc,c::r=>if c=10 then acc::zI [] r else zI (acc++[c]) r
theorem Yd: ∀ (s acc:Str),zI acc s ≠ []
 |[],acc=>by simp [zI]
 |c::r,acc=>by
  simp only [zI];split
  ·simp
  ·exact Yd r _
theorem KJ: ∀ (s acc:Str),qK acc s=if (zI acc s).getLast (Yd s acc)=[]then (zI acc s).dropLast else zI acc s
 |[],acc=>by
  simp only [qK,zI,List.getLast_singleton,List.dropLast_singleton]
 |c::r,acc=>by
  by_cases h:c=10
  ·have h1:zI acc (c::r)=acc::zI [] r:=by simp only [zI,if_pos h]
   have h2:qK acc (c::r)=acc::qK [] r:=by simp only [qK,if_pos h]
   have ih:=KJ r []
   have hn:=Yd r []
   rw [h2,ih]
   simp only [h1,List.getLast_cons hn]
   split
   ·rw [List.dropLast_cons_of_ne_nil hn]
   ·rfl
  ·have h1:zI acc (c::r)=zI (acc++[c]) r:=by simp only [zI,if_neg h]
   have h2:qK acc (c::r)=qK (acc++[c]) r:=by simp only [qK,if_neg h]
   have ih:=KJ r (acc++[c])
   rw [h2,ih]
   simp only [h1]
theorem qdU(c:UInt8) (r:Str): ∀ (acc:Str),c ∉ acc→Lib.indexByte (acc++c::r) c=(acc.length:Int)
 |[],_=>by simp [Lib.indexByte]
 |b::l,h=>by
  simp only [List.mem_cons,not_or]at h
  have ih:=qdU c r l h.2
  simp only [List.cons_append,Lib.indexByte,ih,beq_iff_eq,if_neg (Ne.symm h.1)]
  rw [if_neg (by omega)];simp
theorem qdV(c:UInt8): ∀ (acc:Str),c ∉ acc→Lib.indexByte acc c= -1
 |[],_=>rfl
 |b::l,h=>by
  simp only [List.mem_cons,not_or]at h
  have ih:=qdV c l h.2
  simp [Lib.indexByte,ih,Ne.symm h.1]
theorem qby: ∀ (s acc:Str),(10:UInt8) ∉ acc→Lib.splitK [10] 0 (Lib.count (acc++s) [10]) (acc++s)=zI acc s
 |[],acc,h=>by
  have:Lib.index (acc++[]) [10]= -1:=by rw [Lib.index_one,List.append_nil];exact qdV _ _ h
  rw [Lib.count_miss this]
  simp [Lib.splitK,zI]
 |c::r,acc,h=>by
  by_cases hc:c=10
  ·subst hc
   have hi:Lib.index (acc++10::r) [10]=(acc.length:Int):=by rw [Lib.index_one];exact qdU _ r acc h
   have ih:=qby r [] (by simp)
   simp only [List.nil_append]at ih
   have hd:(acc++10::r).drop (acc.length+1)=r:=by
    rw [← List.drop_drop,List.drop_left' rfl];rfl
   rw [Lib.count_hit (by simp) hi]
   simp only [List.length_cons,List.length_nil,Nat.zero_add,hd]
   rw [Nat.add_comm 1,Lib.splitK,if_neg (by rw [hi];simp),hi]
   simp only [Int.toNat_natCast,Nat.add_zero,List.length_cons,List.length_nil,Nat.zero_add,hd,ih,zI,if_true]
   rw [List.take_left' rfl]
  ·have ih:=qby r (acc++[c]) (by simp only [List.mem_append,List.mem_singleton,not_or];exact ⟨h,fun e=>hc e.symm⟩)
   simp only [List.append_assoc,List.singleton_append]at ih
   rw [ih];simp only [zI,if_neg hc]
theorem qmW(s:Str):Lib.split s [10]=zI [] s:=qby s [] (by simp)
def zy(c:UInt8) (l:Str):Bool:=l.all fun x=>decide (x=c)
theorem qaq(c:UInt8): ∀ l:Str,l.dropWhile (· ==c)=[]↔zy c l=true
 |[]=>by simp [zy]
 |b::l=>by
  have ih:=qaq c l
  simp only [zy]at ih ⊢
  by_cases h:b=c
  ·simp [List.dropWhile_cons,h,ih]
  ·simp [List.dropWhile_cons,h]
theorem J9(c:UInt8) (l:Str):zy c l.reverse=zy c l:=by simp [zy]
theorem qnf(c:UInt8) (l:Str):Lib.trimB l c=[]↔zy c l=true:=by
 unfold Lib.trimB Lib.trimLeftB Lib.trimRightB
 rw [qaq,J9]
 constructor
 ·intro h
  have: ∀ (r:Str),zy c (r.dropWhile (· ==c))=true→zy c r=true:=by
   intro r
   induction r with
   |nil=>exact id
   |cons b r ih=>
    by_cases hb:b=c
    ·subst hb;intro h;simp only [List.dropWhile_cons,beq_self_eq_true,if_true]at h;have:=ih h;simp only [zy]at this ⊢;simp [this]
    ·intro h;rw [List.dropWhile_cons,if_neg (by simpa using hb)]at h;exact h
  have:=this _ h
  rwa [J9]at this
 ·intro h
  have h':zy c l.reverse=true:=by rw [J9];exact h
  rw [(qaq c _).2 h'];rfl
def zo(p l:Str):Option Str:=if l.take p.length=p then some (l.drop p.length)else none
def xp:Str:=[102,105,108,101,32]
def kW:Str:=[99,111,110,115,117,108,116,32]
def kV:Str:=[97,115,107,32]
def qbJ:Str:=[101,110,100]
def zQ:List Str→Str→Option (Str × Nat)
 |[],_=>none
 |l::r,t=>if l=qbJ then some (t,0)else (zQ r (t++(l++[10]))).map fun x=>(x.1,x.2+1)
def zT(l:Str) (r:List Str):Option (Rq × Nat):=
 match zo xp l with
 |some nm=>(zQ r []).map fun x=>(⟨3,nm,x.1⟩,x.2+1)
 |none=>match zo kW l with
  |some nm=>some (⟨1,nm,[]⟩,0)
  |none=>match zo kV l with
   |some t=>some (⟨2,[],t⟩,0)
   |none=>none
def QV:UInt8→Bool:=inB 97 122
def kr(s:Str):Bool:=s.all QV&&decide (1≤(s.length:Int)∧(s.length:Int)≤8)
def okR(q:Rq):Bool:=
 if q.kind=1 then kr q.name&&decide (q.text=[])
 else if q.kind=2 then decide (q.name=[])&&decide ((q.text.length:Int)≤3000)
 else if q.kind=3 then kr q.name&&decide ((q.text.length:Int)≤3000)else false
def qh3(l:Str):Bool:=match l with|[]=>false|c::_=>decide (c=35)
def yZ(l:Str):Bool:=zy 32 l||qh3 l
def yd:Nat→List Str→Nat→List Rq→List Rq × Int
 |0,_,_,out=>(out,0)
 |f+1,[],i,out=>(out,0)
 |f+1,l::r,i,out=>if yZ l=true then yd f r (i+1) out else match zT l r with
  |none=>([],((i+1:Nat):Int))
  |some (q,n)=>if okR q=true∧out.length ≠ 20 then yd f (r.drop n) (i+1+n) (out++[q])else ([],((i+1:Nat):Int))
def yp(s:Str):List Rq × Int:=if 2500 < s.length then ([],-1)else yd (s.length+2) (qK [] s) 0 []
theorem j0: ∀ (s acc:Str),(qK acc s).length≤s.length+1
 |[],acc=>by simp only [qK];split<;>simp
 |c::r,acc=>by
  have h1:=j0 r []
  have h2:=j0 r (acc++[c])
  simp only [qK,List.length_cons]
  split
  ·simp only [List.length_cons];omega
  ·omega
def qO(L:List Str):Nat:=(L.map fun l=>l.length+1).sum
theorem KU: ∀ (s acc:Str),qO (qK acc s)≤s.length+acc.length+1
 |[],acc=>by simp only [qK];split<;>simp [qO]
 |c::r,acc=>by
  have h1:=KU r []
  have h2:=KU r (acc++[c])
  simp only [qK,List.length_cons]
  split
  ·simp only [qO,List.map_cons,List.sum_cons,List.length_nil]at*;omega
  ·simp only [List.length_append,List.length_cons,List.length_nil]at h2;omega
theorem KW {L:List Str} {l:Str} (h:l ∈ L):l.length+1≤qO L:=by
 induction L with
 |nil=>cases h
 |cons a L ih=>
  simp only [qO,List.map_cons,List.sum_cons]at*
  rcases List.mem_cons.1 h with rfl|h
  ·omega
  ·have:=ih h;omega
theorem qbG: ∀ (r:List Str) (t x:Str) (n:Nat),zQ r t=some (x,n)→x.length≤t.length+qO r∧n < r.length
 |[],t,x,n,h=>by simp [zQ]at h
 |l::r,t,x,n,h=>by
  simp only [zQ]at h
  split at h
  ·simp only [Option.some.injEq,Prod.mk.injEq]at h;obtain ⟨rfl,rfl⟩:=h;simp
  ·simp only [Option.map_eq_some_iff]at h
   obtain ⟨⟨y,m⟩,h1,h2⟩:=h
   simp only [Prod.mk.injEq]at h2;obtain ⟨rfl,rfl⟩:=h2
   have ih:=qbG r _ y m h1
   simp only [qO,List.map_cons,List.sum_cons,List.length_cons,List.length_append,List.length_nil]at*
   omega
end Go.Vm
namespace Go.Vm
open Go.Lib (indexByte)
def qlA(s:Str) (i:Nat):Bool:=match i with
 |0=>true
 |j+1=> !qm2 (s.getD j 0)
def qkG:Option UInt8→Bool
 |none=>true
 |some d=>qhi d||isB 37 d
def qBt(s:Str) (i:Nat) (c:UInt8):Bool:=isB 46 c&&(qlA s i&&qkG s[i+1]?)
end Go.Vm
namespace Go.Vm
end Go.Vm
namespace Go.Vm
theorem qeS(p:UInt8→Bool): ∀ s:Str,decide (((pre p s:Nat):Int)=(s.length:Int))=s.all p
 |[]=>by simp [pre]
 |c::r=>by
  have ih:=qeS p r
  have:=qeT p r
  by_cases h:p c=true
  ·rw [pre,if_pos h,List.all_cons,h,Bool.true_and,List.length_cons, ← ih,decide_eq_decide];omega
  ·rw [pre,if_neg h,List.all_cons,Bool.eq_false_iff.2 h,Bool.false_and,List.length_cons]
   exact decide_eq_false (by omega)
theorem qbB(s:Str) (n:Nat) (h:n≤s.length):Qj (S s) none (some (I (n:Nat)))=some (S (s.take n)):=by
 have:=qbz (l:=s) (lo:=none) (hi:=some (I (n:Nat))) (a:=0) (b:=(n:Nat)) rfl rfl (by omega) (by omega) (by omega)
 simpa using this
theorem qbA(s:Str) (n:Nat) (h:n≤s.length):Qj (S s) (some (I (n:Nat))) none=some (S (s.drop n)):=by
 have:=qbz (l:=s) (lo:=some (I (n:Nat))) (hi:=none) (a:=(n:Nat)) (b:=(s.length:Nat)) rfl rfl (by omega) (by omega) (by omega)
 simpa using this
theorem qh8(s:Str) (hl:s.length≤2^40):cr ql XU [S s]=some (B (kr s)):=by
 have w:=qnm s.length 1 8
 have r:=ql9 QV ZL qh9 s (by omega) 0 (Nat.zero_le _)
 have pa:=qeS QV s
 rw [List.drop_zero]at r
 simp only [Int.natCast_zero,Nat.zero_add]at r
 rw [qS qk1 rfl]
 unfold kr
 cases hd:decide (1≤(s.length:Int)∧(s.length:Int)≤8)with
 |true=>rw [hd]at w;simp only [go_sem,qa,qb,qc,qd,qe,qf,reduceCtorEq,jF,w,r,pa,Bool.and_true]
 |false=>rw [hd]at w;simp only [go_sem,qa,qb,qc,qd,qe,qf,reduceCtorEq,jF,w,r,pa,Bool.and_false]
theorem qkg(s:Str) (hl:s.length≤2^40) (m:Nat): ∀ i,i+m=s.length→
 lw ql ZS ⟨[(0,S s),(3,I i)],[]⟩=if (s.drop i).all QV=true then some (.exit 0,⟨[(0,S s)],[]⟩)else some (.ret,⟨[(2,B false)],[]⟩):=by
 induction m with
 |zero=>
  intro i hi
  rw [List.drop_eq_nil_of_le (by omega),qA]
  have h: ¬ (i:Int) < s.length:=by omega
  simp only [go_sem,qa,qb,qc,qd,qe,qf,reduceCtorEq,ZZ,h,List.all_nil,if_true]
 |succ m ih=>
  intro i hi
  have h:(i:Int) < s.length:=by omega
  obtain ⟨c,hc⟩:=kO (l:=s) (i:=i) (by omega)
  have ix:=Yn (l:=s) (i:=(i:Int)) (c:=c) (by omega) (by simpa using hc)
  have w:=qkd c
  have e1:w64 ((i:Int)+1)=((i+1:Nat):Int):=by rw [zA]<;>omega
  have i1:=ih (i+1) (by omega)
  rw [KO hc,qA,List.all_cons]
  have hlow:QV c=inB 97 122 c:=rfl
  rw [hlow]
  cases hw:inB 97 122 c with
  |true=>
   rw [hw]at w
   rw [Bool.true_and]
   simp only [go_sem,qa,qb,qc,qd,qe,qf,reduceCtorEq,ZZ,h,ix,w,e1]
   exact i1
  |false=>
   rw [hw]at w
   rw [Bool.false_and,if_neg (by decide)]
   simp only [go_sem,qa,qb,qc,qd,qe,qf,reduceCtorEq,ZZ,h,ix,w,e1]
theorem qmQ(s:Str) (hl:s.length≤2^40):cr ql XX [S s]=some (B (kr s)):=by
 have w:=qj9 s.length 1 8
 have lp:=qkg s hl s.length 0 (by omega)
 simp only [Int.natCast_zero,List.drop_zero]at lp
 rw [qS qlk rfl]
 unfold kr
 cases ha:s.all QV with
 |true=>rw [ha,if_pos rfl]at lp;simp only [go_sem,qa,qb,qc,qd,qe,qf,reduceCtorEq,jJ,w,lp,Bool.true_and]
 |false=>rw [ha,if_neg (by decide)]at lp;simp only [go_sem,qa,qb,qc,qd,qe,qf,reduceCtorEq,jJ,w,lp,Bool.false_and]
theorem qdS(q:Rq) (h1:q.name.length≤2^40) (h2:q.text.length≤2^40):cr ql JG [.a [I q.kind,S q.name,S q.text]]=some (B (okR q)):=by
 have n:=qh8 q.name h1
 rw [qS qk0 rfl]
 unfold okR
 by_cases k1:q.kind=1
 ·rw [if_pos k1]
  cases hn:kr q.name with
  |true=>rw [hn]at n;simp only [go_sem,qa,qb,qc,qd,qe,qf,reduceCtorEq,xx,k1,n,Bool.true_and]
  |false=>rw [hn]at n;simp only [go_sem,qa,qb,qc,qd,qe,qf,reduceCtorEq,xx,k1,n,Bool.false_and]
 rw [if_neg k1]
 by_cases k2:q.kind=2
 ·rw [if_pos k2]
  cases hn:decide (q.name=[])with
  |true=>simp only [go_sem,qa,qb,qc,qd,qe,qf,reduceCtorEq,xx,k2,hn,Int.reduceEq,Bool.true_and]
  |false=>simp only [go_sem,qa,qb,qc,qd,qe,qf,reduceCtorEq,xx,k2,hn,Int.reduceEq,Bool.false_and]
 rw [if_neg k2]
 by_cases k3:q.kind=3
 ·rw [if_pos k3]
  cases hn:kr q.name with
  |true=>rw [hn]at n;simp only [go_sem,qa,qb,qc,qd,qe,qf,reduceCtorEq,xx,k3,n,Int.reduceEq,Bool.true_and]
  |false=>rw [hn]at n;simp only [go_sem,qa,qb,qc,qd,qe,qf,reduceCtorEq,xx,k3,n,Int.reduceEq,Bool.false_and]
 rw [if_neg k3]
 simp only [go_sem,qa,qb,qc,qd,qe,qf,reduceCtorEq,xx,k1,k2,k3]
theorem qmP(q:Rq) (h1:q.name.length≤2^40) (h2:q.text.length≤2^40):cr ql JT [.a [I q.kind,S q.name,S q.text]]=some (B (okR q)):=by
 have n:=qmQ q.name h1
 rw [qS qlb rfl]
 unfold okR
 by_cases k1:q.kind=1
 ·rw [if_pos k1]
  cases hn:kr q.name with
  |true=>rw [hn]at n;simp only [go_sem,qa,qb,qc,qd,qe,qf,reduceCtorEq,xy,k1,n,Bool.true_and]
  |false=>rw [hn]at n;simp only [go_sem,qa,qb,qc,qd,qe,qf,reduceCtorEq,xy,k1,n,Bool.false_and]
 rw [if_neg k1]
 by_cases k2:q.kind=2
 ·rw [if_pos k2]
  cases hn:decide (q.name=[])with
  |true=>simp only [go_sem,qa,qb,qc,qd,qe,qf,reduceCtorEq,xy,k2,hn,Int.reduceEq,Bool.true_and]
  |false=>simp only [go_sem,qa,qb,qc,qd,qe,qf,reduceCtorEq,xy,k2,hn,Int.reduceEq,Bool.false_and]
 rw [if_neg k2]
 by_cases k3:q.kind=3
 ·rw [if_pos k3]
  cases hn:kr q.name with
  |true=>rw [hn]at n;simp only [go_sem,qa,qb,qc,qd,qe,qf,reduceCtorEq,xy,k3,n,Int.reduceEq,Bool.true_and]
  |false=>rw [hn]at n;simp only [go_sem,qa,qb,qc,qd,qe,qf,reduceCtorEq,xy,k3,n,Int.reduceEq,Bool.false_and]
 rw [if_neg k3]
 simp only [go_sem,qa,qb,qc,qd,qe,qf,reduceCtorEq,xy,k1,k2,k3]
theorem qh2(s p:Str):cr ql JL [S s,S p]=some (B (decide (s.take p.length=p))):=by
 rw [qS qk7 rfl]
 by_cases h:(p.length:Int)≤s.length
 ·have hx:p.length≤s.length:=by omega
  have sl:=qbB s p.length hx
  simp only [go_sem,qa,qb,qc,qd,qe,qf,reduceCtorEq,jH,h,hx,sl]
 ·have hn:decide (s.take p.length=p)=false:=decide_eq_false fun e=>by have:=congrArg List.length e;simp only [List.length_take]at this;omega
  simp only [go_sem,qa,qb,qc,qd,qe,qf,reduceCtorEq,jH,h,hn]
theorem qan(s p:Str):cr ql ZN [S s,S p]=some (.t [S ((zo p s).getD s),B (zo p s).isSome]):=by
 have hp:=qh2 s p
 have c1:cr ql JK [S s,S p]=some (.t [S ((zo p s).getD s),B (zo p s).isSome]):=by
  rw [qS qk6 rfl]
  unfold zo
  by_cases h:s.take p.length=p
  ·have hl:p.length≤s.length:=by have:=congrArg List.length h;simp only [List.length_take]at this;omega
   rw [decide_eq_true h]at hp
   have sl:=qbA s p.length hl
   rw [if_pos h]
   simp only [go_sem,qa,qb,qc,qd,qe,qf,reduceCtorEq,jG,hp,hl,sl,Option.getD_some,Option.isSome_some]
  ·rw [decide_eq_false h]at hp
   rw [if_neg h]
   simp only [go_sem,qa,qb,qc,qd,qe,qf,reduceCtorEq,jG,hp,Option.getD_none,Option.isSome_none]
 rw [qS qlr rfl]
 simp only [go_sem,qa,qb,qc,qd,qe,qf,reduceCtorEq,QA,c1]
end Go.Vm
namespace Go.Vm
theorem qg9(m:Nat): ∀ (i:Nat) (s:Str),i+m=21→s.length≤20000+10*i→ ∃ (s':Str) (T:Mem),lw ql ZV ⟨[(7,S s),(9,I i)],[]⟩=some (.exit 4,⟨[(7,S s')],[]⟩)∧s'.length≤20210:=by
 induction m with
 |zero=>
  intro i s hi hs
  have h: ¬ (i:Int) < 21:=by omega
  refine ⟨s,[], ?_,by omega⟩
  rw [qA]
  simp only [go_sem,qa,qb,qc,qd,qe,qf,reduceCtorEq,Kw,h]
 |succ m ih=>
  intro i s hi hs
  have h:(i:Int) < 21:=by omega
  have e1:w64 ((i:Int)+1)=((i+1:Nat):Int):=by rw [zA]<;>omega
  have a0:=qv (x:=s) (y:=[97,115,107,32,116,114,117,101,46,10]) (by simp only [List.length_cons,List.length_nil];omega)
  obtain ⟨s',T,i1,i2⟩:=ih (i+1) (s++[97,115,107,32,116,114,117,101,46,10]) (by omega) (by simp only [List.length_append,List.length_cons,List.length_nil];omega)
  refine ⟨s',T, ?_,i2⟩
  rw [← i1,qA]
  simp only [go_sem,qa,qb,qc,qd,qe,qf,reduceCtorEq,Kw,h,e1,a0]
theorem qkq(bs:List UInt8) (hl:bs.length≤2^40): ∃ s:Str,cr ql J2 [.i false (bs.map qM)]=some (S s)∧s.length≤30000:=by
 obtain ⟨ch,nw⟩:=qd4 bs hl
 obtain ⟨c1,d1,k,b1,q1,q2,q3⟩:=jZ bs hl 0 ch (Nat.zero_le _) 30 (by decide) (by decide)
 obtain ⟨c2,d2,y,b2,q4,q5,q6⟩:=jZ bs hl c1 d1 q1 60 (by decide) (by decide)
 obtain ⟨o,rq,o1,o2,o3⟩:=qkk bs hl
 obtain ⟨s,lp,s1,s2⟩:=qkp o o2 o3 k y q5 q6 o.length 0 [] (by omega) (by simp) (by simp)
 have tko:(o.map oRq).take o.length=o.map oRq:=List.take_of_length_le (by simp)
 have r8:=QF (a:=y) (b:=8) (by decide)
 have r2:=QF (a:=y) (b:=2) (by decide)
 obtain ⟨j8,t8,u8⟩:=JC y 8 q5 (by decide)
 obtain ⟨j2,t2,u2⟩:=JC y 2 q5 (by decide)
 rw [show y.tmod 8=(j8:Int)from t8]at r8
 rw [show y.tmod 2=(j2:Int)from t2]at r2
 obtain ⟨w8,g8,l8⟩:=qa3 [[],[35],[97,115,107,32,112,40,88,41,46],[101,110,100,10],[102,105,108,101,32,111,110,101,10,112,40,97,41,46,10],[119,104,97,116,10],[99,111,110,115,117,108,116,32,110,111,110,101,10],[102,105,108,101,32,111,110,101,10,101,110,100,10,99,111,110,115,117,108,116,32,111,110,101,10,97,115,107,32,116,114,117,101,46]] j8 u8 100 (by decide)
 simp only [List.map_cons,List.map_nil]at g8
 have ix8:=jr (k:=(93,0)) (e:=1) (xs:=[S [],S [35],S [97,115,107,32,112,40,88,41,46],S [101,110,100,10],S [102,105,108,101,32,111,110,101,10,112,40,97,41,46,10],S [119,104,97,116,10],S [99,111,110,115,117,108,116,32,110,111,110,101,10],S [102,105,108,101,32,111,110,101,10,101,110,100,10,99,111,110,115,117,108,116,32,111,110,101,10,97,115,107,32,116,114,117,101,46]]) (i:=j8) (len:=8) u8 (by decide)
 unfold CU at nw b1 b2
 simp only [Int.natCast_zero]at nw b1 lp
 by_cases k0':k=0
 ·have k0:decide (k=0)=true:=decide_eq_true k0'
  refine ⟨w8, ?_,by omega⟩
  rw [qS QX rfl]
  simp only [go_sem,qa,qb,qc,qd,qe,qf,reduceCtorEq,xR,nw,b1,b2,rq,lp,tko,k0,r8,ix8,g8,List.length_map]
 have k0:decide (k=0)=false:=decide_eq_false k0'
 by_cases k1':k=1
 ·have k1:decide (k=1)=true:=decide_eq_true k1'
  by_cases hs:(s.length:Int) < 2500
  ·have e1:w64 (2500 - (s.length:Int))=2500 - (s.length:Int):=by rw [zA]<;>omega
   have e2:w64 (2500 - (s.length:Int) - 1)=2500 - (s.length:Int) - 1:=by rw [zA]<;>omega
   have e3:w64 (2500 - (s.length:Int) - 1+(j2:Int))=((2499 - s.length+j2:Nat):Int):=by rw [zA]<;>omega
   have lg:=qkb (2499 - s.length+j2) (by omega)
   have a0:=qv (x:=s) (y:=[35]) (by simp only [List.length_cons,List.length_nil];omega)
   have a1:=qv (x:=s++[35]) (y:=List.replicate (2499 - s.length+j2) 32) (by simp only [List.length_append,List.length_cons,List.length_nil,List.length_replicate];omega)
   refine ⟨s++[35]++List.replicate (2499 - s.length+j2) 32, ?_,by simp only [List.length_append,List.length_cons,List.length_nil,List.length_replicate];omega⟩
   rw [qS QX rfl]
   simp only [go_sem,qa,qb,qc,qd,qe,qf,reduceCtorEq,xR,nw,b1,b2,rq,lp,tko,k0,k1,hs,r2,e1,e2,e3,lg,a0,a1,Int.reduceEq,List.length_map]
  ·refine ⟨s, ?_,by omega⟩
   rw [qS QX rfl]
   simp only [go_sem,qa,qb,qc,qd,qe,qf,reduceCtorEq,xR,nw,b1,b2,rq,lp,tko,k0,k1,hs,Int.reduceEq,List.length_map]
 have k1:decide (k=1)=false:=decide_eq_false k1'
 by_cases k2':k=2
 ·have k2:decide (k=2)=true:=decide_eq_true k2'
  have e1:w64 ((s.length:Int) - 1)=((s.length - 1:Nat):Int):=by rw [zA]<;>omega
  have sl:=qbB s (s.length - 1) (by omega)
  refine ⟨s.take (s.length - 1), ?_,by simp only [List.length_take];omega⟩
  rw [qS QX rfl]
  simp only [go_sem,qa,qb,qc,qd,qe,qf,reduceCtorEq,xR,nw,b1,b2,rq,lp,tko,k0,k1,k2,e1,sl,Int.reduceEq,List.length_map]
 have k2:decide (k=2)=false:=decide_eq_false k2'
 by_cases k3':k=3
 ·have k3:decide (k=3)=true:=decide_eq_true k3'
  obtain ⟨s',T,al,az⟩:=qg9 21 0 s (by omega) (by omega)
  simp only [Int.natCast_zero]at al
  refine ⟨s', ?_,by omega⟩
  rw [qS QX rfl]
  simp only [go_sem,qa,qb,qc,qd,qe,qf,reduceCtorEq,xR,nw,b1,b2,rq,lp,tko,k0,k1,k2,k3,al,Int.reduceEq,List.length_map]
 ·have k3:decide (k=3)=false:=decide_eq_false k3'
  refine ⟨s, ?_,by omega⟩
  rw [qS QX rfl]
  simp only [go_sem,qa,qb,qc,qd,qe,qf,reduceCtorEq,xR,nw,b1,b2,rq,lp,tko,k0,k1,k2,k3,Int.reduceEq,List.length_map]
theorem qgi(bs:List UInt8) (hl:bs.length≤2^40): ∃ s:Str,cr ql JR [.i false (bs.map qM)]=some (S s)∧s.length≤30000:=by
 obtain ⟨s,h,hs⟩:=qkq bs hl
 refine ⟨s, ?_,hs⟩
 rw [qS qk9 rfl]
 simp only [go_sem,qa,qb,qc,qd,qe,qf,reduceCtorEq,Qr,h]
end Go.Vm
namespace Go.Vm
theorem qg4(c x:UInt8) (l:Str):zy c (x::l)=(decide (x=c)&&zy c l):=rfl
theorem qkl(s:Str) (hl:s.length≤2^40) (m:Nat): ∀ i,i+m=s.length→
 lw ql ZT ⟨[(0,S s),(3,I i)],[]⟩=if zy 32 (s.drop i)=true then some (.exit 0,⟨[],[]⟩)else some (.ret,⟨[(2,B false)],[]⟩):=by
 induction m with
 |zero=>
  intro i hi
  rw [List.drop_eq_nil_of_le (by omega),qA]
  have h: ¬ (i:Int) < s.length:=by omega
  simp only [go_sem,qa,qb,qc,qd,qe,qf,reduceCtorEq,Z1,h,zy,List.all_nil,if_true]
 |succ m ih=>
  intro i hi
  have h:(i:Int) < s.length:=by omega
  obtain ⟨c,hc⟩:=kO (l:=s) (i:=i) (by omega)
  have ix:=Yn (l:=s) (i:=(i:Int)) (c:=c) (by omega) (by simpa using hc)
  have e1:w64 ((i:Int)+1)=((i+1:Nat):Int):=by rw [zA]<;>omega
  have i1:=ih (i+1) (by omega)
  rw [KO hc,qA,qg4]
  by_cases hw:c=32
  ·have hd:decide (((c.toNat:Nat):Int)=32)=true:=by subst hw;rfl
   have hn:((c.toNat:Nat):Int)=32:=of_decide_eq_true hd
   rw [decide_eq_true hw,Bool.true_and]
   simp only [go_sem,qa,qb,qc,qd,qe,qf,reduceCtorEq,Z1,h,ix,hn,e1]
   exact i1
  ·have hn: ¬ ((c.toNat:Nat):Int)=32:=fun e=>hw (UInt8.toNat_inj.1 (by have:c.toNat=32:=by omega
                                                                       rw [this];rfl))
   rw [decide_eq_false hw,Bool.false_and,if_neg (by decide)]
   simp only [go_sem,qa,qb,qc,qd,qe,qf,reduceCtorEq,Z1,h,ix,hn,e1]
theorem qkm(s:Str) (hl:s.length≤2^40):cr ql JZ [S s]=some (B (zy 32 s)):=by
 have lp:=qkl s hl s.length 0 (by omega)
 simp only [Int.natCast_zero,List.drop_zero]at lp
 rw [qS qln rfl]
 cases ha:zy 32 s with
 |true=>rw [ha,if_pos rfl]at lp;simp only [go_sem,qa,qb,qc,qd,qe,qf,reduceCtorEq,jL,lp]
 |false=>rw [ha,if_neg (by decide)]at lp;simp only [go_sem,qa,qb,qc,qd,qe,qf,reduceCtorEq,jL,lp]
theorem QU(s w:Str) (hs:s.length≤2^40) (hw:w.length≤2^40):cr ql ZM [S s,S w]=some (.t [S ((zo (w++[32]) s).getD []),B (zo (w++[32]) s).isSome]):=by
 rw [qS qlm rfl]
 have e1:w64 ((w.length:Int)+1)=((w.length+1:Nat):Int):=by rw [zA]<;>omega
 have hl:(w++[32]).length=w.length+1:=by simp
 unfold zo
 rw [hl]
 by_cases h:(s.length:Int) < ((w.length+1:Nat):Int)
 ·have hn: ¬ s.take (w.length+1)=w++[32]:=fun e=>by have:=congrArg List.length e;simp only [List.length_take,hl]at this;omega
  rw [if_neg hn]
  simp only [go_sem,qa,qb,qc,qd,qe,qf,reduceCtorEq,jd,e1,h,Option.getD_none,Option.isSome_none]
 ·have hx:w.length+1≤s.length:=by omega
  have sl:=qbB s (w.length+1) hx
  have sf:=qbA s (w.length+1) hx
  have ba:=qv (x:=w) (y:=[32]) (by simp only [List.length_cons,List.length_nil];omega)
  by_cases hp:s.take (w.length+1)=w++[32]
  ·have hd:decide (s.take (w.length+1)=w++[32])=true:=decide_eq_true hp
   rw [if_pos hp]
   simp only [go_sem,qa,qb,qc,qd,qe,qf,reduceCtorEq,jd,e1,h,sl,sf,ba,hd,Option.getD_some,Option.isSome_some]
  ·have hd:decide (s.take (w.length+1)=w++[32])=false:=decide_eq_false hp
   rw [if_neg hp]
   simp only [go_sem,qa,qb,qc,qd,qe,qf,reduceCtorEq,jd,e1,h,sl,sf,ba,hd,Option.getD_none,Option.isSome_none]
def jz(l:Str):Option Rq:=
 match zo kW l with
 |some nm=>some ⟨1,nm,[]⟩
 |none=>match zo kV l with
  |some t=>some ⟨2,[],t⟩
  |none=>none
theorem ql1(l:Str):cr ql JI [S l]=some (.t [.a [I ((jz l).getD ⟨0,[],[]⟩).kind,S ((jz l).getD ⟨0,[],[]⟩).name,S ((jz l).getD ⟨0,[],[]⟩).text],B (jz l).isSome]):=by
 have c1:=qan l kW
 have c2:=qan l kV
 unfold jz
 rw [show kW=[99,111,110,115,117,108,116,32]from rfl]at c1 ⊢
 rw [show kV=[97,115,107,32]from rfl]at c2 ⊢
 rw [qS qk3 rfl]
 cases h1:zo [99,111,110,115,117,108,116,32] l with
 |some nm=>
  simp only [h1,Option.getD_some,Option.isSome_some]at c1
  simp only [go_sem,qa,qb,qc,qd,qe,qf,reduceCtorEq,k9,c1,Option.getD_some,Option.isSome_some]
 |none=>
  simp only [h1,Option.getD_none,Option.isSome_none]at c1
  cases h2:zo [97,115,107,32] l with
  |some t=>
   simp only [h2,Option.getD_some,Option.isSome_some]at c2
   simp only [go_sem,qa,qb,qc,qd,qe,qf,reduceCtorEq,k9,c1,c2,Option.getD_some,Option.isSome_some]
  |none=>
   simp only [h2,Option.getD_none,Option.isSome_none]at c2
   simp only [go_sem,qa,qb,qc,qd,qe,qf,reduceCtorEq,k9,c1,c2,Option.getD_none,Option.isSome_none]
theorem qd6(τ:Bool) (Ls:List Str) (hL:Ls.length≤2^40): ∀ (r:List Str) (i:Nat) (t:Str),Ls.drop i=r→i+r.length=Ls.length→t.length+qO r≤2^40→
 (∀ x n,zQ r t=some (x,n)→lw ql jj ⟨[(0,.i τ (Ls.map S)),(6,S t),(7,I i)],[]⟩=some (.ret,⟨[(4,S x),(5,I ((i+n+1:Nat):Int))],[]⟩))∧
 (zQ r t=none→lw ql jj ⟨[(0,.i τ (Ls.map S)),(6,S t),(7,I i)],[]⟩=some (.exit 0,⟨[],[]⟩))
 |[],i,t,h,hi,ht=>by
  have h1: ¬ (i:Int) < (Ls.length:Int):=by simp only [List.length_nil]at hi;omega
  refine ⟨fun x n h=>by simp [zQ]at h,fun _=> ?_⟩
  rw [qA]
  simp only [go_sem,qa,qb,qc,qd,qe,qf,reduceCtorEq,Z2,h1,List.length_map]
 |y::r,i,t,h,hi,ht=>by
  simp only [List.length_cons]at hi
  simp only [qO,List.map_cons,List.sum_cons]at ht
  have b1:=qv (x:=t) (y:=y) (by omega)
  have b2:=qv (x:=t++y) (y:=[10]) (by simp only [List.length_append,List.length_cons,List.length_nil];omega)
  have hx:Ls[i]? =some y:=by
   have:=congrArg (fun z=>z[0]?) h
   simpa using this
  have hd:Ls.drop (i+1)=r:=by
   have:=congrArg (fun z=>z.drop 1) h
   simpa [List.drop_drop,Nat.add_comm]using this
  have h1:(i:Int) < (Ls.length:Int):=by omega
  have e1:w64 ((i:Int)+1)=((i+1:Nat):Int):=by rw [zA]<;>omega
  have g1:=xF (f:=S) hx
  have a1:=fun T=>kI (τ:=τ) (T:=T) (e:=1) g1 rfl
  obtain ⟨i1,i2⟩:=qd6 τ Ls hL r (i+1) (t++(y++[10])) hd (by omega) (by simp only [List.length_append,List.length_cons,List.length_nil,qO];omega)
  simp only [zQ]
  by_cases hy:y=qbJ
  ·have hyd:decide (y=[101,110,100])=true:=decide_eq_true hy
   rw [if_pos hy]
   refine ⟨fun x n h=> ?_,fun h=>by cases h⟩
   simp only [Option.some.injEq,Prod.mk.injEq]at h
   obtain ⟨rfl,rfl⟩:=h
   rw [qA]
   simp only [go_sem,qa,qb,qc,qd,qe,qf,reduceCtorEq,Z2,h1,e1,g1,a1,hyd,List.length_map]
  ·have hyd:decide (y=[101,110,100])=false:=decide_eq_false hy
   rw [if_neg hy]
   have stp:lw ql jj ⟨[(0,.i τ (Ls.map S)),(6,S t),(7,I i)],[]⟩=lw ql jj ⟨[(0,.i τ (Ls.map S)),(6,S (t++(y++[10]))),(7,I ((i+1:Nat):Int))],[]⟩:=by
    rw [qA]
    simp only [go_sem,qa,qb,qc,qd,qe,qf,reduceCtorEq,Z2,h1,e1,g1,a1,hyd,b1,b2,List.length_map,List.append_assoc]
   rw [stp]
   refine ⟨fun x n h=> ?_,fun h=> ?_⟩
   ·simp only [Option.map_eq_some_iff]at h
    obtain ⟨⟨x',n'⟩,h1,h2⟩:=h
    simp only [Prod.mk.injEq]at h2
    obtain ⟨rfl,rfl⟩:=h2
    rw [i1 _ _ h1,show i+1+n'+1=i+(n'+1)+1 by omega]
   ·exact i2 (by simpa using h)
theorem qd7(τ:Bool) (Ls:List Str) (hL:Ls.length≤2^40) (i:Nat) (hi:i≤Ls.length) (ht:qO (Ls.drop i)≤2^40):cr ql J0 [.i τ (Ls.map S),I i]=some (match zQ (Ls.drop i) []with|some (x,n)=> .t [S x,I ((i+n+1:Nat):Int)]|none=> .t [S [],I (-1)]):=by
 obtain ⟨l1,l2⟩:=qd6 τ Ls hL (Ls.drop i) i [] rfl (by rw [List.length_drop];omega) (by simpa using ht)
 rw [qS qlo rfl]
 cases h:zQ (Ls.drop i) []with
 |none=>have l2:=l2 h;simp only [go_sem,qa,qb,qc,qd,qe,qf,reduceCtorEq,jM,l2]
 |some q=>obtain ⟨x,n⟩:=q;have l1:=l1 x n h;simp only [go_sem,qa,qb,qc,qd,qe,qf,reduceCtorEq,jM,l1]
end Go.Vm
namespace Go.Vm
theorem qmX(s:Str) (a b:Nat) (h1:a≤b) (h:b≤s.length):Qj (S s) (some (I (a:Nat))) (some (I (b:Nat)))=some (S ((s.take b).drop a)):=by
 have:=qbz (l:=s) (lo:=some (I (a:Nat))) (hi:=some (I (b:Nat))) (a:=(a:Nat)) (b:=(b:Nat)) rfl rfl (by omega) (by omega) (by omega)
 simpa using this
theorem qnb(s:Str) (b i:Nat) (c:UInt8) (hc:s[i]? =some c) (hb:b≤i):(s.take (i+1)).drop b=(s.take i).drop b++[c]:=by
 have hi:=(List.getElem?_eq_some_iff.1 hc).1
 rw [List.take_add_one,hc,Option.toList_some,List.drop_append_of_le_length (by simp;omega)]
theorem qkn(s:Str) (hl:s.length≤2^30) (m:Nat): ∀ (i b:Nat) (out:List Str),i+m=s.length→b≤i→out.length≤i→
 ∃ (out':List Str) (b':Nat),lw ql ZU ⟨[(0,S s),(3,.s (100000,0) 0 (out).length),(4,I b),(5,I i)],[((100000,0),1,(out).map S)]⟩=some (.exit 0,⟨[(0,S s),(3,.s (100000,0) 0 (out').length),(4,I b')],[((100000,0),1,(out').map S)]⟩)∧b'≤s.length∧out'.length≤s.length∧
  out'++(if s.drop b'=[]then []else [s.drop b'])=out++qK ((s.take i).drop b) (s.drop i):=by
 induction m with
 |zero=>
  intro i b out hi hb ho
  have h: ¬ (i:Int) < s.length:=by omega
  refine ⟨out,b, ?_,by omega,by omega, ?_⟩
  ·rw [qA]
   simp only [go_sem,qa,qb,qc,qd,qe,qf,reduceCtorEq,Z3,h]
  ·rw [List.drop_eq_nil_of_le (show s.length≤i by omega),List.take_of_length_le (show s.length≤i by omega)]
   simp only [qK]
 |succ m ih=>
  intro i b out hi hb ho
  have h:(i:Int) < s.length:=by omega
  obtain ⟨c,hc⟩:=kO (l:=s) (i:=i) (by omega)
  have ix:=Yn (l:=s) (i:=(i:Int)) (c:=c) (by omega) (by simpa using hc)
  have e1:w64 ((i:Int)+1)=((i+1:Nat):Int):=by rw [zA]<;>omega
  have tk:=qnb s b i c hc hb
  have l1:decide ((out.length+1)*16≤lim)=true:=decide_eq_true (by rw [xG];omega)
  have l2:decide (out.length+1≤lim)=true:=decide_eq_true (by rw [xG];omega)
  have sl:=qmX s b i hb (by omega)
  rw [KO hc]
  by_cases hw:c=10
  ·have hn:((c.toNat:Nat):Int)=10:=by subst hw;rfl
   obtain ⟨out',b',i1,i2,i3,i4⟩:=ih (i+1) (i+1) (out++[(s.take i).drop b]) (by omega) (Nat.le_refl _) (by simp;omega)
   refine ⟨out',b', ?_,i2,i3, ?_⟩
   ·rw [← i1,qA]
    simp only [go_sem,qa,qb,qc,qd,qe,qf,reduceCtorEq,Z3,h,ix,hn,e1,sl,l1,l2,List.length_map,List.length_append,List.length_cons,List.length_nil]
   ·rw [i4]
    simp only [qK,if_pos hw]
    have:(s.take (i+1)).drop (i+1)=[]:=List.drop_eq_nil_of_le (by simp;omega)
    rw [this,List.append_assoc];rfl
  ·have hn: ¬ ((c.toNat:Nat):Int)=10:=fun e=>hw (UInt8.toNat_inj.1 (by have:c.toNat=10:=by omega
                                                                       rw [this];rfl))
   obtain ⟨out',b',i1,i2,i3,i4⟩:=ih (i+1) b out (by omega) (by omega) (by omega)
   refine ⟨out',b', ?_,i2,i3, ?_⟩
   ·rw [← i1,qA]
    simp only [go_sem,qa,qb,qc,qd,qe,qf,reduceCtorEq,Z3,h,ix,hn,e1]
   ·rw [i4]
    simp only [qK,if_neg hw,tk]
theorem qko(s:Str) (hl:s.length≤2^30):cr ql J1 [S s]=some (.o 1 ((qK [] s).map S)):=by
 obtain ⟨out,b,lp,hb,ho,he⟩:=qkn s hl s.length 0 0 [] (by omega) (Nat.le_refl _) (by simp)
 simp only [Int.natCast_zero,List.map_nil,List.length_nil,List.take_zero,List.drop_zero,List.nil_append]at lp he
 rw [← he]
 have l1:decide ((out.length+1)*16≤lim)=true:=decide_eq_true (by rw [xG];omega)
 have l2:decide (out.length+1≤lim)=true:=decide_eq_true (by rw [xG];omega)
 have sf:=qbA s b hb
 rw [qS qlp rfl]
 have tk:(out.map S).take out.length=out.map S:=List.take_of_length_le (by simp)
 by_cases hd:s.drop b=[]
 ·have h: ¬ (b:Int) < s.length:=by have:=congrArg List.length hd;simp only [List.length_drop,List.length_nil]at this;omega
  rw [if_pos hd,List.append_nil]
  simp only [go_sem,qa,qb,qc,qd,qe,qf,reduceCtorEq,jN,lp,h,tk]
 ·have h:(b:Int) < s.length:=by
   have: ¬ s.length≤b:=fun e=>hd (List.drop_eq_nil_of_le e)
   omega
  rw [if_neg hd]
  simp only [go_sem,qa,qb,qc,qd,qe,qf,reduceCtorEq,jN,lp,h,sf,l1,l2,tk,List.length_map,List.length_append,List.length_cons,List.length_nil]
end Go.Vm
namespace Go.Vm
def rqV(q:Rq):V:= .a [I q.kind,S q.name,S q.text]
theorem qkT(τ:Bool) (Ls:List Str) (hL:Ls.length≤2^30) (hT:qO Ls≤2^40) (i:Nat) (l:Str) (hx:Ls[i]? =some l) (q:Rq) (n:Nat) (h:zT l (Ls.drop (i+1))=some (q,n)):
 cr ql X0 [.i τ (Ls.map S),I i]=some (.t [.a [I q.kind,S q.name,S q.text],I ((i+1+n:Nat):Int),B true]):=by
 have hi:=(List.getElem?_eq_some_iff.1 hx).1
 have hlt:l.length≤2^40:=by have:=KW (List.mem_of_getElem? hx);omega
 have g1:=xF (f:=S) hx
 have a1:=fun T=>kI (τ:=τ) (T:=T) (e:=1) g1 rfl
 have e1:w64 ((i:Int)+1)=((i+1:Nat):Int):=by rw [zA]<;>omega
 have b1:=QU l [102,105,108,101] hlt (by decide)
 have b2:=QU l [99,111,110,115,117,108,116] hlt (by decide)
 have b3:=QU l [97,115,107] hlt (by decide)
 have hd:qO (Ls.drop (i+1))≤2^40:=by
  have:qO Ls=qO (Ls.take (i+1))+qO (Ls.drop (i+1)):=by
   simp only [qO];rw [← List.sum_append, ← List.map_append,List.take_append_drop]
  omega
 have fl:=fun t=>qd7 t Ls (by omega) (i+1) (by omega) hd
 rw [show ([102,105,108,101]:Str)++[32]=xp from rfl]at b1
 rw [show ([99,111,110,115,117,108,116]:Str)++[32]=kW from rfl]at b2
 rw [show ([97,115,107]:Str)++[32]=kV from rfl]at b3
 rw [qS qeM rfl]
 unfold zT at h
 cases h1:zo xp l with
 |some nm=>
  simp only [h1,Option.getD_some,Option.isSome_some]at b1 h
  simp only [Option.map_eq_some_iff]at h
  obtain ⟨⟨x,k⟩,h2,h3⟩:=h
  simp only [Prod.mk.injEq]at h3
  obtain ⟨rfl,rfl⟩:=h3
  simp only [h2]at fl
  have hn:(0:Int)≤((i+1+k+1:Nat):Int):=by omega
  rw [show i+1+(k+1)=i+1+k+1 by omega]
  simp only [go_sem,qa,qb,qc,qd,qe,qf,reduceCtorEq,x7,g1,a1,b1,e1,fl,hn]
 |none=>
  simp only [h1,Option.getD_none,Option.isSome_none]at b1 h
  cases h2:zo kW l with
  |some nm=>
   simp only [h2,Option.getD_some,Option.isSome_some,Option.some.injEq,Prod.mk.injEq]at b2 h
   obtain ⟨rfl,rfl⟩:=h
   simp only [go_sem,qa,qb,qc,qd,qe,qf,reduceCtorEq,x7,g1,a1,b1,b2,e1]
  |none=>
   simp only [h2,Option.getD_none,Option.isSome_none]at b2 h
   cases h3:zo kV l with
   |some t=>
    simp only [h3,Option.getD_some,Option.isSome_some,Option.some.injEq,Prod.mk.injEq]at b3 h
    obtain ⟨rfl,rfl⟩:=h
    simp only [go_sem,qa,qb,qc,qd,qe,qf,reduceCtorEq,x7,g1,a1,b1,b2,b3,e1]
   |none=>rw [h3]at h;cases h
theorem qkR(τ:Bool) (Ls:List Str) (hL:Ls.length≤2^30) (hT:qO Ls≤2^40) (i:Nat) (l:Str) (hx:Ls[i]? =some l) (h:zT l (Ls.drop (i+1))=none):
 ∃ (q:Rq) (nx:Int),cr ql X0 [.i τ (Ls.map S),I i]=some (.t [.a [I q.kind,S q.name,S q.text],I nx,B false]):=by
 have hi:=(List.getElem?_eq_some_iff.1 hx).1
 have hlt:l.length≤2^40:=by have:=KW (List.mem_of_getElem? hx);omega
 have g1:=xF (f:=S) hx
 have a1:=fun T=>kI (τ:=τ) (T:=T) (e:=1) g1 rfl
 have e1:w64 ((i:Int)+1)=((i+1:Nat):Int):=by rw [zA]<;>omega
 have b1:=QU l [102,105,108,101] hlt (by decide)
 have b2:=QU l [99,111,110,115,117,108,116] hlt (by decide)
 have b3:=QU l [97,115,107] hlt (by decide)
 have hd:qO (Ls.drop (i+1))≤2^40:=by
  have:qO Ls=qO (Ls.take (i+1))+qO (Ls.drop (i+1)):=by
   simp only [qO];rw [← List.sum_append, ← List.map_append,List.take_append_drop]
  omega
 have fl:=fun t=>qd7 t Ls (by omega) (i+1) (by omega) hd
 rw [show ([102,105,108,101]:Str)++[32]=xp from rfl]at b1
 rw [show ([99,111,110,115,117,108,116]:Str)++[32]=kW from rfl]at b2
 rw [show ([97,115,107]:Str)++[32]=kV from rfl]at b3
 rw [qS qeM rfl]
 unfold zT at h
 cases h1:zo xp l with
 |some nm=>
  simp only [h1,Option.getD_some,Option.isSome_some]at b1 h
  have h2:zQ (Ls.drop (i+1)) []=none:=by simpa using h
  simp only [h2]at fl
  refine ⟨⟨3,nm,[]⟩,-1, ?_⟩
  have hn: ¬ (0:Int)≤ -1:=by decide
  simp only [go_sem,qa,qb,qc,qd,qe,qf,reduceCtorEq,x7,g1,a1,b1,e1,fl,hn]
 |none=>
  simp only [h1,Option.getD_none,Option.isSome_none]at b1 h
  cases h2:zo kW l with
  |some nm=>rw [h2]at h;cases h
  |none=>
   simp only [h2,Option.getD_none,Option.isSome_none]at b2 h
   cases h3:zo kV l with
   |some t=>rw [h3]at h;cases h
   |none=>
    simp only [h3,Option.getD_none,Option.isSome_none]at b3
    refine ⟨⟨2,[],[]⟩,((i+1:Nat):Int), ?_⟩
    simp only [go_sem,qa,qb,qc,qd,qe,qf,reduceCtorEq,x7,g1,a1,b1,b2,b3,e1]
end Go.Vm
namespace Go.Vm
theorem KX(l:Str) (h:zy 32 l=false): ∃ c r,l=c::r:=by
 cases l with
 |nil=>simp [zy]at h
 |cons c r=>exact ⟨c,r,rfl⟩
theorem KQ(c:UInt8) (r:Str):ixV (S (c::r)) (I 0)=some (U8 c.toNat):=Yn (l:=c::r) (i:=0) (by omega) rfl
theorem KP(c:UInt8):decide (((c.toNat:Nat):Int)=35)=decide (c=35):=by
 by_cases h:c=35
 ·subst h;rfl
 ·rw [decide_eq_false h]
  exact decide_eq_false fun e=>h (UInt8.toNat_inj.1 (by have:c.toNat=35:=by omega
                                                        rw [this];rfl))
theorem KK {p l nm:Str} (h:zo p l=some nm):nm.length≤l.length:=by
 unfold zo at h
 split at h
 ·simp only [Option.some.injEq]at h;subst h;simp
 ·cases h
theorem qeB {l:Str} {r:List Str} {q:Rq} {n:Nat} (h:zT l r=some (q,n)):q.name.length≤l.length∧q.text.length≤l.length+qO r∧n≤r.length:=by
 unfold zT at h
 split at h
 ·rename_i nm h1
  simp only [Option.map_eq_some_iff,Prod.mk.injEq]at h
  obtain ⟨⟨x,k⟩,h2,rfl,rfl⟩:=h
  have:=qbG _ _ _ _ h2
  have:=KK h1
  simp only [List.length_nil]at*
  exact ⟨this,by omega,by omega⟩
 ·split at h
  ·rename_i nm h1
   simp only [Option.some.injEq,Prod.mk.injEq]at h
   obtain ⟨rfl,rfl⟩:=h
   exact ⟨KK h1,Nat.zero_le _,Nat.zero_le _⟩
  ·split at h
   ·rename_i nm h1
    simp only [Option.some.injEq,Prod.mk.injEq]at h
    obtain ⟨rfl,rfl⟩:=h
    exact ⟨Nat.zero_le _,by have:=KK h1;simp only at*;omega,Nat.zero_le _⟩
   ·cases h
def xk(f:Nat) (r:List Str) (i:Nat) (out:List Rq) (good:List Rq→Prop) (bad:Int→Prop):Prop:=
 match f,r with
 |0,_=>True
 |f+1,[]=>good out
 |f+1,l::r=>if yZ l=true then xk f r (i+1) out good bad else match zT l r with
  |none=>bad ((i+1:Nat):Int)
  |some (q,n)=>if okR q=true∧out.length ≠ 20 then xk f (r.drop n) (i+1+n) (out++[q]) good bad else bad ((i+1:Nat):Int)
theorem qmR(Ls:List Str) (hL:Ls.length≤2^30) (hT:qO Ls≤2^40) (f:Nat): ∀ (r:List Str) (i:Nat) (out:List Rq),Ls.drop i=r→i+r.length=Ls.length→r.length < f→out.length≤20→
 xk f r i out (fun o=>lw ql x9 ⟨[(4,.s (100000,0) 0 0),(5,.s (100000,1) 0 (out).length),(6,.s (100000,2) 0 Ls.length),(7,I i)],[((100000,0),3,[]),((100000,1),3,(out).map oRq),((100000,2),1,Ls.map S)]⟩=some (.exit 0,⟨[(5,.s (100000,1) 0 (o).length)],[((100000,0),3,[]),((100000,1),3,(o).map oRq),((100000,2),1,Ls.map S)]⟩)) (fun c=> ∃ T,lw ql x9 ⟨[(4,.s (100000,0) 0 0),(5,.s (100000,1) 0 (out).length),(6,.s (100000,2) 0 Ls.length),(7,I i)],[((100000,0),3,[]),((100000,1),3,(out).map oRq),((100000,2),1,Ls.map S)]⟩=some (.ret,⟨[(2,.s (100000,0) 0 0),(3,I c)],T⟩)∧qq T (100000,0)=some (3,[])):=by
 induction f with
 |zero=>intro r i out _ _ h;omega
 |succ f ih=>
  intro r i out hr hi hf ho
  cases r with
  |nil=>
   simp only [xk]
   have h1: ¬ (i:Int) < (Ls.length:Int):=by simp only [List.length_nil]at hi;omega
   rw [qA]
   simp only [go_sem,qa,qb,qc,qd,qe,qf,reduceCtorEq,kH,h1]
  |cons l r=>
   simp only [List.length_cons]at hi hf
   have hx:Ls[i]? =some l:=by
    have:=congrArg (fun z=>z[0]?) hr
    simpa using this
   have hd:Ls.drop (i+1)=r:=by
    have:=congrArg (fun z=>z.drop 1) hr
    simpa [List.drop_drop,Nat.add_comm]using this
   have h1:(i:Int) < (Ls.length:Int):=by omega
   have e1:w64 ((i:Int)+1)=((i+1:Nat):Int):=by rw [zA]<;>omega
   have g1:=xF (f:=S) hx
   have hlt:l.length≤2^40:=by have:=KW (List.mem_of_getElem? hx);omega
   have bl:=qkm l hlt
   have tkL:(Ls.map S).take Ls.length=Ls.map S:=List.take_of_length_le (by simp)
   have ix:=jr (k:=(100000,2)) (e:=1) (xs:=Ls.map S) (i:=i) (len:=Ls.length) (by omega) (by simp)
   simp only [xk]
   cases hs:yZ l with
   |true=>
    rw [if_pos rfl]
    have stp:lw ql x9 ⟨[(4,.s (100000,0) 0 0),(5,.s (100000,1) 0 (out).length),(6,.s (100000,2) 0 Ls.length),(7,I i)],[((100000,0),3,[]),((100000,1),3,(out).map oRq),((100000,2),1,Ls.map S)]⟩=lw ql x9 ⟨[(4,.s (100000,0) 0 0),(5,.s (100000,1) 0 (out).length),(6,.s (100000,2) 0 Ls.length),(7,I ((i+1:Nat):Int))],[((100000,0),3,[]),((100000,1),3,(out).map oRq),((100000,2),1,Ls.map S)]⟩:=by
     rw [qA]
     unfold yZ at hs
     cases ha:zy 32 l with
     |true=>
      rw [ha]at bl
      simp only [go_sem,qa,qb,qc,qd,qe,qf,reduceCtorEq,kH,h1,e1,g1,ix,bl]
     |false=>
      obtain ⟨c,r',rfl⟩:=KX l ha
      rw [ha,Bool.false_or]at hs
      rw [ha]at bl
      have hh:((c.toNat:Nat):Int)=35:=of_decide_eq_true (by rw [KP];exact hs)
      have hc:=KQ c r'
      simp only [go_sem,qa,qb,qc,qd,qe,qf,reduceCtorEq,kH,h1,e1,g1,ix,bl,hc,hh]
    have:=ih r (i+1) out hd (by omega) (by omega) ho
    simp only [stp]
    exact this
   |false=>
    rw [if_neg (by decide)]
    unfold yZ at hs
    have ha:zy 32 l=false:=by cases h:zy 32 l with|true=>rw [h]at hs;cases hs|false=>rfl
    obtain ⟨c,r',rfl⟩:=KX l ha
    rw [ha,Bool.false_or]at hs
    rw [ha]at bl
    have hh: ¬ ((c.toNat:Nat):Int)=35:=of_decide_eq_false (by rw [KP];exact hs)
    have hc:=KQ c r'
    cases h2:zT (c::r') r with
    |none=>
     obtain ⟨q,nx,on⟩:=qkR true Ls hL hT i (c::r') hx (by rw [hd];exact h2)
     simp only
     refine ⟨[((8,0),3,[.a [I q.kind,S q.name,S q.text]]),((100000,0),3,[]),((100000,1),3,out.map oRq),((100000,2),1,Ls.map S)], ?_,rfl⟩
     rw [qA]
     simp only [go_sem,qa,qb,qc,qd,qe,qf,reduceCtorEq,kH,h1,e1,g1,ix,bl,hc,hh,on,tkL]
    |some qn=>
     obtain ⟨q,n⟩:=qn
     simp only
     have on:=qkT true Ls hL hT i (c::r') hx q n (by rw [hd];exact h2)
     obtain ⟨q1,q2,q3⟩:=qeB h2
     have hdt:qO r≤2^40:=by
      have:qO Ls=qO (Ls.take (i+1))+qO (Ls.drop (i+1)):=by
       simp only [qO];rw [← List.sum_append, ← List.map_append,List.take_append_drop]
      rw [hd]at this;omega
     have hT':(c::r').length+qO r≤2^40:=by
      have:qO Ls=qO (Ls.take i)+qO (Ls.drop i):=by
       simp only [qO];rw [← List.sum_append, ← List.map_append,List.take_append_drop]
      rw [hr]at this
      simp only [qO,List.map_cons,List.sum_cons]at this hT ⊢
      omega
     have ro:=qmP q (by omega) (by omega)
     cases hk:okR q with
     |false=>
      rw [hk]at ro
      rw [if_neg (by simp)]
      refine ⟨[((8,0),3,[.a [I q.kind,S q.name,S q.text]]),((100000,0),3,[]),((100000,1),3,out.map oRq),((100000,2),1,Ls.map S)], ?_,rfl⟩
      rw [qA]
      simp only [go_sem,qa,qb,qc,qd,qe,qf,reduceCtorEq,kH,h1,e1,g1,ix,bl,hc,hh,on,ro,tkL]
     |true=>
      rw [hk]at ro
      by_cases h20:out.length=20
      ·have h20':(out.length:Int)=20:=by omega
       rw [if_neg (by simp [h20])]
       refine ⟨[((8,0),3,[.a [I q.kind,S q.name,S q.text]]),((100000,0),3,[]),((100000,1),3,out.map oRq),((100000,2),1,Ls.map S)], ?_,rfl⟩
       rw [qA]
       simp only [go_sem,qa,qb,qc,qd,qe,qf,reduceCtorEq,kH,h1,e1,g1,ix,bl,hc,hh,on,ro,tkL,h20']
      ·have h20': ¬ (out.length:Int)=20:=by omega
       rw [if_pos ⟨rfl,h20⟩]
       have l1:decide ((out.length+1)*40≤lim)=true:=decide_eq_true (by rw [xG];omega)
       have l2:decide (out.length+1≤lim)=true:=decide_eq_true (by rw [xG];omega)
       have eo:(out++[q]).map oRq=out.map oRq++[.a [I q.kind,S q.name,S q.text]]:=by simp [oRq]
       have tko:(out.map oRq).take out.length=out.map oRq:=List.take_of_length_le (by simp)
       have stp:lw ql x9 ⟨[(4,.s (100000,0) 0 0),(5,.s (100000,1) 0 (out).length),(6,.s (100000,2) 0 Ls.length),(7,I i)],[((100000,0),3,[]),((100000,1),3,(out).map oRq),((100000,2),1,Ls.map S)]⟩=lw ql x9 ⟨[(4,.s (100000,0) 0 0),(5,.s (100000,1) 0 ((out++[q])).length),(6,.s (100000,2) 0 Ls.length),(7,I ((i+1+n:Nat):Int))],[((100000,0),3,[]),((100000,1),3,((out++[q])).map oRq),((100000,2),1,Ls.map S)]⟩:=by
        rw [qA,eo]
        simp only [go_sem,qa,qb,qc,qd,qe,qf,reduceCtorEq,kH,h1,e1,g1,ix,bl,hc,hh,on,ro,tkL,h20',l1,l2,tko,List.length_map,List.length_append,List.length_cons,List.length_nil]
       have:=ih (r.drop n) (i+1+n) (out++[q]) (by rw [← hd,List.drop_drop]) (by rw [List.length_drop];omega) (by rw [List.length_drop];omega) (by simp;omega)
       simp only [stp]
       exact this
end Go.Vm
namespace Go.Vm
theorem Yi(good:List Rq→Prop) (bad:Int→Prop): ∀ (f:Nat) (r:List Str) (i:Nat) (out:List Rq),xk f r i out good bad→r.length < f→out.length≤20→
 (good (yd f r i out).1∧(yd f r i out).2=0∧(yd f r i out).1.length≤20)∨(bad (yd f r i out).2∧(yd f r i out).1=[])
 |0,r,i,out,h,hf,ho=>by omega
 |f+1,[],i,out,h,hf,ho=>by simp only [xk]at h;exact .inl ⟨h,rfl,ho⟩
 |f+1,l::r,i,out,h,hf,ho=>by
  simp only [List.length_cons]at hf
  simp only [xk]at h
  simp only [yd]
  by_cases hs:yZ l=true
  ·rw [if_pos hs]at h ⊢
   exact Yi good bad f r (i+1) out h (by omega) ho
  ·rw [if_neg hs]at h ⊢
   cases h2:zT l r with
   |none=>rw [h2]at h;exact .inr ⟨h,rfl⟩
   |some qn=>
    obtain ⟨q,n⟩:=qn
    rw [h2]at h
    simp only at h ⊢
    by_cases hk:okR q=true∧out.length ≠ 20
    ·rw [if_pos hk]at h ⊢
     exact Yi good bad f (r.drop n) (i+1+n) (out++[q]) h (by rw [List.length_drop];omega) (by simp;omega)
    ·rw [if_neg hk]at h ⊢
     exact .inr ⟨h,rfl⟩
theorem qlQ(s:Str):(yp s).1.length≤20:=by
 unfold yp
 split
 ·simp
 ·have h:=Yi (fun _=>True) (fun _=>True) (s.length+2) (qK [] s) 0 []
  have tr: ∀ (f:Nat) (r:List Str) (i:Nat) (out:List Rq),xk f r i out (fun _=>True) (fun _=>True):=by
   intro f
   induction f with
   |zero=>intro r i out;exact trivial
   |succ f ih=>
    intro r i out
    cases r with
    |nil=>exact trivial
    |cons l r=>
     simp only [xk]
     split
     ·exact ih _ _ _
     ·split
      ·exact trivial
      ·split
       ·exact ih _ _ _
       ·exact trivial
  have hl:=j0 s []
  rcases h (tr _ _ _ _) (by omega) (by simp)with h|h
  ·exact h.2.2
  ·rw [h.2];simp
theorem qmO(s:Str) (hl:s.length≤2^40):cr ql JS [S s]=some (.t [.o 3 ((yp s).1.map oRq),I (yp s).2]):=by
 rw [qS qla rfl]
 unfold yp
 by_cases hb:2500 < s.length
 ·have hb':(2500:Int) < s.length:=by omega
  rw [if_pos hb]
  simp only [go_sem,qa,qb,qc,qd,qe,qf,reduceCtorEq,ja,hb',List.map_nil]
 ·have hb': ¬ (2500:Int) < s.length:=by omega
  rw [if_neg hb]
  have li:=qko s (by omega)
  have h1:=j0 s []
  have h2:=KU s []
  simp only [List.length_nil]at h2
  have lp:=Yi _ _ (s.length+2) (qK [] s) 0 [] (qmR (qK [] s) (by omega) (by omega) (s.length+2) (qK [] s) 0 [] rfl (by omega) (by omega) (by simp)) (by omega) (by simp)
  simp only [Int.natCast_zero,List.map_nil,List.length_nil]at lp
  have tkL:((qK [] s).map S).take (qK [] s).length=(qK [] s).map S:=List.take_of_length_le (by simp)
  generalize yd (s.length+2) (qK [] s) 0 []=R at*
  generalize qK [] s=Ls at*
  obtain ⟨o,c⟩:=R
  rcases lp with ⟨lp,hc,ho⟩|⟨⟨T,lp,hT⟩,hc⟩
  ·simp only at lp hc ho
   subst hc
   have tko:(o.map oRq).take o.length=o.map oRq:=List.take_of_length_le (by simp)
   simp only [go_sem,qa,qb,qc,qd,qe,qf,reduceCtorEq,ja,hb',li,lp,tkL,tko,List.length_map]
  ·simp only at lp hc
   subst hc
   simp only [go_sem,qa,qb,qc,qd,qe,qf,reduceCtorEq,ja,hb',li,lp,tkL,hT,List.length_map,List.map_nil]
theorem qdT(Ls:List Str) (hL:Ls.length≤2^30) (out:List Rq) (at':Int) (nm:Str): ∀ (r:List Str) (i:Nat) (t:Str),Ls.drop i=r→i+r.length=Ls.length→t.length+qO r≤2^40→
 (∀ x n,zQ r t=some (x,n)→lw ql jg ⟨[(4,.i false (Ls.map S)),(5,.s (100000,0) 0 out.length),(6,I i),(8,I at'),(9,.p (100000,1) 0 0)],[((100000,0),3,out.map oRq),((100000,1),3,[.a [I 3,S nm,S t]])]⟩=some (.exit 2,⟨[(4,.i false (Ls.map S)),(5,.s (100000,0) 0 out.length),(6,I ((i+n:Nat):Int)),(8,I at'),(9,.p (100000,1) 0 0)],[((100000,0),3,out.map oRq),((100000,1),3,[.a [I 3,S nm,S x]])]⟩))∧
 (zQ r t=none→ ∃ x:Str,x.length≤2^40∧lw ql jg ⟨[(4,.i false (Ls.map S)),(5,.s (100000,0) 0 out.length),(6,I i),(8,I at'),(9,.p (100000,1) 0 0)],[((100000,0),3,out.map oRq),((100000,1),3,[.a [I 3,S nm,S t]])]⟩=some (.exit 2,⟨[(4,.i false (Ls.map S)),(5,.s (100000,0) 0 out.length),(6,I (Ls.length:Int)),(8,I at'),(9,.p (100000,1) 0 0)],[((100000,0),3,out.map oRq),((100000,1),3,[.a [I 3,S nm,S x]])]⟩))
 |[],i,t,h,hi,ht=>by
  have h1: ¬ (i:Int) < (Ls.length:Int):=by simp only [List.length_nil]at hi;omega
  have hii:i=Ls.length:=by simp only [List.length_nil]at hi;omega
  refine ⟨fun x n h=>by simp [zQ]at h,fun _=>⟨t,by omega, ?_⟩⟩
  rw [qA]
  subst hii
  simp only [go_sem,qa,qb,qc,qd,qe,qf,reduceCtorEq,ZW,h1,List.length_map]
 |y::r,i,t,h,hi,ht=>by
  simp only [List.length_cons]at hi
  simp only [qO,List.map_cons,List.sum_cons]at ht
  have hx:Ls[i]? =some y:=by
   have:=congrArg (fun z=>z[0]?) h
   simpa using this
  have hd:Ls.drop (i+1)=r:=by
   have:=congrArg (fun z=>z.drop 1) h
   simpa [List.drop_drop,Nat.add_comm]using this
  have h1:(i:Int) < (Ls.length:Int):=by omega
  have e1:w64 ((i:Int)+1)=((i+1:Nat):Int):=by rw [zA]<;>omega
  have g1:=xF (f:=S) hx
  have a1:=fun T=>kI (τ:=false) (T:=T) (e:=1) g1 rfl
  have b1:=qv (x:=y) (y:=[10]) (by simp only [List.length_cons,List.length_nil];omega)
  have b2:=qv (x:=t) (y:=y++[10]) (by simp only [List.length_append,List.length_cons,List.length_nil];omega)
  obtain ⟨i1,i2⟩:=qdT Ls hL out at' nm r (i+1) (t++(y++[10])) hd (by omega) (by simp only [List.length_append,List.length_cons,List.length_nil,qO];omega)
  simp only [zQ]
  by_cases hy:y=qbJ
  ·have hyd:decide (y=[101,110,100])=true:=decide_eq_true hy
   rw [if_pos hy]
   refine ⟨fun x n h=> ?_,fun h=>by cases h⟩
   simp only [Option.some.injEq,Prod.mk.injEq]at h
   obtain ⟨rfl,rfl⟩:=h
   rw [qA]
   simp only [go_sem,qa,qb,qc,qd,qe,qf,reduceCtorEq,ZW,h1,e1,g1,a1,hyd,List.length_map]
  ·have hyd:decide (y=[101,110,100])=false:=decide_eq_false hy
   rw [if_neg hy]
   have stp:lw ql jg ⟨[(4,.i false (Ls.map S)),(5,.s (100000,0) 0 out.length),(6,I i),(8,I at'),(9,.p (100000,1) 0 0)],[((100000,0),3,out.map oRq),((100000,1),3,[.a [I 3,S nm,S t]])]⟩=lw ql jg ⟨[(4,.i false (Ls.map S)),(5,.s (100000,0) 0 out.length),(6,I ((i+1:Nat):Int)),(8,I at'),(9,.p (100000,1) 0 0)],[((100000,0),3,out.map oRq),((100000,1),3,[.a [I 3,S nm,S (t++(y++[10]))]])]⟩:=by
    rw [qA]
    simp only [go_sem,qa,qb,qc,qd,qe,qf,reduceCtorEq,ZW,h1,e1,g1,a1,hyd,b1,b2,List.length_map]
   rw [stp]
   refine ⟨fun x n h=> ?_,fun h=> ?_⟩
   ·simp only [Option.map_eq_some_iff]at h
    obtain ⟨⟨x',n'⟩,h1,h2⟩:=h
    simp only [Prod.mk.injEq]at h2
    obtain ⟨rfl,rfl⟩:=h2
    rw [i1 _ _ h1,show i+1+n'=i+(n'+1)by omega]
   ·exact i2 (by simpa using h)
end Go.Vm
namespace Go.Vm
theorem qia(Ls:List Str) (hL:Ls.length≤2^30) (hT:qO Ls≤2^40) (f:Nat): ∀ (r:List Str) (i:Nat) (out:List Rq),Ls.drop i=r→i+r.length=Ls.length→r.length < f→out.length≤20→
 xk f r i out (fun o=>lw ql xz ⟨[(4,.i false (Ls.map S)),(5,.s (100000,0) 0 (out).length),(6,I i)],[((100000,0),3,(out).map oRq)]⟩=some (.exit 0,⟨[(5,.s (100000,0) 0 o.length)],[((100000,0),3,o.map oRq)]⟩)) (fun c=> ∃ T,lw ql xz ⟨[(4,.i false (Ls.map S)),(5,.s (100000,0) 0 (out).length),(6,I i)],[((100000,0),3,(out).map oRq)]⟩=some (.ret,⟨[(2,.n 3),(3,I c)],T⟩)):=by
 induction f with
 |zero=>intro r i out _ _ h;omega
 |succ f ih=>
  intro r i out hr hi hf ho
  cases r with
  |nil=>
   simp only [xk]
   have h1: ¬ (i:Int) < (Ls.length:Int):=by simp only [List.length_nil]at hi;omega
   rw [qA]
   simp only [go_sem,qa,qb,qc,qd,qe,qf,reduceCtorEq,xd,h1,List.length_map]
  |cons l r=>
   simp only [List.length_cons]at hi hf
   have hx:Ls[i]? =some l:=by
    have:=congrArg (fun z=>z[0]?) hr
    simpa using this
   have hd:Ls.drop (i+1)=r:=by
    have:=congrArg (fun z=>z.drop 1) hr
    simpa [List.drop_drop,Nat.add_comm]using this
   have h1:(i:Int) < (Ls.length:Int):=by omega
   have e1:w64 ((i:Int)+1)=((i+1:Nat):Int):=by rw [zA]<;>omega
   have g1:=xF (f:=S) hx
   have a1:=fun T=>kI (τ:=false) (T:=T) (e:=1) g1 rfl
   have hlt:l.length≤2^40:=by have:=KW (List.mem_of_getElem? hx);omega
   have tr:=qhG qlt l 32 (by decide) (by omega)
   have tn:decide (Lib.trimB l 32=[])=zy 32 l:=by
    rw [Bool.eq_iff_iff,decide_eq_true_eq];exact qnf 32 l
   simp only [xk]
   cases hs:yZ l with
   |true=>
    rw [if_pos rfl]
    have stp:lw ql xz ⟨[(4,.i false (Ls.map S)),(5,.s (100000,0) 0 (out).length),(6,I i)],[((100000,0),3,(out).map oRq)]⟩=lw ql xz ⟨[(4,.i false (Ls.map S)),(5,.s (100000,0) 0 (out).length),(6,I ((i+1:Nat):Int))],[((100000,0),3,(out).map oRq)]⟩:=by
     rw [qA]
     unfold yZ at hs
     cases ha:zy 32 l with
     |true=>
      rw [ha]at tn
      simp only [go_sem,qa,qb,qc,qd,qe,qf,reduceCtorEq,xd,h1,e1,g1,a1,tr,tn,List.length_map]
     |false=>
      obtain ⟨c,r',rfl⟩:=KX l ha
      rw [ha,Bool.false_or]at hs
      rw [ha]at tn
      have hh:((c.toNat:Nat):Int)=35:=of_decide_eq_true (by rw [KP];exact hs)
      have hc:=KQ c r'
      simp only [go_sem,qa,qb,qc,qd,qe,qf,reduceCtorEq,xd,h1,e1,g1,a1,tr,tn,hc,hh,List.length_map]
    have:=ih r (i+1) out hd (by omega) (by omega) ho
    simp only [stp]
    exact this
   |false=>
    rw [if_neg (by decide)]
    unfold yZ at hs
    have ha:zy 32 l=false:=by cases h:zy 32 l with|true=>rw [h]at hs;cases hs|false=>rfl
    obtain ⟨c,r',hl'⟩:=KX l ha
    rw [ha,Bool.false_or]at hs
    rw [ha]at tn
    have hc:ixV (S l) (I 0)=some (U8 c.toNat):=by rw [hl'];exact KQ c r'
    have hh: ¬ ((c.toNat:Nat):Int)=35:=of_decide_eq_false (by rw [KP];rw [hl']at hs;exact hs)
    have rq:=ql1 l
    have cf:=qan l xp
    have hT':l.length+qO r≤2^40:=by
     have:qO Ls=qO (Ls.take i)+qO (Ls.drop i):=by
      simp only [qO];rw [← List.sum_append, ← List.map_append,List.take_append_drop]
     rw [hr]at this
     simp only [qO,List.map_cons,List.sum_cons]at this hT ⊢
     omega
    rw [show xp=[102,105,108,101,32]from rfl]at cf
    have l1:decide ((out.length+1)*40≤lim)=true:=decide_eq_true (by rw [xG];omega)
    have l2:decide (out.length+1≤lim)=true:=decide_eq_true (by rw [xG];omega)
    have tko:(out.map oRq).take out.length=out.map oRq:=List.take_of_length_le (by simp)
    cases h1f:zo xp l with
    |some nm=>
     rw [show xp=[102,105,108,101,32]from rfl]at h1f
     simp only [h1f,Option.getD_some,Option.isSome_some]at cf
     have hnm:=KK h1f
     obtain ⟨f1,f2⟩:=qdT Ls hL out ((i+1:Nat):Int) nm r (i+1) [] hd (by omega) (by simp;omega)
     cases h2:zQ r []with
     |none=>
      obtain ⟨x,hxl,f2⟩:=f2 h2
      have hor:zT l r=none:=by
       unfold zT
       rw [show zo xp l=some nm from h1f];simp only [h2];rfl
      rw [hor]
      simp only
      have hnn: ¬ (Ls.length:Int) < (Ls.length:Int):=by omega
      refine ⟨[((100000,0),3,out.map oRq),((100000,1),3,[.a [I 3,S nm,S x]])], ?_⟩
      rw [qA]
      simp only [go_sem,qa,qb,qc,qd,qe,qf,reduceCtorEq,xd,h1,e1,g1,a1,tr,tn,hc,hh,rq,cf,f2,hnn,List.length_map]
     |some xn=>
      obtain ⟨x,n⟩:=xn
      have f1:=f1 x n h2
      have hor:zT l r=some (⟨3,nm,x⟩,n+1):=by
       unfold zT
       rw [show zo xp l=some nm from h1f];simp only [h2];rfl
      obtain ⟨t1,t2⟩:=qbG _ _ _ _ h2
      simp only [List.length_nil]at t1
      rw [hor]
      simp only
      have hnn:((i+1+n:Nat):Int) < (Ls.length:Int):=by omega
      have e2:w64 (((i+1+n:Nat):Int)+1)=((i+1+(n+1):Nat):Int):=by rw [zA]<;>omega
      have ro:=qdS ⟨3,nm,x⟩ (by simp only;omega) (by simp only;omega)
      simp only at ro
      cases hk:okR ⟨3,nm,x⟩with
      |false=>
       rw [hk]at ro
       rw [if_neg (by simp)]
       refine ⟨[((100000,0),3,out.map oRq),((100000,1),3,[.a [I 3,S nm,S x]])], ?_⟩
       rw [qA]
       simp only [go_sem,qa,qb,qc,qd,qe,qf,reduceCtorEq,xd,h1,e1,g1,a1,tr,tn,hc,hh,rq,cf,f1,hnn,ro,List.length_map]
      |true=>
       rw [hk]at ro
       by_cases h20:out.length=20
       ·have h20':(out.length:Int)=20:=by omega
        rw [if_neg (by simp [h20])]
        refine ⟨[((100000,0),3,out.map oRq),((100000,1),3,[.a [I 3,S nm,S x]])], ?_⟩
        rw [qA]
        simp only [go_sem,qa,qb,qc,qd,qe,qf,reduceCtorEq,xd,h1,e1,g1,a1,tr,tn,hc,hh,rq,cf,f1,hnn,ro,h20',List.length_map]
       ·have h20': ¬ (out.length:Int)=20:=by omega
        rw [if_pos ⟨rfl,h20⟩]
        have eo:(out++[(⟨3,nm,x⟩:Rq)]).map oRq=out.map oRq++[.a [I 3,S nm,S x]]:=by simp [oRq]
        have stp:lw ql xz ⟨[(4,.i false (Ls.map S)),(5,.s (100000,0) 0 (out).length),(6,I i)],[((100000,0),3,(out).map oRq)]⟩=lw ql xz ⟨[(4,.i false (Ls.map S)),(5,.s (100000,0) 0 ((out++[(⟨3,nm,x⟩:Rq)])).length),(6,I ((i+1+(n+1):Nat):Int))],[((100000,0),3,((out++[(⟨3,nm,x⟩:Rq)])).map oRq)]⟩:=by
         rw [qA,eo]
         simp only [go_sem,qa,qb,qc,qd,qe,qf,reduceCtorEq,xd,h1,e1,g1,a1,tr,tn,hc,hh,rq,cf,f1,hnn,ro,h20',e2,l1,l2,tko,List.length_map,List.length_append,List.length_cons,List.length_nil]
        have:=ih (r.drop (n+1)) (i+1+(n+1)) (out++[(⟨3,nm,x⟩:Rq)]) (by rw [← hd,List.drop_drop]) (by rw [List.length_drop];omega) (by rw [List.length_drop];omega) (by simp;omega)
        simp only [stp]
        exact this
    |none=>
     rw [show xp=[102,105,108,101,32]from rfl]at h1f
     simp only [h1f,Option.getD_none,Option.isSome_none]at cf
     have hor:zT l r=(jz l).map fun q=>(q,0):=by
      unfold zT jz
      rw [show zo xp l=none from h1f]
      simp only
      cases zo kW l with
      |some nm=>rfl
      |none=>cases zo kV l<;>rfl
     cases hq:jz l with
     |none=>
      rw [hor,hq]
      simp only [hq,Option.getD_none,Option.isSome_none]at rq
      simp only [Option.map_none]
      refine ⟨[((9,0),3,[.a [I 0,S [],S []]]),((100000,0),3,out.map oRq)], ?_⟩
      rw [qA]
      simp only [go_sem,qa,qb,qc,qd,qe,qf,reduceCtorEq,xd,h1,e1,g1,a1,tr,tn,hc,hh,rq,cf,List.length_map]
     |some q=>
      obtain ⟨q1,q2,q3⟩:=qeB (hor.trans (by rw [hq];rfl):zT l r=some (q,0))
      rw [hor,hq]
      simp only [hq,Option.getD_some,Option.isSome_some]at rq
      simp only [Option.map_some]
      have ro:=qdS q (by omega) (by omega)
      cases hk:okR q with
      |false=>
       rw [hk]at ro
       rw [if_neg (by simp)]
       refine ⟨[((9,0),3,[.a [I q.kind,S q.name,S q.text]]),((100000,0),3,out.map oRq)], ?_⟩
       rw [qA]
       simp only [go_sem,qa,qb,qc,qd,qe,qf,reduceCtorEq,xd,h1,e1,g1,a1,tr,tn,hc,hh,rq,cf,ro,List.length_map]
      |true=>
       rw [hk]at ro
       by_cases h20:out.length=20
       ·have h20':(out.length:Int)=20:=by omega
        rw [if_neg (by simp [h20])]
        refine ⟨[((9,0),3,[.a [I q.kind,S q.name,S q.text]]),((100000,0),3,out.map oRq)], ?_⟩
        rw [qA]
        simp only [go_sem,qa,qb,qc,qd,qe,qf,reduceCtorEq,xd,h1,e1,g1,a1,tr,tn,hc,hh,rq,cf,ro,h20',List.length_map]
       ·have h20': ¬ (out.length:Int)=20:=by omega
        rw [if_pos ⟨rfl,h20⟩]
        have eo:(out++[q]).map oRq=out.map oRq++[.a [I q.kind,S q.name,S q.text]]:=by simp [oRq]
        have stp:lw ql xz ⟨[(4,.i false (Ls.map S)),(5,.s (100000,0) 0 (out).length),(6,I i)],[((100000,0),3,(out).map oRq)]⟩=lw ql xz ⟨[(4,.i false (Ls.map S)),(5,.s (100000,0) 0 ((out++[q])).length),(6,I ((i+1+0:Nat):Int))],[((100000,0),3,((out++[q])).map oRq)]⟩:=by
         rw [qA,eo,Nat.add_zero]
         simp only [go_sem,qa,qb,qc,qd,qe,qf,reduceCtorEq,xd,h1,e1,g1,a1,tr,tn,hc,hh,rq,cf,ro,h20',l1,l2,tko,List.length_map,List.length_append,List.length_cons,List.length_nil]
        have:=ih (r.drop 0) (i+1+0) (out++[q]) (by rw [← hd,List.drop_drop]) (by rw [List.length_drop];omega) (by rw [List.length_drop];omega) (by simp;omega)
        simp only [stp]
        exact this
theorem qh4(l:List Str):qaD 1 (l.map S)=true:=by cases l<;>rfl
theorem qmL(C:List Str) (T:Mem):Q7 T 1 (.i false (C.map S)) none (some (I ((C.length - 1:Nat):Int)))=some (.i false ((C.map S).take (C.length - 1))):=by
 simp only [Q7,js,yx,I,List.length_map]
 rw [if_pos (by omega)]
 simp only [Int.toNat_natCast]
 rw [if_pos ⟨Nat.zero_le _,by omega⟩,if_pos (qh4 C)]
 simp
theorem KR(s:Str) (hl:s.length≤2^40):cr ql ZK [S s]=some (.t [.o 3 ((yp s).1.map oRq),I (yp s).2]):=by
 rw [qS qkZ rfl]
 unfold yp
 by_cases hb:2500 < s.length
 ·have hb':(2500:Int) < s.length:=by omega
  rw [if_pos hb]
  simp only [go_sem,qa,qb,qc,qd,qe,qf,reduceCtorEq,x6,hb',List.map_nil]
 ·have hb': ¬ (2500:Int) < s.length:=by omega
  rw [if_neg hb]
  have sp:=qhF qls s 10 (by omega)
  rw [qmW]at sp
  have h1:=j0 s []
  have h2:=KU s []
  obtain ⟨C,hne,hcl,sp⟩: ∃ C,∃ hne:C ≠ [],(qK [] s=if C.getLast hne=[]then C.dropLast else C)∧cr ql J3 [S s,S [10]]=some (.i false (C.map S)):=⟨_,Yd s [],KJ s [],sp⟩
  simp only [List.length_nil]at h2
  have lp:=Yi _ _ (s.length+2) (qK [] s) 0 [] (qia (qK [] s) (by omega) (by omega) (s.length+2) (qK [] s) 0 [] rfl (by omega) (by omega) (by simp)) (by omega) (by simp)
  simp only [Int.natCast_zero,List.map_nil,List.length_nil]at lp
  generalize yd (s.length+2) (qK [] s) 0 []=R at*
  have hC:0 < C.length:=List.length_pos_iff.2 hne
  have hCl:C.length≤s.length+3:=by
   by_cases h:C.getLast hne=[]
   ·rw [if_pos h]at hcl;rw [hcl]at h1;simp at h1;omega
   ·rw [if_neg h]at hcl;rw [hcl]at h1;omega
  have e1:w64 ((C.length:Int) - 1)=((C.length - 1:Nat):Int):=by rw [zA]<;>omega
  have gl:C[C.length - 1]? =some (C.getLast hne):=by rw [List.getLast_eq_getElem,List.getElem?_eq_getElem]
  have g1:=xF (f:=S) gl
  have a1:=fun T=>kI (τ:=false) (T:=T) (e:=1) g1 rfl
  obtain ⟨o,c⟩:=R
  by_cases hg:C.getLast hne=[]
  ·rw [if_pos hg]at hcl
   have hd:(C.map S).take (C.length - 1)=(qK [] s).map S:=by rw [hcl,List.dropLast_eq_take,List.map_take]
   have sv:=qmL C
   have hle:((C.length - 1:Nat):Int)≤(C.length:Int):=by omega
   have hle':C.length - 1≤C.length:=by omega
   rw [hg]at g1
   generalize qK [] s=Ls at*
   rcases lp with ⟨lp,hc,ho⟩|⟨⟨T,lp⟩,hc⟩
   ·simp only at lp hc ho
    subst hc
    have tko:(o.map oRq).take o.length=o.map oRq:=List.take_of_length_le (by simp)
    simp only [go_sem,qa,qb,qc,qd,qe,qf,reduceCtorEq,x6,hb',sp,lp,e1,g1,a1,hd,sv,tko,List.length_map]
   ·simp only at lp hc
    subst hc
    simp only [go_sem,qa,qb,qc,qd,qe,qf,reduceCtorEq,x6,hb',sp,lp,e1,g1,a1,hd,sv,List.length_map,List.map_nil]
  ·rw [if_neg hg]at hcl
   have hgd:decide (C.getLast hne=[])=false:=decide_eq_false hg
   rw [hcl]at lp
   rcases lp with ⟨lp,hc,ho⟩|⟨⟨T,lp⟩,hc⟩
   ·simp only at lp hc ho
    subst hc
    have tko:(o.map oRq).take o.length=o.map oRq:=List.take_of_length_le (by simp)
    simp only [go_sem,qa,qb,qc,qd,qe,qf,reduceCtorEq,x6,hb',sp,lp,e1,g1,a1,hgd,tko,List.length_map]
   ·simp only at lp hc
    subst hc
    simp only [go_sem,qa,qb,qc,qd,qe,qf,reduceCtorEq,x6,hb',sp,lp,e1,g1,a1,hgd,List.length_map,List.map_nil]
end Go.Vm
namespace Go.Vm
theorem qaM(r:Str): ∀ (s acc:Str),qK acc (s++10::r)=zI acc s++qK [] r
 |[],acc=>by simp [qK,zI]
 |c::s,acc=>by
  simp only [List.cons_append,qK,zI]
  split
  ·rw [qaM r s [],List.cons_append]
  ·rw [qaM r s]
def yu:Str:=[35,32,109,111,114,101,10]
def yC:Str:=[35,32,115,97,105,100,10,32,32,32,10]
theorem qna(s:Str): ∃ t:List Str,qK [] (s++10::yu)=qK [] s++t∧ ∀ l ∈ t,yZ l=true:=by
 have ht:qK [] yu=[[35,32,109,111,114,101]]:=by decide+kernel
 rw [qaM,ht,KJ s []]
 have h35:yZ [35,32,109,111,114,101]=true:=by decide+kernel
 split
 ·rename_i h
  refine ⟨[[],[35,32,109,111,114,101]], ?_, ?_⟩
  ·conv => lhs;lhs;rw [← List.dropLast_concat_getLast (Yd s []),h]
   simp
  ·intro l hl
   simp only [List.mem_cons,List.not_mem_nil,or_false]at hl
   rcases hl with rfl|rfl
   ·decide+kernel
   ·exact h35
 ·refine ⟨[[35,32,109,111,114,101]],rfl, ?_⟩
  intro l hl
  simp only [List.mem_cons,List.not_mem_nil,or_false]at hl
  subst hl;exact h35
theorem qh5(s:Str):qK [] (yC++s)=[35,32,115,97,105,100]::[32,32,32]::qK [] s:=by
 simp [yC,qK]
theorem qfS: ∀ (t:List Str) (f i:Nat) (out:List Rq),(∀ l ∈ t,yZ l=true)→t.length < f→yd f t i out=(out,0)
 |[],f,i,out,_,hf=>by cases f with|zero=>rfl|succ f=>rfl
 |l::t,0,i,out,_,hf=>by simp at hf
 |l::t,f+1,i,out,h,hf=>by
  simp only [yd]
  rw [if_pos (h l (by simp))]
  exact qfS t f (i+1) out (fun l hl=>h l (by simp [hl])) (by simpa using hf)
theorem qf8(t:List Str): ∀ (r:List Str) (x:Str) (y:Str × Nat),zQ r x=some y→zQ (r++t) x=some y∧y.2 < r.length
 |[],x,y,h=>by cases h
 |l::r,x,y,h=>by
  simp only [zQ,List.cons_append]at h ⊢
  split at h
  ·rw [if_pos (by assumption)]
   cases h
   exact ⟨rfl,by simp⟩
  ·rw [if_neg (by assumption)]
   cases h2:zQ r (x++(l++[10]))with
   |none=>rw [h2]at h;cases h
   |some z=>
    rw [h2]at h
    obtain ⟨a,b⟩:=qf8 t r _ z h2
    rw [a]
    cases h
    exact ⟨rfl,by simp;omega⟩
theorem qkQ(t:List Str) (l:Str) (r:List Str) (q:Rq) (n:Nat) (h:zT l r=some (q,n)):zT l (r++t)=some (q,n)∧n≤r.length:=by
 unfold zT at h ⊢
 split at h
 ·cases h2:zQ r []with
  |none=>rw [h2]at h;cases h
  |some z=>
   rw [h2]at h
   obtain ⟨a,b⟩:=qf8 t r [] z h2
   rw [a]
   cases h
   exact ⟨rfl,by omega⟩
 ·split at h
  ·cases h;exact ⟨rfl,by omega⟩
  ·split at h
   ·cases h;exact ⟨rfl,by omega⟩
   ·cases h
theorem qbt(t:List Str) (ht: ∀ l ∈ t,yZ l=true): ∀ (f:Nat) (r:List Str) (i:Nat) (out:List Rq) (f' j:Nat),r.length < f→(r++t).length < f'→(yd f r i out).2=0→yd f' (r++t) j out=yd f r i out
 |0,r,i,out,f',j,hf,_,_=>by simp at hf
 |f+1,[],i,out,f',j,_,hf',_=>by
  simp only [yd,List.nil_append]at hf' ⊢
  exact qfS t f' j out ht hf'
 |f+1,l::r,i,out,0,j,_,hf',_=>by simp at hf'
 |f+1,l::r,i,out,f'+1,j,hf,hf',h=>by
  simp only [List.cons_append,List.length_cons,List.length_append]at hf hf'
  simp only [yd,List.cons_append]at h ⊢
  split
  ·rename_i hs
   rw [if_pos hs]at h
   exact qbt t ht f r (i+1) out f' (j+1) (by omega) (by simp;omega) h
  ·rename_i hs
   rw [if_neg hs]at h
   cases h1:zT l r with
   |none=>rw [h1]at h;simp only at h;omega
   |some qn=>
    obtain ⟨q,n⟩:=qn
    rw [h1]at h
    obtain ⟨a,b⟩:=qkQ t l r q n h1
    rw [a]
    simp only at h ⊢
    split
    ·rename_i hk
     rw [if_pos hk]at h
     rw [List.drop_append_of_le_length b]
     exact qbt t ht f _ _ _ f' _ (by rw [List.length_drop];omega) (by rw [List.length_append,List.length_drop];omega) h
    ·rename_i hk
     rw [if_neg hk]at h
     simp only at h;omega
theorem qlR(s:Str) (h:(yp s).2=0):(yp (yC++(s++10::yu))).2= -1∨yp (yC++(s++10::yu))=yp s:=by
 unfold yp at h ⊢
 by_cases h1:2500 < s.length
 ·rw [if_pos h1]at h;cases h
 rw [if_neg h1]at h ⊢
 by_cases h2:2500 < (yC++(s++10::yu)).length
 ·rw [if_pos h2];exact .inl rfl
 rw [if_neg h2]
 right
 obtain ⟨t,e,ht⟩:=qna s
 rw [qh5,e]
 have k1:yZ [35,32,115,97,105,100]=true:=by decide+kernel
 have k2:yZ [32,32,32]=true:=by decide+kernel
 have ln:=j0 s []
 have ln2:=j0 (s++10::yu) []
 rw [e]at ln2
 have hlen:(yC++(s++10::yu)).length=s.length+19:=by simp [yC,yu]
 have hl3:(s++10::yu).length=s.length+8:=by simp [yu]
 rw [hlen]
 rw [show s.length+19+2=(s.length+19)+1+1 by omega]
 simp only [yd,k1,k2,if_true]
 exact qbt t ht _ _ _ _ _ _ (by omega) (by rw [hl3]at ln2;omega) h
end Go.Vm
namespace Go.Vm
open Go.Lib (itoa decDigits)
theorem qdq {f:Nat} {xs:List V} (hs:cr ql f xs=some (B true)): ∃ outs,cw ql f xs=some (B true,outs):=by
 unfold cr at hs
 cases hc:cw ql f xs with
 |none=>rw [hc]at hs;cases hs
 |some r=>rw [hc]at hs;obtain ⟨a,b⟩:=r;simp only [Option.map_some,Option.some.injEq]at hs;subst hs;exact ⟨b,rfl⟩
theorem qkw(bs:List UInt8):cr ql JN [.i false (bs.map qM)]=some (B (decide ((1048576:Int) < bs.length))):=by
 rw [qS qk8 rfl]
 simp only [go_sem,qa,qb,qc,qd,qe,qf,reduceCtorEq,Qq,List.length_map]
theorem qic:itoa 1=[49]:=by unfold itoa;rw [if_neg (by decide),decDigits];rfl
theorem qid:itoa 2=[50]:=by unfold itoa;rw [if_neg (by decide),decDigits];rfl
theorem qai:cr ql ZI [S [119,104,97,116,10]]=some (S [102,97,117,108,116,32,49,10]):=by
 have rs:=KR [119,104,97,116,10] (by decide)
 rw [show yp [119,104,97,116,10]=([],1)by rfl]at rs
 have d:=qdR 1 (by decide) (by decide)
 rw [qic]at d
 have b0:=qv (x:=[102,97,117,108,116,32]) (y:=[49]) (by decide)
 have b1:=qv (x:=[102,97,117,108,116,32,49]) (y:=[10]) (by decide)
 simp only [List.map_nil]at rs
 rw [qS qeI rfl]
 simp only [go_sem,qa,qb,qc,qd,qe,qf,reduceCtorEq,jE,rs,d,b0,b1,Int.reduceEq]
theorem qaj:cr ql ZI [S [10,119,104,97,116,10]]=some (S [102,97,117,108,116,32,50,10]):=by
 have rs:=KR [10,119,104,97,116,10] (by decide)
 rw [show yp [10,119,104,97,116,10]=([],2)by rfl]at rs
 have d:=qdR 2 (by decide) (by decide)
 rw [qid]at d
 have b0:=qv (x:=[102,97,117,108,116,32]) (y:=[50]) (by decide)
 have b1:=qv (x:=[102,97,117,108,116,32,50]) (y:=[10]) (by decide)
 simp only [List.map_nil]at rs
 rw [qS qeI rfl]
 simp only [go_sem,qa,qb,qc,qd,qe,qf,reduceCtorEq,jE,rs,d,b0,b1,Int.reduceEq]
theorem qhS(q:Rq):eqV 45 (oRq q) (oRq q)=some true:=by
 have h: ∀ x:ByteArray,(x==x)=true:=fun x=>by
  cases x with|mk d=>exact (beq_self_eq_true d)
 simp [oRq,I,S,eqV,eqA,h]
theorem qlY(ts zs:List Rq) (c d:Int) (ht:ts.length≤20) (m:Nat): ∀ (i:Nat),i+m=ts.length→lw ql ZP ⟨[(4,.s (100000,0) 0 ts.length),(5,I c),(6,.i false (ts.map (iRq false))),(8,.s (100000,1) 0 zs.length),(9,I d),(10,I i)],[((100000,0),3,ts.map oRq),((100000,1),3,zs.map oRq)]⟩=some (.exit 0,⟨[(4,.s (100000,0) 0 ts.length),(5,I c),(8,.s (100000,1) 0 zs.length),(9,I d)],[((100000,0),3,ts.map oRq),((100000,1),3,zs.map oRq)]⟩):=by
 induction m with
 |zero=>
  intro i hi
  have h: ¬ (i:Int) < (ts.length:Int):=by omega
  rw [qA]
  simp only [go_sem,qa,qb,qc,qd,qe,qf,reduceCtorEq,Ku,h,List.length_map]
 |succ m ih=>
  intro i hi
  have h:(i:Int) < (ts.length:Int):=by omega
  have hx:ts[i]? =some ts[i]:=List.getElem?_eq_getElem (by omega)
  generalize ts[i]=q at hx
  have e1:w64 ((i:Int)+1)=((i+1:Nat):Int):=by rw [zA]<;>omega
  have g1:=xF (f:=oRq) hx
  have g2:=xF (f:=iRq false) hx
  have a2:=fun T=>kI (τ:=false) (T:=T) (e:=3) g2 rfl
  have a1:=jr (k:=(100000,0)) (e:=3) (xs:=ts.map oRq) (i:=i) (len:=ts.length) (by omega) (by simp)
  have eq:=qhS q
  simp only [oRq]at eq
  rw [← ih (i+1) (by omega),qA]
  simp only [go_sem,qa,qb,qc,qd,qe,qf,reduceCtorEq,Ku,h,e1,g1,g2,a1,a2,eq,oRq,iRq,bne_self_eq_false,List.length_map]
theorem qkt(bs:List UInt8) (hw:bs.length≤Lm): ∃ outs,cw ql JM [.i false (bs.map qM)]=some (B true,outs):=by
 obtain ⟨s,ds,hs⟩:=qgi bs (by unfold Lm at hw;omega)
 have bg:=qkw bs
 have i1:=KR s (by omega)
 have s1:=qmO s (by omega)
 have a0:=qv (x:=[35,32,115,97,105,100,10,32,32,32,10]) (y:=s) (by simp only [List.length_cons,List.length_nil];omega)
 have a1:=qv (x:=yC++s) (y:=[10,35,32,109,111,114,101,10]) (by simp only [yC,List.length_append,List.length_cons,List.length_nil];omega)
 rw [show (yC++s)++[10,35,32,109,111,114,101,10]=yC++(s++10::yu)by simp [yu]]at a1
 have z1:=KR (yC++(s++10::yu)) (by simp only [yC,yu,List.length_append,List.length_cons,List.length_nil];omega)
 have hl:=qlQ s
 have rm:=qlR s
 have z2:yC++(s++10::yu)=35::32::115::97::105::100::10::32::32::32::10::(s++10::yu):=rfl
 generalize hZ:yp (yC++(s++10::yu))=Z at z1 rm
 rw [z2]at a1 z1
 simp only [yC]at a1
 simp only [List.cons_append,List.nil_append]at a0 a1 z1
 by_cases hb:(1048576:Int) < bs.length
 ·rw [decide_eq_true hb]at bg
  apply qdq
  rw [qS qeJ rfl]
  simp only [go_sem,qa,qb,qc,qd,qe,qf,reduceCtorEq,kD,bg]
 ·rw [decide_eq_false hb]at bg
  generalize yp s=R at*
  obtain ⟨ts,c⟩:=R
  simp only at i1 s1 hl rm
  obtain ⟨zs,d⟩:=Z
  simp only at rm z1
  have lp:=qlY ts zs c d hl ts.length 0 (by omega)
  simp only [Int.natCast_zero]at lp
  apply qdq
  rw [qS qeJ rfl]
  by_cases hc:c=0
  ·rcases rm hc with hd|hd
   ·have c1:decide (c=0)=true:=decide_eq_true hc
    have d1:decide (d= -1)=true:=decide_eq_true hd
    simp only [go_sem,qa,qb,qc,qd,qe,qf,reduceCtorEq,kD,XR,XS,bg,ds,i1,s1,a0,a1,z1,lp,c1,d1,qai,qaj,List.length_map]
   ·obtain ⟨rfl,rfl⟩:=Prod.mk.inj hd
    have c1:decide (d=0)=true:=decide_eq_true hc
    have d1:decide (d= -1)=false:=decide_eq_false (by omega)
    simp only [go_sem,qa,qb,qc,qd,qe,qf,reduceCtorEq,kD,XR,XS,bg,ds,i1,s1,a0,a1,z1,lp,c1,d1,qai,qaj,List.length_map]
  ·have c1:decide (c=0)=false:=decide_eq_false hc
   simp only [go_sem,qa,qb,qc,qd,qe,qf,reduceCtorEq,kD,XR,XS,bg,ds,i1,s1,a0,a1,z1,lp,c1,qai,qaj,List.length_map]
end Go.Vm
namespace Go.Vm
section
variable {P:Program}
def cU(c:UInt8) (xs:List V):Prop:=xs=[qM c]
def RU(c:UInt8) (v:V):Prop:=v=qM c
theorem qlP {t:TypeId} (hu:P.underlying t=some (.int .u8)):RdC P t cU (fun _=>True):=fun n xs h hb=>by
 cases n with
 |zero=>simp [Shp]at h
 |succ n=>
  simp only [Shp,hu]at h
  obtain ⟨m,rfl,hw⟩:=h
  simp only [Lit.wf,IntKind.min,IntKind.max,IntKind.signed,IntKind.bits,Bool.and_eq_true,decide_eq_true_eq]at hw
  simp at hw
  refine ⟨by simp [qY,yP],UInt8.ofNat m.toNat, ?_,trivial⟩
  unfold cU qM
  have:((UInt8.ofNat m.toNat).toNat:Int)=m:=by
   rw [UInt8.toNat_ofNat']
   omega
  rw [this]
theorem qno {te:TypeId} (hu:P.underlying te=some (.int .u8)): ∀ (x:UInt8) (zs:List V),cU x zs→RU x (ym P te zs)∧(zS P te=false→ ∃ z,zs=[z]):=fun x zs h=>by
 unfold cU at h;subst h
 rw [qnp hu]
 exact ⟨rfl,fun _=>⟨_,rfl⟩⟩
theorem qgY {l:List UInt8} {vs:List V} (h:RL RU l vs):vs=l.map qM:=qcs (fun _ _ h=>h) h
theorem qks(x:List UInt8) (hw:wL (fun _=>True) x) (τ:Bool) (vs:List V) (hv:RL RU x vs): ∃ outs,cw ql JM [.i false vs]=some (B true,outs):=by
 rw [qgY hv]
 exact qkt x hw.1
end
end Go.Vm
namespace Go.Proofs
open Go.Shelf
def QB:Go.Shelf.Ren:=⟨fun|146=>158|221=>238|268=>303|138=>304|143=>305|195=>347|197=>307|218=>348|219=>349|260=>350|217=>371|225=>372|224=>373|267=>374|266=>404|314=>405|n=>n,fun|9=>9|31=>23|3=>3|4=>4|0=>0|105=>253|21=>21|5=>5|46=>242|119=>301|139=>304|138=>303|146=>338|51=>337|n=>n,fun|1=>0|3=>1|4=>2|n=>n⟩
theorem Kz:Go.Proofs.LaysM.n146 Tryz.prog QB where
 mixed:=by kernel_rfl
 f138:=Tryz.func304.trans (congrArg some (by kernel_rfl))
 f143:=Tryz.func305.trans (congrArg some (by kernel_rfl))
 f146:=Tryz.func158.trans (congrArg some (by kernel_rfl))
 f195:=Tryz.func347.trans (congrArg some (by kernel_rfl))
 f197:=Tryz.func307.trans (congrArg some (by kernel_rfl))
 f217:=Tryz.func371.trans (congrArg some (by kernel_rfl))
 f218:=Tryz.func348.trans (congrArg some (by kernel_rfl))
 f219:=Tryz.func349.trans (congrArg some (by kernel_rfl))
 f221:=Tryz.func238.trans (congrArg some (by kernel_rfl))
 f224:=Tryz.func373.trans (congrArg some (by kernel_rfl))
 f225:=Tryz.func372.trans (congrArg some (by kernel_rfl))
 f260:=Tryz.func350.trans (congrArg some (by kernel_rfl))
 f266:=Tryz.func404.trans (congrArg some (by kernel_rfl))
 f267:=Tryz.func374.trans (congrArg some (by kernel_rfl))
 f268:=Tryz.func303.trans (congrArg some (by kernel_rfl))
 f314:=Tryz.func405.trans (congrArg some (by kernel_rfl))
 t0:=Tryz.underlying0
 a0:=Tryz.isAgg0
 z0:=Tryz.sizeOf0
 v0:=Tryz.zeroValue0
 t3:=Tryz.underlying3
 a3:=Tryz.isAgg3
 z3:=Tryz.sizeOf3
 v3:=Tryz.zeroValue3
 t4:=Tryz.underlying4
 a4:=Tryz.isAgg4
 z4:=Tryz.sizeOf4
 v4:=Tryz.zeroValue4
 t5:=Tryz.underlying5
 a5:=Tryz.isAgg5
 z5:=Tryz.sizeOf5
 v5:=Tryz.zeroValue5
 t9:=Tryz.underlying9
 a9:=Tryz.isAgg9
 z9:=Tryz.sizeOf9
 v9:=Tryz.zeroValue9
 t21:=Tryz.underlying21
 a21:=Tryz.isAgg21
 z21:=Tryz.sizeOf21
 v21:=Tryz.zeroValue21
 t31:=Tryz.underlying23
 a31:=Tryz.isAgg23
 z31:=Tryz.sizeOf23
 v31:=Tryz.zeroValue23
 t46:=Tryz.underlying242
 a46:=Tryz.isAgg242
 z46:=Tryz.sizeOf242
 v46:=Tryz.zeroValue242
 t51:=Tryz.underlying337
 a51:=Tryz.isAgg337
 z51:=Tryz.sizeOf337
 v51:=Tryz.zeroValue337
 t105:=Tryz.underlying253
 a105:=Tryz.isAgg253
 z105:=Tryz.sizeOf253
 v105:=Tryz.zeroValue253
 t119:=Tryz.underlying301
 a119:=Tryz.isAgg301
 z119:=Tryz.sizeOf301
 t138:=Tryz.underlying303
 a138:=Tryz.isAgg303
 z138:=Tryz.sizeOf303
 v138:=Tryz.zeroValue303
 t139:=Tryz.underlying304
 a139:=Tryz.isAgg304
 z139:=Tryz.sizeOf304
 v139:=Tryz.zeroValue304
 t146:=Tryz.underlying338
 a146:=Tryz.isAgg338
 z146:=Tryz.sizeOf338
 v146:=Tryz.zeroValue338
 g1:=by kernel_rfl
 g3:=by kernel_rfl
 g4:=by kernel_rfl
 i0:=by kernel_rfl
 i3:=by kernel_rfl
 i4:=by kernel_rfl
 i5:=by kernel_rfl
 i9:=by kernel_rfl
 i21:=by kernel_rfl
 i31:=by kernel_rfl
 i46:=by kernel_rfl
 i51:=by kernel_rfl
 i105:=by kernel_rfl
 i138:=by kernel_rfl
 i139:=by kernel_rfl
 i146:=by kernel_rfl
 m1:=by kernel_rfl
 s1_3:=fun w h=>Go.Proofs.cell_of_shapedOpen_int (zero:= #[.int .i64 0]) (t:=3) h (of_decide_eq_true (by kernel_rfl)) (by kernel_rfl) rfl (by kernel_rfl) (by kernel_rfl) Tryz.underlying3
 m3:=by kernel_rfl
 m4:=by kernel_rfl
def qcz:Go.Shelf.Ren:=⟨fun|160=>159|232=>240|231=>239|227=>241|234=>243|233=>242|236=>245|235=>244|228=>306|271=>309|151=>308|197=>307|120=>352|152=>351|260=>350|137=>375|119=>376|224=>373|225=>372|217=>371|266=>404|n=>n,fun|9=>9|4=>4|3=>3|5=>5|117=>218|116=>217|0=>0|124=>221|21=>21|105=>253|46=>242|119=>301|139=>304|138=>303|n=>n,fun|3=>1|4=>2|n=>n⟩
theorem qcy:Go.Proofs.Lays.n160 Tryz.prog qcz where
 mixed:=by kernel_rfl
 f119:=Tryz.func376.trans (congrArg some (by kernel_rfl))
 f120:=Tryz.func352.trans (congrArg some (by kernel_rfl))
 f137:=Tryz.func375.trans (congrArg some (by kernel_rfl))
 f151:=Tryz.func308.trans (congrArg some (by kernel_rfl))
 f152:=Tryz.func351.trans (congrArg some (by kernel_rfl))
 f160:=Tryz.func159.trans (congrArg some (by kernel_rfl))
 f197:=Tryz.func307.trans (congrArg some (by kernel_rfl))
 f217:=Tryz.func371.trans (congrArg some (by kernel_rfl))
 f224:=Tryz.func373.trans (congrArg some (by kernel_rfl))
 f225:=Tryz.func372.trans (congrArg some (by kernel_rfl))
 f227:=Tryz.func241.trans (congrArg some (by kernel_rfl))
 f228:=Tryz.func306.trans (congrArg some (by kernel_rfl))
 f231:=Tryz.func239.trans (congrArg some (by kernel_rfl))
 f232:=Tryz.func240.trans (congrArg some (by kernel_rfl))
 f233:=Tryz.func242.trans (congrArg some (by kernel_rfl))
 f234:=Tryz.func243.trans (congrArg some (by kernel_rfl))
 f235:=Tryz.func244.trans (congrArg some (by kernel_rfl))
 f236:=Tryz.func245.trans (congrArg some (by kernel_rfl))
 f260:=Tryz.func350.trans (congrArg some (by kernel_rfl))
 f266:=Tryz.func404.trans (congrArg some (by kernel_rfl))
 f271:=Tryz.func309.trans (congrArg some (by kernel_rfl))
 t0:=Tryz.underlying0
 a0:=Tryz.isAgg0
 z0:=Tryz.sizeOf0
 v0:=Tryz.zeroValue0
 t3:=Tryz.underlying3
 a3:=Tryz.isAgg3
 z3:=Tryz.sizeOf3
 v3:=Tryz.zeroValue3
 t4:=Tryz.underlying4
 a4:=Tryz.isAgg4
 z4:=Tryz.sizeOf4
 v4:=Tryz.zeroValue4
 t5:=Tryz.underlying5
 a5:=Tryz.isAgg5
 z5:=Tryz.sizeOf5
 v5:=Tryz.zeroValue5
 t9:=Tryz.underlying9
 a9:=Tryz.isAgg9
 z9:=Tryz.sizeOf9
 v9:=Tryz.zeroValue9
 t21:=Tryz.underlying21
 a21:=Tryz.isAgg21
 z21:=Tryz.sizeOf21
 v21:=Tryz.zeroValue21
 t46:=Tryz.underlying242
 a46:=Tryz.isAgg242
 z46:=Tryz.sizeOf242
 v46:=Tryz.zeroValue242
 t105:=Tryz.underlying253
 a105:=Tryz.isAgg253
 z105:=Tryz.sizeOf253
 v105:=Tryz.zeroValue253
 t116:=Tryz.underlying217
 a116:=Tryz.isAgg217
 z116:=Tryz.sizeOf217
 t117:=Tryz.underlying218
 a117:=Tryz.isAgg218
 z117:=Tryz.sizeOf218
 v117:=Tryz.zeroValue218
 t119:=Tryz.underlying301
 a119:=Tryz.isAgg301
 z119:=Tryz.sizeOf301
 t124:=Tryz.underlying221
 a124:=Tryz.isAgg221
 z124:=Tryz.sizeOf221
 v124:=Tryz.zeroValue221
 t138:=Tryz.underlying303
 a138:=Tryz.isAgg303
 z138:=Tryz.sizeOf303
 v138:=Tryz.zeroValue303
 t139:=Tryz.underlying304
 a139:=Tryz.isAgg304
 z139:=Tryz.sizeOf304
 v139:=Tryz.zeroValue304
 g3:=by kernel_rfl
 g4:=by kernel_rfl
end Go.Proofs
namespace Go.Proofs
open Go.Shelf
def J6:Go.Shelf.Ren:=⟨fun|171=>251|243=>313|246=>353|283=>377|284=>378|285=>379|286=>380|129=>407|317=>406|318=>408|319=>409|320=>410|337=>422|338=>423|n=>n,fun|3=>3|9=>9|2=>2|4=>4|171=>306|0=>0|53=>307|37=>38|5=>5|173=>310|212=>341|51=>337|20=>20|213=>342|46=>242|232=>365|233=>366|n=>n,fun|17=>3|18=>4|19=>5|n=>n⟩
theorem J5:Go.Proofs.LaysM.n171 Tryz.prog J6 where
 mixed:=by kernel_rfl
 f129:=Tryz.func407.trans (congrArg some (by kernel_rfl))
 f171:=Tryz.func251.trans (congrArg some (by kernel_rfl))
 f243:=Tryz.func313.trans (congrArg some (by kernel_rfl))
 f246:=Tryz.func353.trans (congrArg some (by kernel_rfl))
 f283:=Tryz.func377.trans (congrArg some (by kernel_rfl))
 f284:=Tryz.func378.trans (congrArg some (by kernel_rfl))
 f285:=Tryz.func379.trans (congrArg some (by kernel_rfl))
 f286:=Tryz.func380.trans (congrArg some (by kernel_rfl))
 f317:=Tryz.func406.trans (congrArg some (by kernel_rfl))
 f318:=Tryz.func408.trans (congrArg some (by kernel_rfl))
 f319:=Tryz.func409.trans (congrArg some (by kernel_rfl))
 f320:=Tryz.func410.trans (congrArg some (by kernel_rfl))
 f337:=Tryz.func422.trans (congrArg some (by kernel_rfl))
 f338:=Tryz.func423.trans (congrArg some (by kernel_rfl))
 t0:=Tryz.underlying0
 a0:=Tryz.isAgg0
 z0:=Tryz.sizeOf0
 v0:=Tryz.zeroValue0
 t2:=Tryz.underlying2
 a2:=Tryz.isAgg2
 z2:=Tryz.sizeOf2
 v2:=Tryz.zeroValue2
 t3:=Tryz.underlying3
 a3:=Tryz.isAgg3
 z3:=Tryz.sizeOf3
 v3:=Tryz.zeroValue3
 t4:=Tryz.underlying4
 a4:=Tryz.isAgg4
 z4:=Tryz.sizeOf4
 v4:=Tryz.zeroValue4
 t5:=Tryz.underlying5
 a5:=Tryz.isAgg5
 z5:=Tryz.sizeOf5
 v5:=Tryz.zeroValue5
 t9:=Tryz.underlying9
 a9:=Tryz.isAgg9
 z9:=Tryz.sizeOf9
 v9:=Tryz.zeroValue9
 t20:=Tryz.underlying20
 a20:=Tryz.isAgg20
 z20:=Tryz.sizeOf20
 v20:=Tryz.zeroValue20
 t37:=Tryz.underlying38
 a37:=Tryz.isAgg38
 z37:=Tryz.sizeOf38
 v37:=Tryz.zeroValue38
 t46:=Tryz.underlying242
 a46:=Tryz.isAgg242
 z46:=Tryz.sizeOf242
 v46:=Tryz.zeroValue242
 t51:=Tryz.underlying337
 a51:=Tryz.isAgg337
 z51:=Tryz.sizeOf337
 v51:=Tryz.zeroValue337
 t53:=Tryz.underlying307
 a53:=Tryz.isAgg307
 z53:=Tryz.sizeOf307
 v53:=Tryz.zeroValue307
 t171:=Tryz.underlying306
 a171:=Tryz.isAgg306
 z171:=Tryz.sizeOf306
 v171:=Tryz.zeroValue306
 t173:=Tryz.underlying310
 a173:=Tryz.isAgg310
 z173:=Tryz.sizeOf310
 v173:=Tryz.zeroValue310
 t212:=Tryz.underlying341
 a212:=Tryz.isAgg341
 z212:=Tryz.sizeOf341
 v212:=Tryz.zeroValue341
 t213:=Tryz.underlying342
 a213:=Tryz.isAgg342
 z213:=Tryz.sizeOf342
 t232:=Tryz.underlying365
 a232:=Tryz.isAgg365
 z232:=Tryz.sizeOf365
 v232:=Tryz.zeroValue365
 t233:=Tryz.underlying366
 a233:=Tryz.isAgg366
 z233:=Tryz.sizeOf366
 v233:=Tryz.zeroValue366
 g17:=by kernel_rfl
 g18:=by kernel_rfl
 g19:=by kernel_rfl
 i0:=by kernel_rfl
 i2:=by kernel_rfl
 i3:=by kernel_rfl
 i4:=by kernel_rfl
 i5:=by kernel_rfl
 i9:=by kernel_rfl
 i20:=by kernel_rfl
 i37:=by kernel_rfl
 i46:=by kernel_rfl
 i51:=by kernel_rfl
 i53:=by kernel_rfl
 i171:=by kernel_rfl
 i173:=by kernel_rfl
 i212:=by kernel_rfl
 i232:=by kernel_rfl
 i233:=by kernel_rfl
 m17:=by kernel_rfl
 m18:=by kernel_rfl
 m19:=by kernel_rfl
end Go.Proofs
namespace Go.Vm
open Go.Proofs
instance layD:Lay where
 B b:=b=J6.g 17∨b=QB.g 1
 L w:=Lib.TabIs Tryz.prog w "internal/strconv.uint64pow10" .u64 Lib.pow10Tab∧ ∃ m,w.cell? ⟨QB.g 1,0,none⟩=some (.int .i64 m)
 st w w' h hL:=by
  obtain ⟨h1,m,hm⟩:=hL
  refine ⟨?_,m, ?_⟩
  ·unfold Lib.TabIs World.var? at*
   rw [J5.m17]at*
   simp only [Option.bind_some]at*
   rw [h _ (.inl rfl)];exact h1
  ·rw [← hm]
   simp only [World.cell?,h _ (.inr rfl)]
theorem qib: ∀ args r outs,jX args=some (r,outs)→kF Tryz.prog (J6.f 171) args r outs:=by
 intro args r outs h
 unfold jX at h
 split at h
 case h_2=>cases h
 rename_i n
 split at h
 case isFalse=>cases h
 rename_i hb
 simp only [Option.some.injEq,Prod.mk.injEq]at h
 obtain ⟨rfl,rfl⟩:=h
 have hz: ∀ (E:Env) vs c,qi E.cl [I n] vs c→c=c0∧vs=[.int .i64 n]:=by
  intro E vs c hx
  simp only [qi,I,Rel]at hx
  obtain ⟨y,ys,c1,c2,rfl,⟨rfl,-,rfl⟩,⟨rfl,rfl⟩,rfl⟩:=hx
  exact ⟨rfl,rfl⟩
 refine K7 (x:= .string ⟨(Lib.itoa n).toArray⟩) J5.f171 rfl rfl rfl rfl ?_ (fun E vs c hx=>(hz E vs c hx).1)
 intro E vs hx hL
 obtain ⟨-,rfl⟩:=hz E vs c0 hx
 refine (Any.strconv_Itoa J5 n hb.1 hb.2 E.w hL.1).mono ?_
 rintro e w' ⟨rfl,k,os,rfl⟩
 exact ⟨rfl,qg3 _ _ _⟩
end Go.Vm
namespace Go.Proofs
open Go.Shelf
def qcw:Go.Shelf.Ren:=⟨fun|137=>375|217=>371|266=>404|n=>n,fun|9=>9|5=>5|3=>3|n=>n,fun|n=>n⟩
theorem qcv:Go.Proofs.Lays.n137 Tryz.prog qcw where
 mixed:=by kernel_rfl
 f137:=Tryz.func375.trans (congrArg some (by kernel_rfl))
 f217:=Tryz.func371.trans (congrArg some (by kernel_rfl))
 f266:=Tryz.func404.trans (congrArg some (by kernel_rfl))
 t3:=Tryz.underlying3
 a3:=Tryz.isAgg3
 z3:=Tryz.sizeOf3
 v3:=Tryz.zeroValue3
 t5:=Tryz.underlying5
 a5:=Tryz.isAgg5
 z5:=Tryz.sizeOf5
 v5:=Tryz.zeroValue5
 t9:=Tryz.underlying9
 a9:=Tryz.isAgg9
 z9:=Tryz.sizeOf9
 v9:=Tryz.zeroValue9
def Ky:Go.Shelf.Ren:=⟨fun|156=>270|165=>327|166=>328|169=>329|240=>363|241=>364|276=>401|277=>402|n=>n,fun|31=>23|9=>9|3=>3|4=>4|0=>0|20=>20|72=>275|76=>279|70=>273|37=>38|75=>278|127=>296|164=>333|5=>5|80=>281|n=>n,fun|n=>n⟩
theorem J7:Go.Proofs.Lays.n156 Tryz.prog Ky where
 mixed:=by kernel_rfl
 f156:=Tryz.func270.trans (congrArg some (by kernel_rfl))
 f165:=Tryz.func327.trans (congrArg some (by kernel_rfl))
 f166:=Tryz.func328.trans (congrArg some (by kernel_rfl))
 f169:=Tryz.func329.trans (congrArg some (by kernel_rfl))
 f240:=Tryz.func363.trans (congrArg some (by kernel_rfl))
 f241:=Tryz.func364.trans (congrArg some (by kernel_rfl))
 f276:=Tryz.func401.trans (congrArg some (by kernel_rfl))
 f277:=Tryz.func402.trans (congrArg some (by kernel_rfl))
 t0:=Tryz.underlying0
 a0:=Tryz.isAgg0
 z0:=Tryz.sizeOf0
 v0:=Tryz.zeroValue0
 t3:=Tryz.underlying3
 a3:=Tryz.isAgg3
 z3:=Tryz.sizeOf3
 v3:=Tryz.zeroValue3
 t4:=Tryz.underlying4
 a4:=Tryz.isAgg4
 z4:=Tryz.sizeOf4
 v4:=Tryz.zeroValue4
 t9:=Tryz.underlying9
 a9:=Tryz.isAgg9
 z9:=Tryz.sizeOf9
 v9:=Tryz.zeroValue9
 t20:=Tryz.underlying20
 a20:=Tryz.isAgg20
 z20:=Tryz.sizeOf20
 v20:=Tryz.zeroValue20
 t31:=Tryz.underlying23
 a31:=Tryz.isAgg23
 z31:=Tryz.sizeOf23
 v31:=Tryz.zeroValue23
 t37:=Tryz.underlying38
 a37:=Tryz.isAgg38
 z37:=Tryz.sizeOf38
 v37:=Tryz.zeroValue38
 t70:=Tryz.underlying273
 a70:=Tryz.isAgg273
 z70:=Tryz.sizeOf273
 v70:=Tryz.zeroValue273
 t72:=Tryz.underlying275
 a72:=Tryz.isAgg275
 z72:=Tryz.sizeOf275
 v72:=Tryz.zeroValue275
 t75:=Tryz.underlying278
 a75:=Tryz.isAgg278
 z75:=Tryz.sizeOf278
 v75:=Tryz.zeroValue278
 t76:=Tryz.underlying279
 a76:=Tryz.isAgg279
 z76:=Tryz.sizeOf279
 v76:=Tryz.zeroValue279
 t127:=Tryz.underlying296
 a127:=Tryz.isAgg296
 z127:=Tryz.sizeOf296
 v127:=Tryz.zeroValue296
 t164:=Tryz.underlying333
 a164:=Tryz.isAgg333
 z164:=Tryz.sizeOf333
 v164:=Tryz.zeroValue333
theorem qcx:Go.Proofs.Builder.Extra Tryz.prog Ky where
 t5:=Tryz.underlying5
 a5:=Tryz.isAgg5
 z5:=Tryz.sizeOf5
 v5:=Tryz.zeroValue5
 infoByte:=by kernel_rfl
 cellsByte:=by kernel_rfl
 sizeByte:=by kernel_rfl
 neB5:=by decide
 sizeBuilder:=by kernel_rfl
 liesBuilder:=by kernel_rfl
end Go.Proofs
namespace Go.Vm
open Go.Proofs
theorem qie: ∀ args r outs,qaF args=some (r,outs)→kF Tryz.prog (qcw.f 137) args r outs:=by
 intro args r outs h
 unfold qaF at h
 split at h
 case h_2=>cases h
 rename_i s n
 simp only [Option.some.injEq,Prod.mk.injEq]at h
 obtain ⟨rfl,rfl⟩:=h
 have hz: ∀ (E:Env) vs c,qi E.cl [.v (.string s),.v (.int .u8 n)] vs c→c=c0∧vs=[.string s,.int .u8 n]:=by
  intro E vs c hx
  simp only [qi,Rel]at hx
  obtain ⟨y,ys,c1,c2,rfl,⟨rfl,-,rfl⟩,⟨y',ys',c3,c4,rfl,⟨rfl,-,rfl⟩,⟨rfl,rfl⟩,rfl⟩,rfl⟩:=hx
  exact ⟨rfl,rfl⟩
 refine K7 (x:= .int .i64 (Lib.indexByte s.data.toList n.toNat.toUInt8)) qcv.f137 rfl rfl rfl rfl ?_ (fun E vs c hx=>(hz E vs c hx).1)
 intro E vs hx hL
 obtain ⟨-,rfl⟩:=hz E vs c0 hx
 refine (Any.strings_IndexByte qcv s n E.w).mono ?_
 rintro e w' ⟨rfl,rfl⟩
 exact ⟨rfl,Adds.refl _⟩
theorem qif: ∀ args r outs,qaG args=some (r,outs)→kF Tryz.prog (Ky.f 156) args r outs:=by
 intro args r outs h
 unfold qaG at h
 split at h
 case h_2=>cases h
 rename_i τ xs p
 split at h
 case h_2=>cases h
 rename_i ss hss
 split at h
 case isFalse=>cases h
 rename_i hb
 simp only [Option.some.injEq,Prod.mk.injEq]at h
 obtain ⟨rfl,rfl⟩:=h
 obtain rfl:=qf2 hss
 rw [List.length_map]at hb
 refine K7 (x:= .string ⟨(Lib.join ss p.data.toList).toArray⟩) J7.f156 rfl rfl rfl rfl ?_ ?_
 ·intro E vs hx hL
  simp only [qi,Rel]at hx
  obtain ⟨y,ys,c1,c2,rfl,⟨-,A,cap,rfl,hcap,hxs⟩,⟨y',ys',c3,c4,rfl,⟨rfl,-,-⟩,⟨rfl,-⟩,-⟩,-⟩:=hx
  rw [List.length_map]at hcap ⊢
  have hm:(ss.map fun s=>(⟨s.toArray⟩:ByteArray)).map (·.data.toList)=ss:=by
   rw [List.map_map]
   conv => rhs;rw [← List.map_id ss]
   exact List.map_congr_left fun s _=>by simp
  have key:Calls Tryz.prog (Ky.f 156) #[.slice A ss.length cap,.string p] E.w fun e w'=>e= .returned (.string ⟨(Lib.join ss p.data.toList).toArray⟩)∧Go.RowKit.Below E.w.heap.size E.w w':=by
   rcases hxs with h0|⟨b,base,e,cells,T,fz,rfl,-,hcell,hr⟩
   ·obtain rfl:ss=[]:=by simpa using h0
    exact (Any.strings_Join_none J7 qcx A cap p E.w).mono fun e w' ⟨he,hw⟩=>⟨he,hw ▸ Go.RowKit.Below.refl _ _⟩
   ·obtain ⟨he,hs⟩:=qfm hr
    have:=Any.strings_Join J7 qcx b base cap (ss.map fun s=>⟨s.toArray⟩) p E.w (by
     intro j x hj
     rw [List.getElem?_map,Option.map_eq_some_iff]at hj
     obtain ⟨s,hj,rfl⟩:=hj
     have he1:e=1:=by rcases he with rfl|he;(cases hj);exact he
     subst he1
     have h1:(seg cells base ((ss.map S).length*1))[j]? =some (.string ⟨s.toArray⟩):=by rw [hs,List.getElem?_map,hj];rfl
     have hlt:j < ss.length:=(List.getElem?_eq_some_iff.1 hj).1
     rw [seg,List.getElem?_take_of_lt (by rw [List.length_map];omega),List.getElem?_drop,Array.getElem?_toList]at h1
     have hc:E.cl.w.heap[b]? =E.w.heap[b]? :=rfl
     rw [hc]at hcell
     simp only [World.cell?,hcell]
     exact h1) (by have:=(Array.getElem?_eq_some_iff.1 hcell).1;exact this) (by rw [List.length_map];exact hb.1) (by rw [List.length_map];exact hcap) (by rw [hm];exact hb.2)
    rw [hm,List.length_map]at this
    exact this
  refine key.mono ?_
  rintro e w' ⟨rfl,hB⟩
  exact ⟨rfl,⟨hB.os,hB.tape,hB.output,hB.size,hB.block⟩⟩
 ·intro E vs c hx
  simp only [qi,Rel]at hx
  obtain ⟨y,ys,c1,c2,rfl,⟨rfl,-⟩,⟨y',ys',c3,c4,rfl,⟨-,-,rfl⟩,⟨-,rfl⟩,rfl⟩,rfl⟩:=hx
  rfl
theorem qng: ∀ args r outs,Qm args=some (r,outs)→kF Tryz.prog (qcz.f 160) args r outs:=by
 intro args r outs h
 unfold Qm at h
 split at h
 case h_2=>cases h
 rename_i s p
 split at h
 case h_2=>cases h
 rename_i c hp
 split at h
 case isFalse=>cases h
 rename_i hb
 simp only [Option.some.injEq,Prod.mk.injEq]at h
 obtain ⟨rfl,rfl⟩:=h
 obtain rfl:p=⟨#[c]⟩:=by
  obtain ⟨a⟩:=p
  have:a.toList=[c]:=hp
  rw [show a= #[c]by apply Array.toList_inj.1;simpa using this]
 have hz: ∀ (E:Env) vs cc,qi E.cl [.v (.string s),.v (.string ⟨#[c]⟩)] vs cc→cc=c0∧vs=[.string s,.string ⟨#[c]⟩]:=by
  intro E vs cc hx
  simp only [qi,Rel]at hx
  obtain ⟨y,ys,c1,c2,rfl,⟨rfl,-,rfl⟩,⟨y',ys',c3,c4,rfl,⟨rfl,-,rfl⟩,⟨rfl,rfl⟩,rfl⟩,rfl⟩:=hx
  exact ⟨rfl,rfl⟩
 refine K7 (x:= .string ⟨(Lib.trimB s.data.toList c).toArray⟩) qcy.f160 rfl rfl rfl rfl ?_ (fun E vs c hx=>(hz E vs c hx).1)
 intro E vs hx hL
 obtain ⟨-,rfl⟩:=hz E vs c0 hx
 refine (Any.strings_Trim_one qcy s c hb.1 E.w hb.2).mono ?_
 rintro e w' ⟨rfl,rfl|rfl⟩
 ·exact ⟨rfl,Adds.refl _⟩
 ·exact ⟨rfl,⟨rfl,rfl,rfl,Nat.le_refl _,fun _ _=>rfl⟩⟩
theorem qmV: ∀ args r outs,Qh args=some (r,outs)→kF Tryz.prog (QB.f 146) args r outs:=by
 intro args r outs h
 unfold Qh at h
 split at h
 case h_2=>cases h
 rename_i s p
 split at h
 case h_2=>cases h
 rename_i c hp
 split at h
 case isFalse=>cases h
 rename_i hb
 simp only [Option.some.injEq,Prod.mk.injEq]at h
 obtain ⟨rfl,rfl⟩:=h
 obtain rfl:p=⟨#[c]⟩:=by
  obtain ⟨a⟩:=p
  have:a.toList=[c]:=hp
  rw [show a= #[c]by apply Array.toList_inj.1;simpa using this]
 have hz: ∀ (E:Env) vs cc,qi E.cl [.v (.string s),.v (.string ⟨#[c]⟩)] vs cc→cc=c0∧vs=[.string s,.string ⟨#[c]⟩]:=by
  intro E vs cc hx
  simp only [qi,Rel]at hx
  obtain ⟨y,ys,c1,c2,rfl,⟨rfl,-,rfl⟩,⟨y',ys',c3,c4,rfl,⟨rfl,-,rfl⟩,⟨rfl,rfl⟩,rfl⟩,rfl⟩:=hx
  exact ⟨rfl,rfl⟩
 have hd:(Lib.splitB ⟨#[c]⟩ 0 (Lib.countB s ⟨#[c]⟩) s).map (·.data.toList)=Lib.split s.data.toList [c]:=Lib.splitB_data _ _ _ _
 have hl:=Lib.splitB_all ⟨#[c]⟩ (Nat.le_refl 1) 0 _ s rfl
 refine qlB Kz.f146 rfl rfl ?_ (fun E vs c hx=>(hz E vs c hx).1)
 intro E vs hx hL
 obtain ⟨-,rfl⟩:=hz E vs c0 hx
 obtain ⟨-,m,hm⟩:=hL
 refine (Any.strings_Split {Kz with} Kz.i9 s ⟨#[c]⟩ m E.w hb hm (Nat.le_refl 1)).mono ?_
 rintro e w' ⟨rfl,rfl⟩
 refine ⟨QB.t 9, ?_, ?_⟩
 ·rw [← hd,List.length_map,hl]
 ·rw [← hd,List.map_map]
  rw [show ((fun s=>Value.string ⟨s.toArray⟩) ∘ fun x:ByteArray=>x.data.toList)=Value.string from funext fun x=>by simp]
end Go.Vm
