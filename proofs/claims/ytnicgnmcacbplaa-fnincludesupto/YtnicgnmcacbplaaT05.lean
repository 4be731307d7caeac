import Derived.Test.YtnicgnmcacbplaaT03
import Derived.Test.YtnicgnmcacbplaaT04
import Derived.Lib.ItoaNum
import Derived.Lib.Split
import Derived.Lib.TrimByte
import Derived.Lib.SplitLaws
import Derived.Lib.IndexBytes
open Nat renaming reduceAdd → qa, reduceSub → qb, reduceMul → qc, reduceEqDiff → qd, reduceLeDiff → qe, reduceBEq → qf
set_option autoImplicit false
set_option maxRecDepth 100000
set_option linter.unusedSimpArgs false
set_option linter.unusedVariables false
namespace Go.Vm
end Go.Vm
namespace Go.Vm
end Go.Vm
namespace Go.Vm
theorem yy {α:Type} {f:α→V} {l:List α} {i:Nat} {x:α} (h:l[i]? =some x):(l.map f)[i]? =some (f x):=by simp [h]
end Go.Vm
namespace Go.Vm
end Go.Vm
namespace Go.Vm
def qft(n:Int):Nat→List Int→Int
 |_,[]=> -1
 |i,x::xs=>if n=x then (i:Int)else qft n (i+1) xs
end Go.Vm
namespace Go.Vm
mutual
def KC(l:List Int):Tm→List Int
 | .mk k _ n ks=>KD (if k=1∧n ∉ l then l++[n]else l) ks
def KD(l:List Int):List Tm→List Int
 |[]=>l
 |t::ts=>KD (KC l t) ts
end
def qqv(t:Tm):List Int:=KC [] t
mutual
theorem qjm: ∀ (t:Tm) (l:List Int),(KC l t).length≤l.length+nT t
 | .mk k s n ks,l=>by
   simp only [KC,nT]
   have:=qd4 ks (if k=1∧n ∉ l then l++[n]else l)
   have h2:(if k=1∧n ∉ l then l++[n]else l).length≤l.length+1:=by split<;>simp
   omega
theorem qd4: ∀ (ts:List Tm) (l:List Int),(KD l ts).length≤l.length+nTs ts
 |[],l=>by simp [KD,nTs]
 |t::ts,l=>by
  simp only [KD,nTs]
  have:=qjm t l
  have:=qd4 ts (KC l t)
  omega
end
end Go.Vm
namespace Go.Vm
def qta(caps:List V):Prop:= ∀ c ∈ caps,∃ xs i o,c= .q true xs i o
@[go_sem] theorem qFT {α β:Type} {f:α→β} {g:β→V} {l:List α}:((l.map f).map g).take l.length=(l.map f).map g:=by
 apply List.take_of_length_le;simp
mutual
def rnm(φ:Int→Int):Tm→Tm
 | .mk k s n ks=> .mk k s (if k=1 then φ n else n) (qid φ ks)
def qid(φ:Int→Int):List Tm→List Tm
 |[]=>[]
 |t::ts=>rnm φ t::qid φ ts
end
end Go.Vm
namespace Go.Vm
def qkb(fr:Int) (l:List Int):Int→Int:=fun n=>w64 (fr+qft n 0 l)
def qjF(c:Cl):Tm:= .mk 4 [58,45] 0 [c.head,c.body]
theorem qqg(s:Str) (xs:List V) (hc:qx xs=true):cw qh jO [S s,.o 4 xs]=some (.a [I 4,S s,I 0,.o 4 xs],[S s,.d]):=by
 rw [qZ qnY rfl]
 have hk: ∀ d,qA d xs=xs:=fun d=>J9 d xs hc
 simp only [go_sem,qa,qb,qc,qd,qe,qf,reduceCtorEq,Z6,qC,hc,hk]
def qnc(φ:Int→Int) (c:Cl):Cl:=⟨rnm φ c.head,rnm φ c.body,c.file⟩
def qBi(c:Cl):Cl:=qnc (qkb 0 (qqv (qjF c))) c
end Go.Vm
namespace Go.Vm
end Go.Vm
namespace Go.Vm
end Go.Vm
namespace Go.Vm
theorem qlU(x lo hi:Int):cr qh qbj [I x,I lo,I hi]=some (B (decide (lo≤x∧x≤hi))):=by
 rw [qF qoe rfl]
 by_cases h1:lo≤x<;>by_cases h2:x≤hi<;>simp only [go_sem,qa,qb,qc,qd,qe,qf,reduceCtorEq,Yf,h1,h2]
theorem kL(x lo hi:Int):cr qh jf [I x,I lo,I hi]=some (B (decide (lo≤x∧x≤hi))):=by
 rw [qF qn1 rfl]
 by_cases h1:lo≤x<;>by_cases h2:x≤hi<;>simp only [go_sem,qa,qb,qc,qd,qe,qf,reduceCtorEq,Z8,h1,h2]
def zG(c:UInt8):Bool:=decide (33≤c.toNat∧c.toNat≤126∧c.toNat ≠ 39∧c.toNat ≠ 34)
def jz(s:Str):Bool:=s.all zG
def jw(s:Str):Bool:=jz s&&decide (1≤s.length∧s.length≤20)
theorem qgS(c:UInt8):(zG c=true∧ ¬ (c.toNat:Int) < 33∧ ¬ (126:Int) < c.toNat∧decide ((c.toNat:Int)=39)=false∧decide ((c.toNat:Int)=34)=false)∨(zG c=false∧((c.toNat:Int) < 33∨ ¬ (c.toNat:Int) < 33∧((126:Int) < c.toNat∨ ¬ (126:Int) < c.toNat∧(decide ((c.toNat:Int)=39)=true∨decide ((c.toNat:Int)=39)=false∧decide ((c.toNat:Int)=34)=true)))):=by
 unfold zG
 by_cases h:33≤c.toNat∧c.toNat≤126∧c.toNat ≠ 39∧c.toNat ≠ 34
 ·left;exact ⟨decide_eq_true h,by omega,by omega,decide_eq_false (by omega),decide_eq_false (by omega)⟩
 ·right;refine ⟨decide_eq_false h, ?_⟩
  simp only [decide_eq_true_eq,decide_eq_false_iff_not]
  omega
theorem qkq(s:Str) (hl:s.length≤2^61):
 lw qh Yw ⟨[(0,S s),(3,I 0)],[]⟩=if jz s=true then some (.exit 0,⟨[(0,S s)],[]⟩)else some (.ret,⟨[(2,B false)],[]⟩):=by
 refine qb0 s (fun i r=>lw qh Yw ⟨[(0,S s),(3,I i)],[]⟩=if jz r=true then some (.exit 0,⟨[(0,S s)],[]⟩)else some (.ret,⟨[(2,B false)],[]⟩)) (by omega) ?_ ?_
 ·rw [qq]
  simp only [go_sem,qa,qb,qc,qd,qe,qf,reduceCtorEq,Qq,jz,List.all_nil]
 ·intro i c r ht hi hlt e1 hir hm hr ih
  have ix:=kz (l:=s) (i:=(i:Int)) (c:=c) (by omega) (by simpa using ht)
  have hc:=UInt8.toNat_lt c
  have hw:w64 (c.toNat:Int)=c.toNat:=by rw [qo]<;>omega
  have hin:=kL c.toNat 33 126
  rw [qq]
  unfold jz at ih ⊢
  rcases qgS c with ⟨h0,h1,h2,h3,h4⟩|⟨h0,h1|⟨h1,h2|⟨h2,h3|⟨h3,h4⟩⟩⟩⟩
  ·rw [decide_eq_true (show (33:Int)≤c.toNat∧(c.toNat:Int)≤126 by first|omega|(simp only [decide_eq_true_eq,decide_eq_false_iff_not]at*;omega))]at hin
   rw [List.all_cons,h0,Bool.true_and, ← ih]
   simp only [go_sem,qa,qb,qc,qd,qe,qf,reduceCtorEq,Qq,hlt,ix,e1,hw,hin,h1,h2,h3,h4]
  ·rw [decide_eq_false (show ¬ ((33:Int)≤c.toNat∧(c.toNat:Int)≤126)by omega)]at hin
   simp only [go_sem,qa,qb,qc,qd,qe,qf,reduceCtorEq,Qq,hlt,ix,e1,hw,hin,List.all_cons,h0]
  ·rw [decide_eq_false (show ¬ ((33:Int)≤c.toNat∧(c.toNat:Int)≤126)by omega)]at hin
   simp only [go_sem,qa,qb,qc,qd,qe,qf,reduceCtorEq,Qq,hlt,ix,e1,hw,hin,List.all_cons,h0]
  ·rw [decide_eq_true (show (33:Int)≤c.toNat∧(c.toNat:Int)≤126 by first|omega|(simp only [decide_eq_true_eq,decide_eq_false_iff_not]at*;omega))]at hin
   simp only [go_sem,qa,qb,qc,qd,qe,qf,reduceCtorEq,Qq,hlt,ix,e1,hw,hin,h3,List.all_cons,h0]
  ·rw [decide_eq_true (show (33:Int)≤c.toNat∧(c.toNat:Int)≤126 by first|omega|(simp only [decide_eq_true_eq,decide_eq_false_iff_not]at*;omega))]at hin
   simp only [go_sem,qa,qb,qc,qd,qe,qf,reduceCtorEq,Qq,hlt,ix,e1,hw,hin,h3,h4,List.all_cons,h0]
theorem qkr(s:Str) (hl:s.length≤2^61):cr qh Jz [S s]=some (B (jw s)):=by
 rw [qF qnM rfl]
 have h:=qkq s hl
 have h2:=kL s.length 1 20
 have h3:decide ((1:Int)≤s.length∧(s.length:Int)≤20)=decide (1≤s.length∧s.length≤20):=decide_eq_decide.2 (by omega)
 rw [h3]at h2
 unfold jw
 cases hb:jz s with
 |true=>rw [hb,if_pos rfl]at h;simp only [go_sem,qa,qb,qc,qd,qe,qf,reduceCtorEq,Q3,h,h2]
 |false=>rw [hb]at h;simp only [go_sem,qa,qb,qc,qd,qe,qf,reduceCtorEq,Q3,h]
end Go.Vm
namespace Go.Vm
def qav(t:Tm):Bool:=
 if t.kind=1 then decide (0≤t.num∧t.num≤99999)&&(decide (t.name=[])&&decide ((t.kids.length:Int)=0))
 else if t.kind=2 then jw t.name&&(decide (t.num=0)&&decide ((t.kids.length:Int)=0))
 else if t.kind=3 then decide (-999999999≤t.num∧t.num≤999999999)&&(decide (t.name=[])&&decide ((t.kids.length:Int)=0))
 else if t.kind=4 then jw t.name&&(decide (t.num=0)&&decide (1≤(t.kids.length:Int)∧(t.kids.length:Int)≤5))
 else false
mutual
def QR:Int→Tm→Bool
 |d,.mk k s n ks=>decide (d≤40)&&(qav (.mk k s n ks)&&xi (d+1) ks)
def xi:Int→List Tm→Bool
 |_,[]=>true
 |d,t::ts=>QR d t&&xi d ts
end
def j9(t:Tm):Bool:=decide (nT t≤400)&&QR 1 t
mutual
def YF:Tm→Int→Int
 | .mk _ _ _ ks,r=>Zt ks (r - 1)
def Zt:List Tm→Int→Int
 |[],r=>r
 |t::ts,r=>if 0≤r then Zt ts (YF t r)else r
end
mutual
theorem qjK: ∀ (t:Tm) (r:Int),0≤r→(nT t≤r→YF t r=r - nT t)∧(¬ (nT t:Int)≤r→YF t r < 0∧ -1≤YF t r)
 | .mk k s n ks,r,h=>by
   have:=qbP ks (r - 1) (by omega)
   simp only [YF,nT]
   refine ⟨fun h1=> ?_,fun h1=> ?_⟩
   ·rw [this.1 (by omega)];omega
   ·exact this.2 (by omega)
theorem qbP: ∀ (ts:List Tm) (r:Int),-1≤r→(nTs ts≤r→Zt ts r=r - nTs ts)∧(¬ (nTs ts:Int)≤r→Zt ts r < 0∧ -1≤Zt ts r)
 |[],r,h=>by simp only [Zt,nTs];omega
 |t::ts,r,h=>by
  simp only [Zt,nTs]
  by_cases h0:0≤r
  ·rw [if_pos h0]
   have h1:=qjK t r h0
   have hp:=qap t
   by_cases h2:(nT t:Int)≤r
   ·rw [h1.1 h2]
    have h3:=qbP ts (r - nT t) (by omega)
    refine ⟨fun h4=> ?_,fun h4=> ?_⟩
    ·rw [h3.1 (by omega)];omega
    ·exact h3.2 (by omega)
   ·have h3:=h1.2 h2
    have h4:=qbP ts (YF t r) h3.2
    refine ⟨fun h5=>by omega,fun h5=> ?_⟩
    exact h4.2 (by omega)
  ·rw [if_neg h0]
   have:=qap t
   omega
end
end Go.Vm
set_option maxHeartbeats 4000000
namespace Go.Vm
def szI(d:Int) (t:Tm):Int:=if QR d t=true∧nT t≤400 then nT t else 401
theorem qiF(d:Int) (t:Tm):1≤szI d t∧szI d t≤401:=by
 have:=qap t
 unfold szI
 split<;>omega
theorem qp1(t:Tm) (τ:Bool) (vs:List V) (hv:RL BT t.kids vs) (hlim:t.kids.length≤Lm) (d:Int) (hd0:0≤d) (hd:d≤40)
 (hc: ∀ u ∈ t.kids,∀ v,BT u v→cr qh XQ [v,I (d+1)]=some (I (szI (d+1) u))): ∀ n:Int,0≤n→n≤400→
 (xi (d+1) t.kids=true∧n+(nTs t.kids:Int)≤400→lw qh jh ⟨[(1,I d),(5,I n),(82,.i τ vs),(83,I t.kids.length),(84,I 0)],[]⟩=some (.exit 1,⟨[(5,I (n+(nTs t.kids:Int)))],[]⟩))∧(¬ (xi (d+1) t.kids=true∧n+(nTs t.kids:Int)≤400)→ ∃ T,lw qh jh ⟨[(1,I d),(5,I n),(82,.i τ vs),(83,I t.kids.length),(84,I 0)],[]⟩=some (.ret,⟨[(4,I 401)],T⟩)):=by
 unfold Lm at hlim
 have hn:=Kv hv
 refine qb0 t.kids (fun i ks=> ∀ n:Int,0≤n→n≤400→(xi (d+1) ks=true∧n+(nTs ks:Int)≤400→lw qh jh ⟨[(1,I d),(5,I n),(82,.i τ vs),(83,I t.kids.length),(84,I i)],[]⟩=some (.exit 1,⟨[(5,I (n+(nTs ks:Int)))],[]⟩))∧(¬ (xi (d+1) ks=true∧n+(nTs ks:Int)≤400)→ ∃ T,lw qh jh ⟨[(1,I d),(5,I n),(82,.i τ vs),(83,I t.kids.length),(84,I i)],[]⟩=some (.ret,⟨[(4,I 401)],T⟩))) (by omega) ?_ ?_
 ·intro n h0 h1
  have e0:n+((nTs []:Nat):Int)=n:=by simp only [nTs];omega
  refine ⟨fun _=> ?_,fun hx=>absurd ⟨rfl,by rw [e0];exact h1⟩ hx⟩
  rw [qq,e0]
  simp only [go_sem,qa,qb,qc,qd,qe,qf,reduceCtorEq,Kk,hn]
 ·intro i u ks ht hi hlt e1 hir hm hr ih n h0 h1
  obtain ⟨v,gv,hbt⟩:=qdP hv ht
  have a1:=fun T=>yX (τ:=τ) (T:=T) gv (qiZ hbt)
  have hcc:=hc u hm v hbt
  have hb:=qiF (d+1) u
  have e2:w64 (d+1)=d+1:=by rw [qo]<;>omega
  have e3:w64 (n+szI (d+1) u)=n+szI (d+1) u:=by rw [qo]<;>omega
  obtain ⟨σ1,ws,rfl,-⟩:=XI hbt
  have hp:=qap u
  have e4:((nTs (u::ks):Nat):Int)=(nT u:Int)+nTs ks:=by simp only [nTs];omega
  rw [e4]
  by_cases hbad:400 < n+szI (d+1) u
  ·refine ⟨fun hy=> ?_,fun _=>⟨[((7,0),4,[.a [I u.kind,S u.name,I u.num,.i σ1 ws]])], ?_⟩⟩
   ·simp only [xi,Bool.and_eq_true]at hy
    unfold szI at hbad
    rw [if_pos ⟨hy.1.1,by omega⟩]at hbad
    omega
   rw [qq]
   simp only [go_sem,qa,qb,qc,qd,qe,qf,reduceCtorEq,Kk,hn,hlt,a1,gv,hcc,e1,e2,e3,hbad]
  ·have hr:QR (d+1) u=true∧nT u≤400:=by
    apply Classical.byContradiction
    intro hx
    unfold szI at hbad
    rw [if_neg hx]at hbad
    omega
   have hs:szI (d+1) u=nT u:=by unfold szI;rw [if_pos hr]
   rw [hs]at hcc e3 hbad
   have i1:=ih (n+nT u) (by omega) (by omega)
   have e5:n+((nT u:Int)+nTs ks)=n+nT u+nTs ks:=by omega
   have e6:lw qh jh ⟨[(1,I d),(5,I n),(82,.i τ vs),(83,I t.kids.length),(84,I i)],[]⟩=lw qh jh ⟨[(1,I d),(5,I (n+nT u)),(82,.i τ vs),(83,I t.kids.length),(84,I (↑(i+1)))],[]⟩:=by
    rw [qq]
    simp only [go_sem,qa,qb,qc,qd,qe,qf,reduceCtorEq,Kk,hn,hlt,a1,gv,hcc,e1,e2,e3,hbad]
   rw [xi,hr.1,Bool.true_and,e5,e6]
   exact i1
theorem qkA: ∀ (t:Tm),WT t→ ∀ (d:Int) v,0≤d→d≤41→BT t v→cr qh XQ [v,I d]=some (I (szI d t)):=by
 refine qdS ?_
 intro k s n ks ih hw d v h0 h1 hb
 have hnm:=qkr s (by have:=qjj hw;unfold Lm at this;exact Nat.le_trans this (by decide))
 have i1:=kL n 0 99999
 have i2:=kL n (-999999999) 999999999
 have i3:=kL ks.length 1 5
 have hlen:=qdV hw
 unfold Lm at hlen
 simp only [Qs]at hlen
 obtain ⟨τ,vs,rfl,hv⟩:=XI hb
 have hn:=Kv hv
 simp only [Qs]at hn hv
 rw [qF qnX rfl]
 have hbad:qav (.mk k s n ks)=false∨ ¬ d≤40→szI d (.mk k s n ks)=401:=by
  intro h
  unfold szI
  rw [if_neg]
  simp only [QR,Bool.and_eq_true,decide_eq_true_eq]
  rcases h with h|h
  ·rw [h];simp
  ·omega
 by_cases hd:40 < d
 ·rw [hbad (.inr (by omega))]
  simp only [go_sem,qa,qb,qc,qd,qe,qf,reduceCtorEq,zJ,hd]
 have h:=qp1 (.mk k s n ks) τ vs hv (qdV hw) d h0 (by omega) (fun u hu v hb=>ih u hu (qji hw u hu) (d+1) v (by omega) (by omega) hb) 1 (by decide) (by decide)
 simp only [Kx,Ky,Kz,Qs]at h
 have hgood:qav (.mk k s n ks)=true→szI d (.mk k s n ks)=if xi (d+1) ks=true∧(1:Int)+(nTs ks:Int)≤400 then 1+(nTs ks:Int)else 401:=by
  intro ho
  unfold szI
  have hdt:decide (d≤40)=true:=decide_eq_true (by omega)
  rw [QR,ho,hdt,Bool.true_and,Bool.true_and]
  have e:nT (.mk k s n ks)=nTs ks+1:=by simp only [nT]
  by_cases hx:xi (d+1) ks=true∧nT (.mk k s n ks)≤400
  ·rw [if_pos (show xi (d+1) ks=true∧(1:Int)+(nTs ks:Int)≤400 from ⟨hx.1,by omega⟩),if_pos hx];omega
  ·rw [if_neg (show ¬ (xi (d+1) ks=true∧(1:Int)+(nTs ks:Int)≤400)from fun hy=>hx ⟨hy.1,by omega⟩),if_neg hx]
 have hz: ¬ (0:Int) < ks.length→ks.length=0:=by omega
 have p0:(0:Int) < ks.length∨ ¬ (0:Int) < ks.length:=by omega
 unfold qav at hbad hgood
 simp only [Kx,Ky,Kz,Qs]at hbad hgood
 by_cases k1:k=1
 ·have d1:decide (k=1)=true:=decide_eq_true k1
  rw [if_pos k1]at hbad hgood
  cases c2:decide (s=[])with
  |false=>rw [hbad (.inl (by rw [c2];simp))];simp only [go_sem,qa,qb,qc,qd,qe,qf,reduceCtorEq,zJ,hd,d1,c2]
  |true=>
  cases c1:decide (0≤n∧n≤99999)with
  |false=>rw [hbad (.inl (by rw [c1];simp))];rw [c1]at i1;simp only [go_sem,qa,qb,qc,qd,qe,qf,reduceCtorEq,zJ,hd,d1,c2,i1]
  |true=>
  rw [c1]at i1
  by_cases c3:(0:Int) < ks.length
  ·rw [hbad (.inl (by rw [decide_eq_false (show ¬ (ks.length:Int)=0 by omega)];simp))];simp only [go_sem,qa,qb,qc,qd,qe,qf,reduceCtorEq,zJ,hd,d1,c2,i1,hn,c3]
  ·rw [hgood (by rw [c1,c2,decide_eq_true (show (ks.length:Int)=0 by omega)];rfl)]
   by_cases hx:xi (d+1) ks=true∧(1:Int)+(nTs ks:Int)≤400
   ·have h:=h.1 hx;rw [if_pos hx];simp only [go_sem,qa,qb,qc,qd,qe,qf,reduceCtorEq,zJ,hd,d1,c2,i1,hn,c3,h]
   ·obtain ⟨T,h⟩:=h.2 hx;rw [if_neg hx];simp only [go_sem,qa,qb,qc,qd,qe,qf,reduceCtorEq,zJ,hd,d1,c2,i1,hn,c3,h]
 rw [if_neg k1]at hbad hgood
 have d1:decide (k=1)=false:=decide_eq_false k1
 by_cases k2:k=2
 ·have d2:decide (k=2)=true:=decide_eq_true k2
  rw [if_pos k2]at hbad hgood
  cases c1:jw s with
  |false=>rw [hbad (.inl (by rw [c1];simp))];rw [c1]at hnm;simp only [go_sem,qa,qb,qc,qd,qe,qf,reduceCtorEq,zJ,hd,d1,d2,hnm]
  |true=>
  rw [c1]at hnm
  cases c2:decide (n=0)with
  |false=>rw [hbad (.inl (by rw [c2];simp))];simp only [go_sem,qa,qb,qc,qd,qe,qf,reduceCtorEq,zJ,hd,d1,d2,hnm,c2]
  |true=>
  by_cases c3:(0:Int) < ks.length
  ·rw [hbad (.inl (by rw [decide_eq_false (show ¬ (ks.length:Int)=0 by omega)];simp))];simp only [go_sem,qa,qb,qc,qd,qe,qf,reduceCtorEq,zJ,hd,d1,d2,hnm,c2,hn,c3]
  ·rw [hgood (by rw [c1,c2,decide_eq_true (show (ks.length:Int)=0 by omega)];rfl)]
   by_cases hx:xi (d+1) ks=true∧(1:Int)+(nTs ks:Int)≤400
   ·have h:=h.1 hx;rw [if_pos hx];simp only [go_sem,qa,qb,qc,qd,qe,qf,reduceCtorEq,zJ,hd,d1,d2,hnm,c2,hn,c3,h]
   ·obtain ⟨T,h⟩:=h.2 hx;rw [if_neg hx];simp only [go_sem,qa,qb,qc,qd,qe,qf,reduceCtorEq,zJ,hd,d1,d2,hnm,c2,hn,c3,h]
 rw [if_neg k2]at hbad hgood
 have d2:decide (k=2)=false:=decide_eq_false k2
 by_cases k3:k=3
 ·have d3:decide (k=3)=true:=decide_eq_true k3
  rw [if_pos k3]at hbad hgood
  cases c2:decide (s=[])with
  |false=>rw [hbad (.inl (by rw [c2];simp))];simp only [go_sem,qa,qb,qc,qd,qe,qf,reduceCtorEq,zJ,hd,d1,d2,d3,c2]
  |true=>
  cases c1:decide (-999999999≤n∧n≤999999999)with
  |false=>rw [hbad (.inl (by rw [c1];simp))];rw [c1]at i2;simp only [go_sem,qa,qb,qc,qd,qe,qf,reduceCtorEq,zJ,hd,d1,d2,d3,c2,i2]
  |true=>
  rw [c1]at i2
  by_cases c3:(0:Int) < ks.length
  ·rw [hbad (.inl (by rw [decide_eq_false (show ¬ (ks.length:Int)=0 by omega)];simp))];simp only [go_sem,qa,qb,qc,qd,qe,qf,reduceCtorEq,zJ,hd,d1,d2,d3,c2,i2,hn,c3]
  ·rw [hgood (by rw [c1,c2,decide_eq_true (show (ks.length:Int)=0 by omega)];rfl)]
   by_cases hx:xi (d+1) ks=true∧(1:Int)+(nTs ks:Int)≤400
   ·have h:=h.1 hx;rw [if_pos hx];simp only [go_sem,qa,qb,qc,qd,qe,qf,reduceCtorEq,zJ,hd,d1,d2,d3,c2,i2,hn,c3,h]
   ·obtain ⟨T,h⟩:=h.2 hx;rw [if_neg hx];simp only [go_sem,qa,qb,qc,qd,qe,qf,reduceCtorEq,zJ,hd,d1,d2,d3,c2,i2,hn,c3,h]
 rw [if_neg k3]at hbad hgood
 have d3:decide (k=3)=false:=decide_eq_false k3
 by_cases k4:k=4
 ·have d4:decide (k=4)=true:=decide_eq_true k4
  rw [if_pos k4]at hbad hgood
  cases c1:jw s with
  |false=>rw [hbad (.inl (by rw [c1];simp))];rw [c1]at hnm;simp only [go_sem,qa,qb,qc,qd,qe,qf,reduceCtorEq,zJ,hd,d1,d2,d3,d4,hnm]
  |true=>
  rw [c1]at hnm
  cases c2:decide (n=0)with
  |false=>rw [hbad (.inl (by rw [c2];simp))];simp only [go_sem,qa,qb,qc,qd,qe,qf,reduceCtorEq,zJ,hd,d1,d2,d3,d4,hnm,c2]
  |true=>
  cases c3:decide (1≤(ks.length:Int)∧(ks.length:Int)≤5)with
  |false=>rw [hbad (.inl (by rw [c3];simp))];rw [c3]at i3;simp only [go_sem,qa,qb,qc,qd,qe,qf,reduceCtorEq,zJ,hd,d1,d2,d3,d4,hnm,c2,hn,i3]
  |true=>
   rw [c3]at i3
   rw [hgood (by rw [c1,c2,c3];rfl)]
   by_cases hx:xi (d+1) ks=true∧(1:Int)+(nTs ks:Int)≤400
   ·have h:=h.1 hx;rw [if_pos hx];simp only [go_sem,qa,qb,qc,qd,qe,qf,reduceCtorEq,zJ,hd,d1,d2,d3,d4,hnm,c2,hn,i3,h]
   ·obtain ⟨T,h⟩:=h.2 hx;rw [if_neg hx];simp only [go_sem,qa,qb,qc,qd,qe,qf,reduceCtorEq,zJ,hd,d1,d2,d3,d4,hnm,c2,hn,i3,h]
 rw [if_neg k4]at hbad
 have d4:decide (k=4)=false:=decide_eq_false k4
 rw [hbad (.inl rfl)]
 simp only [go_sem,qa,qb,qc,qd,qe,qf,reduceCtorEq,zJ,hd,d1,d2,d3,d4]
theorem qfx(t:Tm) (hw:WT t) (v:V) (hb:BT t v):cr qh qba [v]=some (B (j9 t)):=by
 have h1:=qkA t hw 1 v (by decide) (by decide) hb
 have hbd:=qiF 1 t
 obtain ⟨τ,vs,rfl,hv⟩:=XI hb
 rw [qF qnF rfl]
 by_cases h:QR 1 t=true∧nT t≤400
 ·have h2:szI 1 t≤400:=by unfold szI;rw [if_pos h];omega
  have h3:j9 t=true:=by unfold j9;rw [h.1,decide_eq_true h.2];rfl
  rw [h3]
  simp only [go_sem,qa,qb,qc,qd,qe,qf,reduceCtorEq,Q1,h1,h2]
 ·have h2: ¬ szI 1 t≤400:=by unfold szI;rw [if_neg h];omega
  have h3:j9 t=false:=by
   unfold j9
   cases e1:QR 1 t with
   |false=>rw [Bool.and_false]
   |true=>rw [decide_eq_false (fun hx=>h ⟨e1,hx⟩)];rfl
  rw [h3]
  simp only [go_sem,qa,qb,qc,qd,qe,qf,reduceCtorEq,Q1,h1,h2]
end Go.Vm
namespace Go.Vm
open Go.Lib (itoa decDigits)
def qxt(m:Nat):Str:=if m=0 then []else decDigits m
end Go.Vm
namespace Go.Vm
open Go.Lib (itoa decDigits)
@[go_sem] theorem qAD {n:Nat} {a:Int}:qT false n (I a) 0=some (I a):=(rfl)
@[go_sem] theorem qAF {n:Nat} {x:Str}:qT false n (S x) 0=some (S x):=(rfl)
@[go_sem] theorem qAH {n:Nat} {a:Int}:qT false n (U8 a) 0=some (U8 a):=(rfl)
def yM(n:Str):Nat→List Str→Int
 |_,[]=> -1
 |i,x::xs=>if n=x then (i:Int)else yM n (i+1) xs
theorem KU(n:Str): ∀ (l:List Str) (i:Nat),(n ∈ l→(i:Int)≤yM n i l∧yM n i l < i+l.length)∧(n ∉ l→yM n i l= -1)
 |[],i=>⟨fun h=>(by cases h),fun _=>rfl⟩
 |x::xs,i=>by
  obtain ⟨h1,h2⟩:=KU n xs (i+1)
  by_cases h:n=x
  ·subst h;simp [yM];omega
  ·simp only [yM,if_neg h,List.mem_cons,h,false_or,List.length_cons]
   exact ⟨fun hm=>by have:=h1 hm;omega,h2⟩
theorem qki(n:Str) (l:List Str):0≤yM n 0 l↔n ∈ l:=by
 obtain ⟨h1,h2⟩:=KU n l 0
 by_cases h:n ∈ l
 ·simp only [h,iff_true];have:=h1 h;omega
 ·simp only [h,iff_false,h2 h];omega
theorem qi7(τ:Bool) (l:List Str) (n:Str) (hlim:l.length≤2^40):
 lw qh Yx ⟨[(0,.i τ (l.map S)),(1,S n),(7,I l.length),(8,I (0:Nat))],[]⟩=if n ∈ l then some (.ret,⟨[(4,I (yM n 0 l))],[]⟩)else some (.exit 0,⟨[],[]⟩):=by
 refine qb0 l (fun i r=>lw qh Yx ⟨[(0,.i τ (l.map S)),(1,S n),(7,I l.length),(8,I i)],[]⟩=if n ∈ r then some (.ret,⟨[(4,I (yM n i r))],[]⟩)else some (.exit 0,⟨[],[]⟩)) (by omega) ?_ ?_
 ·rw [qq]
  simp only [go_sem,qa,qb,qc,qd,qe,qf,reduceCtorEq,Ko,List.not_mem_nil]
 ·intro i t r ht hi hlt e1 hir hm hr ih
  have g:=yy (f:=S) ht
  have a1:=yX (τ:=τ) (T:=[]) (e:=1) g rfl
  rw [qq]
  by_cases he:n=t
  ·have d:decide (n=t)=true:=decide_eq_true he
   rw [if_pos (by rw [he];exact List.mem_cons_self),yM,if_pos he]
   simp only [go_sem,qa,qb,qc,qd,qe,qf,reduceCtorEq,Ko,hlt,a1,g,e1,d]
  ·have d:decide (n=t)=false:=decide_eq_false he
   have hmm:(n ∈ t::r)=(n ∈ r):=by simp only [List.mem_cons,he,false_or]
   simp only [hmm,yM,if_neg he]
   simp only [go_sem,qa,qb,qc,qd,qe,qf,reduceCtorEq,Ko,hlt,a1,g,e1,d]
   exact ih
theorem qdM(τ:Bool) (l:List Str) (n:Str) (hlim:l.length≤2^40):cr qh JF [.i τ (l.map S),S n]=some (I (yM n 0 l)):=by
 rw [qF qn9 rfl]
 have h:=qi7 τ l n hlim
 simp only [Int.natCast_zero]at h
 by_cases hm:n ∈ l
 ·rw [if_pos hm]at h
  simp only [go_sem,qa,qb,qc,qd,qe,qf,reduceCtorEq,Q9,h]
 ·rw [if_neg hm]at h
  simp only [go_sem,qa,qb,qc,qd,qe,qf,reduceCtorEq,Q9,h,(KU n l 0).2 hm]
theorem XL(τ:Bool) (l:List Str) (n:Str) (hlim:l.length≤2^40):cr qh Yu [.i τ (l.map S),S n]=some (B (decide (n ∈ l))):=by
 rw [qF qn7 rfl]
 have h:=qdM τ l n hlim
 have hm:decide (0≤yM n 0 l)=decide (n ∈ l):=decide_eq_decide.2 (qki n l)
 simp only [go_sem,qa,qb,qc,qd,qe,qf,reduceCtorEq,Yc,h,hm]
def qjS:List Str:=[[116,114,117,101,47,48],[102,97,105,108,47,48],[33,47,48],[44,47,50],[59,47,50],[45,62,47,50],[92,43,47,49],[99,97,108,108,47,49],[99,97,108,108,47,50],[99,97,108,108,47,51],[99,97,116,99,104,47,51],[116,104,114,111,119,47,49],[61,47,50],[92,61,47,50],[61,61,47,50],[105,115,47,50],[60,47,50],[61,58,61,47,50],[118,97,114,47,49],[97,116,111,109,47,49],[119,114,105,116,101,47,49],[97,115,115,101,114,116,122,47,49],[114,101,116,114,97,99,116,47,49],[58,45,47,50],[58,45,47,49],[45,45,62,47,50]]
def qzZ(p:Str):Bool:=decide (p ∈ qjS)
def qEe(t:Tm):Str:=if t.kind=2∨t.kind=4 then t.name++[47]++itoa t.kids.length else []
end Go.Vm
namespace Go.Vm
open Go.Lib (itoa decDigits indexByte)
def ZR:Str:=[43,45,42,47,92,94,60,62,61,126,58,46,63,64,35,38,36]
def zQ(c:UInt8):Bool:=decide (c ∈ ZR)
theorem KJ {c d:UInt8}:((c.toNat:Int)=d.toNat)=(c=d):=by
 apply propext
 constructor
 ·intro h
  have:c.toNat=d.toNat:=by omega
  exact UInt8.toNat_inj.1 this
 ·rintro rfl;rfl
theorem qcl(l:Str) (c:UInt8):0≤indexByte l c↔c ∈ l:=by
 induction l with
 |nil=>simp [indexByte]
 |cons b l ih=>
  unfold indexByte
  by_cases h:b=c
  ·simp [h]
  ·have h1:(b==c)=false:=by simpa using h
   have h2: ¬ c=b:=fun e=>h e.symm
   have:=Go.Lib.indexByte_ge l c
   rw [h1]
   simp only [Bool.false_eq_true,if_false,List.mem_cons,h2,false_or]
   by_cases h3:indexByte l c= -1
   ·have h4: ¬ c ∈ l:=fun hm=>by have:=ih.2 hm;omega
    simp only [h3,beq_self_eq_true,if_true,h4,iff_false];omega
   ·have h5:(indexByte l c== -1)=false:=by simpa using h3
    rw [h5]
    simp only [Bool.false_eq_true,if_false]
    rw [← ih]
    omega
theorem J0(l:Str) (c:UInt8):cr qh XT [S l,U8 c.toNat]=some (I (indexByte l c)):=by
 have h:=qjP qoq l c.toNat
 have:(c.toNat:Int).toNat.toUInt8=c:=by simp
 rw [this]at h
 exact h
theorem qcf(c:UInt8):cr qh Yp [U8 c.toNat]=some (B (zQ c)):=by
 rw [qF qnE rfl]
 have h:=J0 ZR c
 have hd:decide (0≤indexByte ZR c)=zQ c:=decide_eq_decide.2 (qcl ZR c)
 unfold ZR at h hd
 simp only [go_sem,qa,qb,qc,qd,qe,qf,reduceCtorEq,ZZ,h,hd]
end Go.Vm
namespace Go.Vm
def inB(lo hi:Int) (c:UInt8):Bool:=decide (lo≤(c.toNat:Int))&&decide ((c.toNat:Int)≤hi)
def isB(n:Int) (c:UInt8):Bool:=decide ((c.toNat:Int)=n)
def y5(c:UInt8):Bool:=inB 65 90 c||isB 95 c
def yR(c:UInt8):Bool:=inB 97 122 c||y5 c||inB 48 57 c
def Qw(c:UInt8):Bool:=isB 32 c||isB 9 c||isB 10 c
theorem qlZ(c:UInt8):cr qh qbm [U8 c.toNat]=some (B (inB 97 122 c)):=by
 rw [qF qoj rfl]
 unfold inB
 by_cases h1:(97:Int)≤(c.toNat:Int)
 ·rw [decide_eq_true h1,Bool.true_and]
  by_cases h2:(c.toNat:Int)≤122
  ·rw [decide_eq_true h2];simp only [go_sem,qa,qb,qc,qd,qe,qf,reduceCtorEq,Qf,h1,h2]
  ·rw [decide_eq_false h2];simp only [go_sem,qa,qb,qc,qd,qe,qf,reduceCtorEq,Qf,h1,h2]
 ·rw [decide_eq_false h1,Bool.false_and];simp only [go_sem,qa,qb,qc,qd,qe,qf,reduceCtorEq,Qf,h1]
theorem qfB(c:UInt8):cr qh XO [U8 c.toNat]=some (B (inB 97 122 c)):=by
 rw [qF qnL rfl]
 unfold inB
 by_cases h1:(97:Int)≤(c.toNat:Int)
 ·rw [decide_eq_true h1,Bool.true_and]
  by_cases h2:(c.toNat:Int)≤122
  ·rw [decide_eq_true h2];simp only [go_sem,qa,qb,qc,qd,qe,qf,reduceCtorEq,Qb,h1,h2]
  ·rw [decide_eq_false h2];simp only [go_sem,qa,qb,qc,qd,qe,qf,reduceCtorEq,Qb,h1,h2]
 ·rw [decide_eq_false h1,Bool.false_and];simp only [go_sem,qa,qb,qc,qd,qe,qf,reduceCtorEq,Qb,h1]
theorem qfG(c:UInt8):cr qh JD [U8 c.toNat]=some (B (inB 65 90 c)):=by
 rw [qF qnZ rfl]
 unfold inB
 by_cases h1:(65:Int)≤(c.toNat:Int)
 ·rw [decide_eq_true h1,Bool.true_and]
  by_cases h2:(c.toNat:Int)≤90
  ·rw [decide_eq_true h2];simp only [go_sem,qa,qb,qc,qd,qe,qf,reduceCtorEq,Qe,h1,h2]
  ·rw [decide_eq_false h2];simp only [go_sem,qa,qb,qc,qd,qe,qf,reduceCtorEq,Qe,h1,h2]
 ·rw [decide_eq_false h1,Bool.false_and];simp only [go_sem,qa,qb,qc,qd,qe,qf,reduceCtorEq,Qe,h1]
theorem qcg(c:UInt8):cr qh Yr [U8 c.toNat]=some (B (inB 48 57 c)):=by
 rw [qF qnI rfl]
 unfold inB
 by_cases h1:(48:Int)≤(c.toNat:Int)
 ·rw [decide_eq_true h1,Bool.true_and]
  by_cases h2:(c.toNat:Int)≤57
  ·rw [decide_eq_true h2];simp only [go_sem,qa,qb,qc,qd,qe,qf,reduceCtorEq,Qa,h1,h2]
  ·rw [decide_eq_false h2];simp only [go_sem,qa,qb,qc,qd,qe,qf,reduceCtorEq,Qa,h1,h2]
 ·rw [decide_eq_false h1,Bool.false_and];simp only [go_sem,qa,qb,qc,qd,qe,qf,reduceCtorEq,Qa,h1]
theorem qkD(c:UInt8):cr qh JE [U8 c.toNat]=some (B (yR c)):=by
 rw [qF qn2 rfl]
 have e1:=qfB c
 have e2:=qfG c
 have e3:=qcg c
 unfold yR y5 isB
 cases h1:inB 97 122 c<;>cases h2:inB 65 90 c<;>cases h3:inB 48 57 c<;>cases h4:decide ((c.toNat:Int)=95)<;>rw [h1]at e1<;>rw [h2]at e2<;>rw [h3]at e3<;>
 simp only [Bool.or_true,Bool.or_false,Bool.true_or,Bool.false_or]<;>simp only [go_sem,qa,qb,qc,qd,qe,qf,reduceCtorEq,Z9,e1,e2,e3,h4]
end Go.Vm
namespace Go.Vm
def pre(p:UInt8→Bool):Str→Nat
 |[]=>0
 |c::r=>if p c=true then pre p r+1 else 0
theorem qhh(p:UInt8→Bool): ∀ s,pre p s≤s.length
 |[]=>Nat.le_refl _
 |c::r=>by have:=qhh p r;simp only [pre,List.length_cons];split<;>omega
theorem qpl(p:UInt8→Bool) (g:Nat) (hg: ∀ c,cr qh g [U8 c.toNat]=some (B (p c))) (s:Str) (hl:s.length≤2^61) (m:Nat): ∀ i,i+m=s.length→
 lw qh X0 ⟨[(0,S s),(1,I i),(2,Fc g)],[]⟩=some (.exit 0,⟨[(1,I ((i+pre p (s.drop i):Nat):Int))],[]⟩):=by
 induction m with
 |zero=>
  intro i hi
  rw [List.drop_eq_nil_of_le (by omega),qq]
  have h: ¬ (i:Int) < s.length:=by omega
  simp only [go_sem,qa,qb,qc,qd,qe,qf,reduceCtorEq,Kj,h,pre]
 |succ m ih=>
  intro i hi
  have h:(i:Int) < s.length:=by omega
  obtain ⟨c,hc⟩:=z6 (l:=s) (i:=i) (by omega)
  have ix:=kz (l:=s) (i:=(i:Int)) (c:=c) (by omega) (by simpa using hc)
  have w:=hg c
  have e1:w64 ((i:Int)+1)=((i+1:Nat):Int):=by rw [qo]<;>omega
  rw [QD hc,qq,pre]
  cases hw:p c with
  |true=>
   rw [hw]at w
   have i1:=ih (i+1) (by omega)
   rw [if_pos rfl,show i+(pre p (s.drop (i+1))+1)=i+1+pre p (s.drop (i+1))by omega]
   simp only [go_sem,qa,qb,qc,qd,qe,qf,reduceCtorEq,Kj,h,ix,w,e1]
   exact i1
  |false=>
   rw [hw]at w
   rw [if_neg (by decide)]
   simp only [go_sem,qa,qb,qc,qd,qe,qf,reduceCtorEq,Kj,h,ix,w,e1]
theorem Jl(p:UInt8→Bool) (g:Nat) (hg: ∀ c,cr qh g [U8 c.toNat]=some (B (p c))) (s:Str) (hl:s.length≤2^61) (i:Nat) (hi:i≤s.length):cr qh Zh [S s,I i,Fc g]=some (I ((i+pre p (s.drop i):Nat):Int)):=by
 rw [qF qnW rfl]
 have h:=qpl p g hg s hl (s.length - i) i (by omega)
 simp only [go_sem,qa,qb,qc,qd,qe,qf,reduceCtorEq,Z5,h]
end Go.Vm
set_option maxHeartbeats 16000000
namespace Go.Vm
def qcs:Str→Str→List Str
 |acc,[]=>if acc=[]then []else [acc]
 |acc,c::r=>if c=10 then acc::qcs [] r else qcs (acc++[c]) r
def qeW:Str→Str→List Str
 |acc,[]=>[acc]
 |acc,c::r=>if c=10 then acc::qeW [] r else qeW (acc++[c]) r
def qjn(c:UInt8) (l:Str):Bool:=l.all fun x=>decide (x=c)
def qbT(p l:Str):Option Str:=if l.take p.length=p then some (l.drop p.length)else none
def qou:Str:=[102,105,108,101,32]
def qot:Str:=[99,111,110,115,117,108,116,32]
def qor:Str:=[97,115,107,32]
def qqw:Str:=[101,110,100]
def qiN:List Str→Str→Option (Str × Nat)
 |[],_=>none
 |l::r,t=>if l=qqw then some (t,0)else (qiN r (t++(l++[10]))).map fun x=>(x.1,x.2+1)
def qnn(l:Str) (r:List Str):Option (Rq × Nat):=
 match qbT qou l with
 |some nm=>(qiN r []).map fun x=>(⟨3,nm,x.1⟩,x.2+1)
 |none=>match qbT qot l with
  |some nm=>some (⟨1,nm,[]⟩,0)
  |none=>match qbT qor l with
   |some t=>some (⟨2,[],t⟩,0)
   |none=>none
def qal:UInt8→Bool:=inB 97 122
def KZ(s:Str):Bool:=s.all qal&&decide (1≤(s.length:Int)∧(s.length:Int)≤8)
def okR(q:Rq):Bool:=
 if q.kind=1 then KZ q.name&&decide (q.text=[])
 else if q.kind=2 then decide (q.name=[])&&decide ((q.text.length:Int)≤3000)
 else if q.kind=3 then KZ q.name&&decide ((q.text.length:Int)≤3000)else false
def qkh(l:Str):Bool:=match l with|[]=>false|c::_=>decide (c=35)
def qp2(l:Str):Bool:=qjn 32 l||qkh l
def qdk:Nat→List Str→Nat→List Rq→List Rq × Int
 |0,_,_,out=>(out,0)
 |f+1,[],i,out=>(out,0)
 |f+1,l::r,i,out=>if qp2 l=true then qdk f r (i+1) out else match qnn l r with
  |none=>([],((i+1:Nat):Int))
  |some (q,n)=>if okR q=true∧out.length ≠ 20 then qdk f (r.drop n) (i+1+n) (out++[q])else ([],((i+1:Nat):Int))
def qEk(s:Str):List Rq × Int:=if 2500 < s.length then ([],-1)else qdk (s.length+2) (qcs [] s) 0 []
def qFW(L:List Str):Nat:=(L.map fun l=>l.length+1).sum
end Go.Vm
namespace Go.Vm
open Go.Lib (indexByte)
def qcO(s:Str) (i:Nat):Bool:=match i with
 |0=>true
 |j+1=> !zQ (s.getD j 0)
def K0:Option UInt8→Bool
 |none=>true
 |some d=>Qw d||isB 37 d
def QE(s:Str) (i:Nat) (c:UInt8):Bool:=isB 46 c&&(qcO s i&&K0 s[i+1]?)
theorem qen(d:UInt8):decide (0≤indexByte [32,9,10,37] d)=(Qw d||isB 37 d):=by
 have h:=qcl [32,9,10,37] d
 have e1:=KJ (c:=d) (d:=32)
 have e2:=KJ (c:=d) (d:=9)
 have e3:=KJ (c:=d) (d:=10)
 have e4:=KJ (c:=d) (d:=37)
 have f1:((32:UInt8).toNat:Int)=32:=rfl
 have f2:((9:UInt8).toNat:Int)=9:=rfl
 have f3:((10:UInt8).toNat:Int)=10:=rfl
 have f4:((37:UInt8).toNat:Int)=37:=rfl
 rw [f1]at e1;rw [f2]at e2;rw [f3]at e3;rw [f4]at e4
 unfold Qw isB
 rw [Bool.eq_iff_iff]
 simp only [decide_eq_true_eq,h,Bool.or_eq_true,e1,e2,e3,e4,List.mem_cons,List.not_mem_nil,or_false,or_assoc]
end Go.Vm
namespace Go.Vm
end Go.Vm
namespace Go.Vm
theorem ql4(s:Str) (hl:s.length≤2^40) (m:Nat): ∀ i,i+m=s.length→
 lw qh Ka ⟨[(0,S s),(3,I i)],[]⟩=if (s.drop i).all qal=true then some (.exit 0,⟨[(0,S s)],[]⟩)else some (.ret,⟨[(2,B false)],[]⟩):=by
 induction m with
 |zero=>
  intro i hi
  rw [List.drop_eq_nil_of_le (by omega),qq]
  have h: ¬ (i:Int) < s.length:=by omega
  simp only [go_sem,qa,qb,qc,qd,qe,qf,reduceCtorEq,Ks,h,List.all_nil,if_true]
 |succ m ih=>
  intro i hi
  have h:(i:Int) < s.length:=by omega
  obtain ⟨c,hc⟩:=z6 (l:=s) (i:=i) (by omega)
  have ix:=kz (l:=s) (i:=(i:Int)) (c:=c) (by omega) (by simpa using hc)
  have w:=qlZ c
  have e1:w64 ((i:Int)+1)=((i+1:Nat):Int):=by rw [qo]<;>omega
  have i1:=ih (i+1) (by omega)
  rw [QD hc,qq,List.all_cons]
  have hlow:qal c=inB 97 122 c:=rfl
  rw [hlow]
  cases hw:inB 97 122 c with
  |true=>
   rw [hw]at w
   rw [Bool.true_and]
   simp only [go_sem,qa,qb,qc,qd,qe,qf,reduceCtorEq,Ks,h,ix,w,e1]
   exact i1
  |false=>
   rw [hw]at w
   rw [Bool.false_and,if_neg (by decide)]
   simp only [go_sem,qa,qb,qc,qd,qe,qf,reduceCtorEq,Ks,h,ix,w,e1]
theorem qp7(s:Str) (hl:s.length≤2^40):cr qh qbq [S s]=some (B (KZ s)):=by
 have w:=qlU s.length 1 8
 have lp:=ql4 s hl s.length 0 (by omega)
 simp only [Int.natCast_zero,List.drop_zero]at lp
 rw [qF qom rfl]
 unfold KZ
 cases ha:s.all qal with
 |true=>rw [ha,if_pos rfl]at lp;simp only [go_sem,qa,qb,qc,qd,qe,qf,reduceCtorEq,Zd,w,lp,Bool.true_and]
 |false=>rw [ha,if_neg (by decide)]at lp;simp only [go_sem,qa,qb,qc,qd,qe,qf,reduceCtorEq,Zd,w,lp,Bool.false_and]
end Go.Vm
namespace Go.Vm
def bkP(k:Key) (i o n:Nat) (x:V) (ob:Option Ob):Mem:=
 match ob with
 |some ob=>if i=0∧o=0∧ob.1=n then [(k,n,[x])]else []
 |none=>[]
@[go_sem] theorem qt2 {T:Mem} {k:Key} {i o:Nat} {x:V}:yT T (.p k i o) (.b x)=bkP k i o x.cells.length x (qp T k):=by simp only [yT,bkP];cases qp T k<;>rfl
@[go_sem] theorem qu1 {k:Key} {i o n:Nat} {x:V} {e:Nat} {zs:List V}:bkP k i o n x (some (e,zs))=if i=0∧o=0∧e=n then [(k,n,[x])]else []:=(rfl)
end Go.Vm
namespace Go.Vm
theorem qem(a n:Int) (hn:0≤n): ∃ x,zt .shr (I a) (.v (.int .u64 n))=some (I x):=by
 refine ⟨a.fdiv (2 ^ (min n.toNat IntKind.i64.bits)), ?_⟩
 have:(Op.shift .shr .i64 a .u64 n).val? =some (.int .i64 (a.fdiv (2 ^ (min n.toNat IntKind.i64.bits)))):=by
  simp only [Op.shift,if_neg (show ¬ n < 0 by omega)];rfl
 exact congrArg (Option.map V.v) this
theorem qjw(a b:Int): ∃ x,zt .xor (I a) (I b)=some (I x):=⟨_,rfl⟩
theorem qju(a b:Int): ∃ x,zt .and (I a) (I b)=some (I x):=⟨_,rfl⟩
theorem qel(a:Int): ∃ x:Int,zt .and (I a) (I 255)=some (I x)∧0≤x∧x≤255:=by
 refine ⟨_,rfl, ?_⟩
 have h:(BitVec.ofInt 64 a&&& BitVec.ofInt 64 255).toNat≤255:=by
  rw [BitVec.toNat_and]
  exact Nat.le_trans Nat.and_le_right (by decide)
 show 0≤IntKind.i64.wrap ((BitVec.ofInt 64 a&&& BitVec.ofInt 64 255).toNat:Int)∧IntKind.i64.wrap ((BitVec.ofInt 64 a&&& BitVec.ofInt 64 255).toNat:Int)≤255
 generalize (BitVec.ofInt 64 a&&& BitVec.ofInt 64 255).toNat=m at h
 have:IntKind.i64.wrap (m:Int)=m:=qo (by omega) (by omega)
 rw [this];omega
@[go_sem] theorem qv4(l:List UInt8):qx (l.map qP)=true:=kq (fun _=>rfl) l
@[go_sem] theorem qz9(d:Nat) (l:List UInt8):qA d (l.map qP)=l.map qP:=kZ (fun _=>rfl) d l
@[go_sem] theorem qwY(τ:Bool) (l:List UInt8):qY τ (l.map qP)=l.map qP:=kW (fun _=>rfl) l
@[go_sem] theorem qCq(l:List UInt8):zg (l.map qP)=true:=yV (fun _=>rfl) l
def CU(bs:List UInt8) (i:Nat) (h:Int):V:= .b (.a [.i false (bs.map qP),I i,I h])
theorem qfn {bs:List UInt8} {i:Nat} {c:UInt8} (h:bs[i]? =some c):(bs.map qP)[i]? =some (U8 c.toNat):=by
 rw [List.getElem?_map,h];rfl
theorem qlX(bs:List UInt8) (hl:bs.length≤2^40) (m:Nat): ∀ (i:Nat) (h:Int),i+m=min bs.length 4000→
 ∃ h',lw qh X8 ⟨[(0,.i false (bs.map qP)),(3,I h),(4,I i)],[]⟩=some (.exit 0,⟨[(0,.i false (bs.map qP)),(3,I h')],[]⟩):=by
 induction m with
 |zero=>
  intro i h hi
  refine ⟨h, ?_⟩
  rw [qq]
  by_cases h1:(i:Int) < (bs.length:Int)
  ·have h2: ¬ (i:Int) < 4000:=by omega
   simp only [go_sem,qa,qb,qc,qd,qe,qf,reduceCtorEq,Kq,h1,h2,List.length_map]
  ·simp only [go_sem,qa,qb,qc,qd,qe,qf,reduceCtorEq,Kq,h1,List.length_map]
 |succ m ih=>
  intro i h hi
  have h1:(i:Int) < (bs.length:Int):=by omega
  have h2:(i:Int) < 4000:=by omega
  obtain ⟨c,hc⟩:=z6 (l:=bs) (i:=i) (by omega)
  have g:=qfn hc
  have a1:=fun T=>yX (τ:=false) (T:=T) (e:=1) g rfl
  have e1:w64 ((i:Int)+1)=((i+1:Nat):Int):=by rw [qo]<;>omega
  obtain ⟨x,hx⟩:=qju (w64 (w64 (w64 (h*131)+w64 c.toNat)+7)) 1073741823
  obtain ⟨h',hh⟩:=ih (i+1) x (by omega)
  refine ⟨h', ?_⟩
  rw [← hh,qq]
  simp only [go_sem,qa,qb,qc,qd,qe,qf,reduceCtorEq,Kq,h1,h2,g,a1,e1,hx,List.length_map]
theorem qlY(bs:List UInt8) (hl:bs.length≤2^40): ∃ h,cr qh qbl [.i false (bs.map qP)]=some (CU bs 0 h):=by
 obtain ⟨h',lp⟩:=qlX bs hl (min bs.length 4000) 0 (w64 (95101+(bs.length:Int))) (by omega)
 simp only [Int.natCast_zero]at lp
 refine ⟨h', ?_⟩
 rw [qF qog rfl]
 unfold CU
 simp only [go_sem,qa,qb,qc,qd,qe,qf,reduceCtorEq,Yh,lp,List.length_map]
theorem qlT(bs:List UInt8) (hl:bs.length≤2^40) (i:Nat) (h:Int) (hi:i≤bs.length):
 ∃ (i':Nat) (h' x:Int),cw qh Zi [CU bs i h]=some (I x,[CU bs i' h'])∧i'≤bs.length∧0≤x∧x≤255:=by
 obtain ⟨s1,h1⟩:=qem (w64 (w64 (h*6364136223846793005)+1442695040888963407)) 33 (by decide)
 obtain ⟨s2,h2⟩:=qem (w64 (w64 (h*6364136223846793005)+1442695040888963407)) 45 (by decide)
 obtain ⟨s3,h3⟩:=qjw s1 s2
 obtain ⟨x,h4,h5,h6⟩:=qel s3
 by_cases hlt:(i:Int) < (bs.length:Int)
 ·obtain ⟨c,hc⟩:=z6 (l:=bs) (i:=i) (by omega)
  have g:=qfn hc
  have a1:=fun T=>yX (τ:=false) (T:=T) (e:=1) g rfl
  have e1:w64 ((i:Int)+1)=((i+1:Nat):Int):=by rw [qo]<;>omega
  obtain ⟨y,k1,k2,k3⟩:=qel (w64 (x+w64 c.toNat))
  refine ⟨i+1,w64 (w64 (h*6364136223846793005)+1442695040888963407),y, ?_,by omega,k2,k3⟩
  rw [qZ qg9 rfl]
  unfold CU
  simp only [go_sem,qa,qb,qc,qd,qe,qf,reduceCtorEq,Zc,qC,h1,h2,h3,h4,hlt,g,a1,e1,k1,List.length_map]
 ·refine ⟨i,w64 (w64 (h*6364136223846793005)+1442695040888963407),x, ?_,hi,h5,h6⟩
  rw [qZ qg9 rfl]
  unfold CU
  simp only [go_sem,qa,qb,qc,qd,qe,qf,reduceCtorEq,Zc,qC,h1,h2,h3,h4,hlt,List.length_map]
end Go.Vm
namespace Go.Vm
theorem qqo(a n:Int) (ha:0≤a) (hn:0 < n):0≤a.tmod n∧a.tmod n < n:=⟨Int.tmod_nonneg n ha,Int.tmod_lt_of_pos a hn⟩
theorem jY(bs:List UInt8) (hl:bs.length≤2^40) (i:Nat) (h:Int) (hi:i≤bs.length) (n:Int) (hn:0 < n) (hn2:n≤256):
 ∃ (i':Nat) (h' x:Int),cw qh jP [CU bs i h,I n]=some (I x,[CU bs i' h',I n])∧i'≤bs.length∧0≤x∧x < n:=by
 obtain ⟨i1,h1,x1,b1,hi1,p1,q1⟩:=qlT bs hl i h hi
 obtain ⟨m1,m2⟩:=qqo x1 n p1 hn
 have br:=qjv (a:=x1) (b:=n) (by omega)
 have n0: ¬ n≤0:=by omega
 refine ⟨i1,h1,x1.tmod n, ?_,hi1,m1,m2⟩
 rw [qZ qod rfl]
 unfold CU at b1 ⊢
 simp only [go_sem,qa,qb,qc,qd,qe,qf,reduceCtorEq,Ye,qC,n0,hn2,b1,br]
theorem qcq(bs:List UInt8) (hl:bs.length≤2^40) (i:Nat) (h:Int) (hi:i≤bs.length) (n:Int) (hn:0 < n) (hn2:n≤256):
 ∃ (i':Nat) (h':Int) (b:Bool),cw qh XS [CU bs i h,I n]=some (B b,[CU bs i' h',I n])∧i'≤bs.length:=by
 obtain ⟨i1,h1,x1,b1,hi1,p1,q1⟩:=jY bs hl i h hi n hn hn2
 refine ⟨i1,h1,decide (x1=0), ?_,hi1⟩
 rw [qZ qoh rfl]
 unfold CU at b1 ⊢
 simp only [go_sem,qa,qb,qc,qd,qe,qf,reduceCtorEq,Yi,qC,b1]
theorem YM(bs:List UInt8) (hl:bs.length≤2^40) (i:Nat) (h:Int) (hi:i≤bs.length) (e:Nat) (ls:List Str) (h0:0 < ls.length) (h1:ls.length≤256):
 ∃ (i':Nat) (h':Int) (s:Str),cw qh Qk [CU bs i h,.o 1 (ls.map S)]=some (S s,[CU bs i' h',.o 1 (ls.map S)])∧i'≤bs.length∧s ∈ ls:=by
 obtain ⟨i1,h1',x1,b1,hi1,p1,q1⟩:=jY bs hl i h hi ls.length (by omega) (by omega)
 obtain ⟨k,rfl⟩: ∃ k:Nat,x1=k:=⟨x1.toNat,by omega⟩
 obtain ⟨s,hs⟩:=z6 (l:=ls) (i:=k) (by omega)
 have g:=yy (f:=S) hs
 have ix:=ky (k:=(1,0)) (e:=1) (xs:=ls.map S) (i:=k) (len:=ls.length) (by omega) (by simp)
 have tk:(ls.map S).take ls.length=ls.map S:=List.take_of_length_le (by simp)
 refine ⟨i1,h1',s, ?_,hi1,List.mem_of_getElem? hs⟩
 rw [qZ qoi rfl]
 unfold CU at b1 ⊢
 simp only [go_sem,qa,qb,qc,qd,qe,qf,reduceCtorEq,Yj,qC,b1,ix,g,tk,List.length_map]
end Go.Vm
namespace Go.Vm
def Zz:List Str:=[[112,40,97,41],[112,40,98,41],[112,40,99,41],[113,40,88,41,32,58,45,32,112,40,88,41],[113,40,122,41],[114,40,88,44,32,89,41,32,58,45,32,112,40,88,41,44,32,113,40,89,41],[97,112,112,40,91,93,44,32,76,44,32,76,41],[97,112,112,40,91,72,124,84,93,44,32,76,44,32,91,72,124,82,93,41,32,58,45,32,97,112,112,40,84,44,32,76,44,32,82,41],[108,101,110,40,91,93,44,32,48,41],[108,101,110,40,91,95,124,84,93,44,32,78,41,32,58,45,32,108,101,110,40,84,44,32,77,41,44,32,78,32,105,115,32,77,32,43,32,49],[115,40,88,41,32,58,45,32,112,40,88,41,44,32,33],[115,40,122,41],[116,40,88,41,32,58,45,32,40,112,40,88,41,32,45,62,32,116,114,117,101,32,59,32,88,32,61,32,110,111,110,101,41],[117,40,88,41,32,58,45,32,92,43,32,112,40,88,41],[119,40,88,41,32,58,45,32,112,40,88,41,44,32,119,114,105,116,101,40,88,41],[99,40,88,41,32,58,45,32,99,97,116,99,104,40,112,40,88,41,44,32,95,44,32,116,114,117,101,41],[101,40,88,41,32,58,45,32,99,97,116,99,104,40,116,104,114,111,119,40,88,41,44,32,89,44,32,119,114,105,116,101,40,89,41,41],[110,40,88,41,32,58,45,32,88,32,105,115,32,51,32,47,47,32,48],[109,40,88,41,32,58,45,32,99,97,116,99,104,40,110,40,88,41,44,32,101,114,114,111,114,40,69,44,32,95,41,44,32,40,88,32,61,32,69,41,41],[97,100,100,40,88,41,32,58,45,32,97,115,115,101,114,116,122,40,112,40,88,41,41],[100,101,108,40,88,41,32,58,45,32,114,101,116,114,97,99,116,40,112,40,88,41,41],[108,111,111,112,32,58,45,32,108,111,111,112],[118,40,88,41,32,58,45,32,99,97,108,108,40,112,44,32,88,41],[100,40,88,44,32,89,41,32,58,45,32,88,32,61,32,89,32,59,32,89,32,61,32,98],[103,40,102,40,88,41,44,32,88,41],[103,40,104,40,88,41,44,32,88,41],[103,40,49,44,32,111,110,101,41],[107,40,88,41,32,58,45,32,117,110,107,110,111,119,110,40,88,41],[121,40,88,41,32,58,45,32,112,40,88,41,44,32,97,115,115,101,114,116,122,40,112,40,100,41,41,44,32,88,32,61,32,98]]
def qtW:List Str:=[[112,40,88,41],[113,40,88,41],[114,40,88,44,32,89,41],[97,112,112,40,88,44,32,89,44,32,91,97,44,32,98,93,41],[108,101,110,40,91,97,44,32,98,93,44,32,78,41],[115,40,88,41],[116,40,88,41],[117,40,122,41],[119,40,88,41,44,32,102,97,105,108],[99,40,88,41],[101,40,98,97,108,108,41],[110,40,88,41],[109,40,88,41],[97,100,100,40,101,41,44,32,112,40,88,41],[100,101,108,40,88,41,44,32,112,40,89,41],[108,111,111,112],[118,40,88,41],[100,40,88,44,32,89,41],[103,40,104,40,97,41,44,32,89,41],[103,40,88,44,32,89,41],[107,40,49,41],[121,40,88,41],[88,32,61,32,102,40,88,41],[99,97,116,99,104,40,102,97,105,108,44,32,95,44,32,116,114,117,101,41],[40,112,40,88,41,44,32,33,32,59,32,113,40,88,41,41],[92,43,32,112,40,122,41],[119,114,105,116,101,40,88,41,44,32,88,32,61,32,49],[88],[51],[116,104,114,111,119,40,102,40,88,41,41],[99,97,116,99,104,40,112,40,88,41,44,32,95,44,32,116,114,117,101,41,44,32,116,104,114,111,119,40,120,41],[40,112,40,88,41,32,45,62,32,113,40,89,41,32,59,32,116,114,117,101,41],[99,97,108,108,40,97,112,112,40,91,97,93,41,44,32,88,44,32,89,41],[112,40,88,41,44,32,97,115,115,101,114,116,122,40,40,112,50,40,89,41,32,58,45,32,112,40,89,41,41,41,44,32,112,50,40,90,41],[97,116,111,109,40,88,41],[114,101,116,114,97,99,116,40,40,113,40,88,41,32,58,45,32,112,40,88,41,41,41],[88,32,61,61,32,88,44,32,88,32,92,61,32,97],[112,40,88,41,44,32,88,32,61,61,32,98],[97,112,112,40,88,44,32,91,99,124,89,93,44,32,90,41]]
theorem ql0:cr qh qbn []=some (.o 1 (Zz.map S)):=by
 rw [qF qok rfl]
 simp only [go_sem,qa,qb,qc,qd,qe,qf,reduceCtorEq,Yk]
 rfl
theorem qmE: ∀ s ∈ Zz,s.length≤60:=by decide
theorem ql5(bs:List UInt8) (hl:bs.length≤2^40) (ls:List Str) (h0:0 < ls.length) (h1:ls.length≤256) (hls: ∀ s ∈ ls,s.length≤60) (m:Nat): ∀ (i:Nat) (s:Str) (ci:Nat) (ch:Int),i+m=6→ci≤bs.length→s.length≤200*i→
 ∃ (ci':Nat) (ch':Int) (s':Str),lw qh Qp ⟨[(0,.p (0,0) 0 0),(3,S s),(4,.s (100000,0) 0 ls.length),(5,I i)],[((0,0),3,[.a [.i false (bs.map qP),I ci,I ch]]),((100000,0),1,ls.map S)]⟩=some (.exit 0,⟨[(0,.p (0,0) 0 0),(3,S s')],[((0,0),3,[.a [.i false (bs.map qP),I ci',I ch']]),((100000,0),1,ls.map S)]⟩)∧ci'≤bs.length∧s'.length≤1200:=by
 have tkl:(ls.map S).take ls.length=ls.map S:=List.take_of_length_le (by simp)
 induction m with
 |zero=>
  intro i s ci ch hi hc hs
  obtain ⟨c1,d1,x1,b1,q1,q2,q3⟩:=jY bs hl ci ch hc 6 (by decide) (by decide)
  refine ⟨c1,d1,s, ?_,q1,by omega⟩
  have hlt: ¬ (i:Int) < x1:=by omega
  unfold CU at b1
  rw [qq]
  simp only [go_sem,qa,qb,qc,qd,qe,qf,reduceCtorEq,kj,b1,hlt]
 |succ m ih=>
  intro i s ci ch hi hc hs
  obtain ⟨c1,d1,x1,b1,q1,q2,q3⟩:=jY bs hl ci ch hc 6 (by decide) (by decide)
  by_cases hlt:(i:Int) < x1
  case neg=>
   refine ⟨c1,d1,s, ?_,q1,by omega⟩
   unfold CU at b1
   rw [qq]
   simp only [go_sem,qa,qb,qc,qd,qe,qf,reduceCtorEq,kj,b1,hlt]
  obtain ⟨c2,d2,x2,b2,q4,q5,q6⟩:=jY bs hl c1 d1 q1 12 (by decide) (by decide)
  have e1:w64 ((i:Int)+1)=((i+1:Nat):Int):=by rw [qo]<;>omega
  have go: ∀ (c3:Nat) (d3:Int) (s3:Str),c3≤bs.length→s3.length≤s.length+200→lw qh Qp ⟨[(0,.p (0,0) 0 0),(3,S s),(4,.s (100000,0) 0 ls.length),(5,I i)],[((0,0),3,[.a [.i false (bs.map qP),I ci,I ch]]),((100000,0),1,ls.map S)]⟩=lw qh Qp ⟨[(0,.p (0,0) 0 0),(3,S s3),(4,.s (100000,0) 0 ls.length),(5,I ((i+1:Nat):Int))],[((0,0),3,[.a [.i false (bs.map qP),I c3,I d3]]),((100000,0),1,ls.map S)]⟩→
   ∃ (ci':Nat) (ch':Int) (s':Str),lw qh Qp ⟨[(0,.p (0,0) 0 0),(3,S s),(4,.s (100000,0) 0 ls.length),(5,I i)],[((0,0),3,[.a [.i false (bs.map qP),I ci,I ch]]),((100000,0),1,ls.map S)]⟩=some (.exit 0,⟨[(0,.p (0,0) 0 0),(3,S s')],[((0,0),3,[.a [.i false (bs.map qP),I ci',I ch']]),((100000,0),1,ls.map S)]⟩)∧ci'≤bs.length∧s'.length≤1200:=by
   intro c3 d3 s3 hc3 hs3 hst
   rw [hst]
   exact ih (i+1) s3 c3 d3 (by omega) hc3 (by omega)
  unfold CU at b1 b2
  by_cases k0:x2=0
  ·have a0:=kp (x:=s) (y:=[58,45,32,105,110,99,108,117,100,101,40,116,119,111,41,46,10]) (by simp only [List.length_cons,List.length_nil];omega)
   refine go c2 d2 (s++[58,45,32,105,110,99,108,117,100,101,40,116,119,111,41,46,10]) q4 (by simp only [List.length_append,List.length_cons,List.length_nil];omega) ?_
   rw [qq]
   simp only [go_sem,qa,qb,qc,qd,qe,qf,reduceCtorEq,kj,b1,b2,hlt,k0,a0,e1,Int.reduceEq]
  by_cases k1:x2=1
  ·obtain ⟨c3,d3,w,b3,q7,q8⟩:=YM bs hl c2 d2 q4 1 ls h0 h1
   have hw:=hls w q8
   unfold CU at b3
   have a0:=kp (x:=s) (y:=[58,45,32,105,102,40,112,40,97,41,41,46,10]) (by simp only [List.length_cons,List.length_nil];omega)
   have a1:=kp (x:=s++[58,45,32,105,102,40,112,40,97,41,41,46,10]) (y:=w) (by simp only [List.length_append,List.length_cons,List.length_nil];omega)
   have a2:=kp (x:=s++[58,45,32,105,102,40,112,40,97,41,41,46,10]++w) (y:=[46,10,58,45,32,101,108,115,101,46,10,122,40,49,41,46,10,58,45,32,101,110,100,105,102,46,10]) (by simp only [List.length_append,List.length_cons,List.length_nil];omega)
   refine go c3 d3 (s++[58,45,32,105,102,40,112,40,97,41,41,46,10]++w++[46,10,58,45,32,101,108,115,101,46,10,122,40,49,41,46,10,58,45,32,101,110,100,105,102,46,10]) q7 (by simp only [List.length_append,List.length_cons,List.length_nil];omega) ?_
   rw [qq]
   simp only [go_sem,qa,qb,qc,qd,qe,qf,reduceCtorEq,kj,b1,b2,b3,hlt,k1,a0,a1,a2,e1,Int.reduceEq,tkl]
  by_cases k2:x2=2
  ·have a0:=kp (x:=s) (y:=[58,45,32,111,112,101,110,40,47,40,111,44,32,49,41,41,46,10]) (by simp only [List.length_cons,List.length_nil];omega)
   refine go c2 d2 (s++[58,45,32,111,112,101,110,40,47,40,111,44,32,49,41,41,46,10]) q4 (by simp only [List.length_append,List.length_cons,List.length_nil];omega) ?_
   rw [qq]
   simp only [go_sem,qa,qb,qc,qd,qe,qf,reduceCtorEq,kj,b1,b2,hlt,k2,a0,e1,Int.reduceEq]
  by_cases k3:x2=3
  ·have a0:=kp (x:=s) (y:=[115,32,45,45,62,32,91,97,93,44,32,115,46,10,115,32,45,45,62,32,91,93,46,10]) (by simp only [List.length_cons,List.length_nil];omega)
   refine go c2 d2 (s++[115,32,45,45,62,32,91,97,93,44,32,115,46,10,115,32,45,45,62,32,91,93,46,10]) q4 (by simp only [List.length_append,List.length_cons,List.length_nil];omega) ?_
   rw [qq]
   simp only [go_sem,qa,qb,qc,qd,qe,qf,reduceCtorEq,kj,b1,b2,hlt,k3,a0,e1,Int.reduceEq]
  by_cases k4:x2=4
  ·have a0:=kp (x:=s) (y:=[101,120,112,97,110,100,40,111,108,100,40,88,41,44,32,112,40,88,41,41,46,10,111,108,100,40,107,41,46,10]) (by simp only [List.length_cons,List.length_nil];omega)
   refine go c2 d2 (s++[101,120,112,97,110,100,40,111,108,100,40,88,41,44,32,112,40,88,41,41,46,10,111,108,100,40,107,41,46,10]) q4 (by simp only [List.length_append,List.length_cons,List.length_nil];omega) ?_
   rw [qq]
   simp only [go_sem,qa,qb,qc,qd,qe,qf,reduceCtorEq,kj,b1,b2,hlt,k4,a0,e1,Int.reduceEq]
  by_cases k5:x2=5
  ·have a0:=kp (x:=s) (y:=[58,45,32,119,114,105,116,101,40,120,41,46,10,58,45,32,102,97,105,108,46,10]) (by simp only [List.length_cons,List.length_nil];omega)
   refine go c2 d2 (s++[58,45,32,119,114,105,116,101,40,120,41,46,10,58,45,32,102,97,105,108,46,10]) q4 (by simp only [List.length_append,List.length_cons,List.length_nil];omega) ?_
   rw [qq]
   simp only [go_sem,qa,qb,qc,qd,qe,qf,reduceCtorEq,kj,b1,b2,hlt,k5,a0,e1,Int.reduceEq]
  by_cases k6:x2=6
  ·obtain ⟨c3,d3,w,b3,q7,q8⟩:=YM bs hl c2 d2 q4 1 [[97,32,98,46,10],[58,45,32,101,108,115,101,46,10],[58,45,32,105,102,40,116,114,117,101,41,46,10],[58,45,32,101,110,100,105,102,46,10],[88,46,10],[116,114,117,101,46,10],[58,45,32,97,115,115,101,114,116,122,40,112,40,110,41,41,46,10],[58,45,32,105,110,99,108,117,100,101,40,110,111,110,101,41,46,10]] (by decide) (by decide)
   have hw:w.length≤60:=(show ∀ w ∈ ([[97,32,98,46,10],[58,45,32,101,108,115,101,46,10],[58,45,32,105,102,40,116,114,117,101,41,46,10],[58,45,32,101,110,100,105,102,46,10],[88,46,10],[116,114,117,101,46,10],[58,45,32,97,115,115,101,114,116,122,40,112,40,110,41,41,46,10],[58,45,32,105,110,99,108,117,100,101,40,110,111,110,101,41,46,10]]:List Str),w.length≤60 by decide) w q8
   unfold CU at b3
   simp only [List.map_cons,List.map_nil]at b3
   have a0:=kp (x:=s) (y:=w) (by omega)
   refine go c3 d3 (s++w) q7 (by simp only [List.length_append];omega) ?_
   rw [qq]
   simp only [go_sem,qa,qb,qc,qd,qe,qf,reduceCtorEq,kj,b1,b2,b3,hlt,k0,k1,k2,k3,k4,k5,k6,a0,e1,Int.reduceEq,tkl]
  ·obtain ⟨c3,d3,w,b3,q7,q8⟩:=YM bs hl c2 d2 q4 1 ls h0 h1
   have hw:=hls w q8
   unfold CU at b3
   have a0:=kp (x:=s) (y:=w) (by omega)
   have a1:=kp (x:=s++w) (y:=[46,10]) (by simp only [List.length_append,List.length_cons,List.length_nil];omega)
   refine go c3 d3 (s++w++[46,10]) q7 (by simp only [List.length_append,List.length_cons,List.length_nil];omega) ?_
   rw [qq]
   simp only [go_sem,qa,qb,qc,qd,qe,qf,reduceCtorEq,kj,b1,b2,b3,hlt,k0,k1,k2,k3,k4,k5,k6,a0,a1,e1,Int.reduceEq,tkl]
theorem ql6(bs:List UInt8) (hl:bs.length≤2^40) (ci:Nat) (ch:Int) (hc:ci≤bs.length):
 ∃ (ci':Nat) (ch':Int) (s:Str),cw qh qbr [CU bs ci ch]=some (S s,[CU bs ci' ch'])∧ci'≤bs.length∧s.length≤1200:=by
 obtain ⟨c1,d1,s,lp,q1,q2⟩:=ql5 bs hl Zz (by decide) (by decide) qmE 6 0 [] ci ch (by omega) hc (by simp)
 have l8:=ql0
 have tkl:(Zz.map S).take Zz.length=Zz.map S:=List.take_of_length_le (by simp)
 simp only [Int.natCast_zero]at lp
 refine ⟨c1,d1,s, ?_,q1,q2⟩
 generalize Zz=ls at*
 rw [qZ qon rfl]
 unfold CU
 simp only [go_sem,qa,qb,qc,qd,qe,qf,reduceCtorEq,Ym,qC,l8,lp,tkl,List.length_map]
end Go.Vm
namespace Go.Vm
def qu4(q:Rq):Prop:=q.name.length≤60∧q.text.length≤1300
end Go.Vm
namespace Go.Vm
@[go_sem] theorem qjA: ∀ l:List UInt8,x6 (l.map qP)=some l
 |[]=>rfl
 |c::l=>by
  show (match x6 (l.map qP)with|some l=>some (UInt8.ofNat ((c.toNat:Nat):Int).toNat::l)|none=>none)=_
  rw [qjA l];simp
@[go_sem] theorem qv6(n:Nat) (k:Int):qx (List.replicate n (U8 k))=true:=YE n _ rfl
theorem qlV(n:Nat) (hn:n≤2^20) (m:Nat): ∀ i:Nat,i+m=n→
 lw qh X7 ⟨[(0,I n),(1,U8 32),(5,.s (100000,0) 0 n),(6,I i)],[((100000,0),1,(List.replicate i (32:UInt8)).map qP++List.replicate m (U8 0))]⟩=some (.exit 0,⟨[(5,.s (100000,0) 0 n)],[((100000,0),1,(List.replicate n (32:UInt8)).map qP)]⟩):=by
 induction m with
 |zero=>
  intro i hi
  obtain rfl:i=n:=by omega
  have h: ¬ (i:Int) < (i:Int):=by omega
  rw [List.replicate_zero,List.append_nil,qq]
  simp only [go_sem,qa,qb,qc,qd,qe,qf,reduceCtorEq,JP,h]
 |succ m ih=>
  intro i hi
  have h:(i:Int) < (n:Int):=by omega
  have e1:w64 ((i:Int)+1)=((i+1:Nat):Int):=by rw [qo]<;>omega
  have ix:=ky (k:=(100000,0)) (e:=1) (xs:=(List.replicate i (32:UInt8)).map qP++U8 0::List.replicate m (U8 0)) (i:=i) (len:=n) (by omega) (by simp;omega)
  have cg:=fun y zs=>qbI ((List.replicate i (32:UInt8)).map qP) y zs i (by simp)
  have cs:=fun y y' zs=>qbJ ((List.replicate i (32:UInt8)).map qP) y y' zs i (by simp)
  have er:(List.replicate (i+1) (32:UInt8)).map qP++List.replicate m (U8 0)=(List.replicate i (32:UInt8)).map qP++U8 32::List.replicate m (U8 0):=by
   rw [List.replicate_succ',List.map_append,List.append_assoc];rfl
  have i1:=ih (i+1) (by omega)
  rw [er]at i1
  rw [← i1,List.replicate_succ,qq]
  simp only [go_sem,qa,qb,qc,qd,qe,qf,reduceCtorEq,JP,h,e1,ix,cg,cs]
theorem qlW(n:Nat) (hn:n≤2^20):cr qh qbk [I n,U8 32]=some (S (List.replicate n 32)):=by
 have lp:=qlV n hn n 0 (by omega)
 simp only [Int.natCast_zero,List.replicate_zero,List.map_nil,List.nil_append]at lp
 have mk:=fun σ T=>qm7 (σ:=σ) (T:=T) (e:=1) (bytes:=1) (z:=U8 0) (n:=n) (d:=8) (by rw [zu];omega) (by rw [zu];omega) rfl rfl rfl
 have tk:((List.replicate n (32:UInt8)).map qP).take n=(List.replicate n (32:UInt8)).map qP:=List.take_of_length_le (by simp)
 rw [qF qof rfl]
 simp only [go_sem,qa,qb,qc,qd,qe,qf,reduceCtorEq,Yg,mk,lp,tk,List.length_map,List.length_replicate]
end Go.Vm
set_option maxHeartbeats 8000000
namespace Go.Vm
theorem zL(k:Int) (s:Str) (n:Int):oT (.mk k s n [])= .a [I k,S s,I n,.o 4 []]:=rfl
theorem qkC(n:Int):cr qh qbe [I n]=some (oT (.mk 1 [] n [])):=by
 rw [qF qn0 rfl,zL]
 simp only [go_sem,qa,qb,qc,qd,qe,qf,reduceCtorEq,Z7]
theorem qfC(n:Int):cr qh JB [I n]=some (oT (.mk 3 [] n [])):=by
 rw [qF qnP rfl,zL]
 simp only [go_sem,qa,qb,qc,qd,qe,qf,reduceCtorEq,Z2]
theorem J6(s:Str):cr qh Yq [S s]=some (oT (.mk 2 s 0 [])):=by
 rw [qF qnG rfl,zL]
 simp only [go_sem,qa,qb,qc,qd,qe,qf,reduceCtorEq,Z0]
theorem ZG(s:Str) (ks:List Tm):oT (.mk 4 s 0 ks)= .a [I 4,S s,I 0,.o 4 (ks.map oT)]:=by rw [qH];rfl
theorem qdu(s:Str) (ks:List Tm):cw qh jO [S s,.o 4 (ks.map oT)]=some (oT (.mk 4 s 0 ks),[S s,.d]):=by
 rw [qqg s (ks.map oT) (YD ks),ZG]
def dT(t:Tm):V:= .a [I t.kind,S t.name,I t.num,.d]
end Go.Vm
namespace Go.Vm
open Go.Lib (indexByte)
theorem qj5(s:Str) (hl:s.length≤2^61) (i:Nat) (c:UInt8) (hc:s[i]? =some c):cr qh qbb [S s,I i]=some (B (QE s i c)):=by
 have hi:i < s.length:=(List.getElem?_eq_some_iff.1 hc).1
 have ix:=kz (l:=s) (i:=(i:Int)) (c:=c) (by omega) (by simpa using hc)
 have e1:w64 ((i:Int)+1)=((i+1:Nat):Int):=by rw [qo]<;>omega
 rw [qF qnH rfl]
 unfold QE
 cases h46:isB 46 c with
 |false=>
  unfold isB at h46
  simp only [go_sem,qa,qb,qc,qd,qe,qf,reduceCtorEq,kM,ix,h46,Bool.false_and]
 |true=>
 unfold isB at h46
 have hnext: ∀ (b:Bool),True:=fun _=>trivial
 cases i with
 |zero=>
  rw [qcO,Bool.true_and,Bool.true_and]
  have z:w64 ((0:Int)+1)=1:=rfl
  by_cases hn:s.length=1
  ·have d:decide ((1:Int)=s.length)=true:=decide_eq_true (by omega)
   have:s[0+1]? =none:=List.getElem?_eq_none (by omega)
   rw [this,K0]
   simp only [Int.natCast_zero]at ix
   simp only [go_sem,qa,qb,qc,qd,qe,qf,reduceCtorEq,kM,ix,h46,z,d]
  ·have d:decide ((1:Int)=s.length)=false:=decide_eq_false (by omega)
   obtain ⟨n,hnx⟩:=z6 (l:=s) (i:=0+1) (by omega)
   have ix2:=kz (l:=s) (i:=(1:Int)) (c:=n) (by omega) (by simpa using hnx)
   have bl:=J0 [32,9,10,37] n
   have bd:=qen n
   rw [hnx,K0]
   simp only [Int.natCast_zero]at ix
   rw [← bd]
   simp only [go_sem,qa,qb,qc,qd,qe,qf,reduceCtorEq,kM,ix,h46,z,d,ix2,bl]
 |succ j=>
  obtain ⟨q,hq⟩:=z6 (l:=s) (i:=j) (by omega)
  have ix0:=kz (l:=s) (i:=(j:Int)) (c:=q) (by omega) (by simpa using hq)
  have e0:w64 (((j+1:Nat):Int) - 1)=(j:Int):=by rw [qo]<;>omega
  have dz:(0:Int) < ((j+1:Nat):Int):=by omega
  have sy:=qcf q
  have hg:s.getD j 0=q:=by rw [List.getD_eq_getElem?_getD,hq];rfl
  rw [qcO,hg]
  cases hs:zQ q with
  |true=>rw [hs]at sy;simp only [go_sem,qa,qb,qc,qd,qe,qf,reduceCtorEq,kM,ix,h46,dz,e0,ix0,sy,Bool.not_true,Bool.false_and,Bool.true_and]
  |false=>
  rw [hs]at sy
  rw [Bool.not_false,Bool.true_and,Bool.true_and]
  by_cases hn:s.length=j+1+1
  ·have d:decide (((j+1+1:Nat):Int)=s.length)=true:=decide_eq_true (by omega)
   have:s[j+1+1]? =none:=List.getElem?_eq_none (by omega)
   rw [this,K0]
   simp only [go_sem,qa,qb,qc,qd,qe,qf,reduceCtorEq,kM,ix,h46,dz,e0,ix0,sy,e1,d]
  ·have d:decide (((j+1+1:Nat):Int)=s.length)=false:=decide_eq_false (by omega)
   obtain ⟨n,hnx⟩:=z6 (l:=s) (i:=j+1+1) (by omega)
   have ix2:=kz (l:=s) (i:=((j+1+1:Nat):Int)) (c:=n) (by omega) (by rw [Int.toNat_natCast];exact hnx)
   have bl:=J0 [32,9,10,37] n
   have bd:=qen n
   rw [hnx,K0]
   rw [← bd]
   simp only [go_sem,qa,qb,qc,qd,qe,qf,reduceCtorEq,kM,ix,h46,dz,e0,ix0,sy,e1,d,ix2,bl]
end Go.Vm
namespace Go.Vm
structure Sg where
 kind:Int
 text:Str
 num:Int
 at_:Int
 near:Bool
def Sg.v(x:Sg):V:= .a [I x.kind,S x.text,I x.num,I x.at_,B x.near]
def zN(s:Str) (i j:Nat):Str:=(s.take j).drop i
def bad(s:Str) (i:Nat):Sg × Nat:=(⟨6,zN s i (i+1),0,i,false⟩,i+1)
def nf:Str→Int→Int
 |[],a=>a
 |d::r,a=>if (inB 48 57 d&&decide (a≤999999999))=true then nf r (10*a+d.toNat - 48)else a
def nk:Str→Int→Nat
 |[],a=>0
 |d::r,a=>if (inB 48 57 d&&decide (a≤999999999))=true then nk r (10*a+d.toNat - 48)+1 else 0
theorem qgv: ∀ (s:Str) (a:Int),0≤a→a≤9999999999→0≤nf s a∧nf s a≤9999999999
 |[],a,h0,h1=>⟨h0,h1⟩
 |d::r,a,h0,h1=>by
  simp only [nf]
  split
  ·rename_i h
   simp only [inB,Bool.and_eq_true,decide_eq_true_eq]at h
   exact qgv r _ (by omega) (by omega)
  ·exact ⟨h0,h1⟩
def QO:Str→Option Nat
 |[]=>none
 |c::r=>if isB 39 c=true then some 0 else (QO r).map (· +1)
def QP(r:Str):Option Nat:=match QO r with
 |some m=>if jw (r.take m)=true then some m else none
 |none=>none
def sgn(s:Str) (i:Nat) (c:UInt8):Sg × Nat:=
 if (inB 97 122 c||y5 c)=true then
  if pre yR (s.drop i)≤20 then (⟨if y5 c=true then 2 else 1,zN s i (i+pre yR (s.drop i)),0,i,false⟩,i+pre yR (s.drop i))else bad s i
 else if inB 48 57 c=true then
  if nf (s.drop i) 0≤999999999 then (⟨3,[],nf (s.drop i) 0,i,false⟩,i+pre (inB 48 57) (s.drop i))else bad s i
 else if isB 39 c=true then
  match QP (s.drop (i+1))with
  |some m=>(⟨1,zN s (i+1) (i+1+m),0,i,false⟩,i+1+m+1)
  |none=>bad s i
 else if (isB 33 c||isB 59 c)=true then (⟨1,zN s i (i+1),0,i,false⟩,i+1)
 else if (isB 40 c||isB 41 c||isB 91 c||isB 93 c||isB 44 c||isB 124 c)=true then (⟨4,zN s i (i+1),0,i,false⟩,i+1)
 else if QE s i c=true then (⟨5,zN s i (i+1),0,i,false⟩,i+1)
 else if zQ c=true then
  if pre zQ (s.drop i)≤20 then (⟨1,zN s i (i+pre zQ (s.drop i)),0,i,false⟩,i+pre zQ (s.drop i))else bad s i
 else bad s i
end Go.Vm
namespace Go.Vm
structure Op3 where
 prio:Int
 left:Int
 right:Int
def qV(s:Str):Op3:=
 if s=[58,45]∨s=[45,45,62]then ⟨1200,1199,1199⟩
 else if s=[59]then ⟨1100,1099,1100⟩
 else if s=[45,62]then ⟨1050,1049,1050⟩
 else if s=[44]then ⟨1000,999,1000⟩
 else if s=[61]∨s=[92,61]∨s=[61,61]∨s=[105,115]∨s=[60]∨s=[61,58,61]then ⟨700,699,699⟩
 else if s=[43]∨s=[45]then ⟨500,500,499⟩
 else if s=[42]∨s=[47,47]then ⟨400,400,399⟩
 else ⟨0,0,0⟩
def opV(s:Str):V:= .t [.a [S (if (qV s).prio=0 then []else s),I (qV s).prio,I (qV s).left,I (qV s).right],B (decide ((qV s).prio ≠ 0))]
set_option maxHeartbeats 2000000 in
theorem x7(s:Str):cr qh Jw [S s]=some (opV s):=by
 rw [qF qnz rfl]
 by_cases h1:s=[58,45]
 ·subst h1;simp (decide:=true) only [go_sem,qa,qb,qc,qd,qe,qf,reduceCtorEq,yh];rfl
 by_cases h2:s=[45,45,62]
 ·subst h2;simp (decide:=true) only [go_sem,qa,qb,qc,qd,qe,qf,reduceCtorEq,yh];rfl
 by_cases h3:s=[59]
 ·subst h3;simp (decide:=true) only [go_sem,qa,qb,qc,qd,qe,qf,reduceCtorEq,yh];rfl
 by_cases h4:s=[45,62]
 ·subst h4;simp (decide:=true) only [go_sem,qa,qb,qc,qd,qe,qf,reduceCtorEq,yh];rfl
 by_cases h5:s=[44]
 ·subst h5;simp (decide:=true) only [go_sem,qa,qb,qc,qd,qe,qf,reduceCtorEq,yh];rfl
 by_cases h6:s=[61]
 ·subst h6;simp (decide:=true) only [go_sem,qa,qb,qc,qd,qe,qf,reduceCtorEq,yh];rfl
 by_cases h7:s=[92,61]
 ·subst h7;simp (decide:=true) only [go_sem,qa,qb,qc,qd,qe,qf,reduceCtorEq,yh];rfl
 by_cases h8:s=[61,61]
 ·subst h8;simp (decide:=true) only [go_sem,qa,qb,qc,qd,qe,qf,reduceCtorEq,yh];rfl
 by_cases h9:s=[105,115]
 ·subst h9;simp (decide:=true) only [go_sem,qa,qb,qc,qd,qe,qf,reduceCtorEq,yh];rfl
 by_cases h10:s=[60]
 ·subst h10;simp (decide:=true) only [go_sem,qa,qb,qc,qd,qe,qf,reduceCtorEq,yh];rfl
 by_cases h11:s=[61,58,61]
 ·subst h11;simp (decide:=true) only [go_sem,qa,qb,qc,qd,qe,qf,reduceCtorEq,yh];rfl
 by_cases h12:s=[43]
 ·subst h12;simp (decide:=true) only [go_sem,qa,qb,qc,qd,qe,qf,reduceCtorEq,yh];rfl
 by_cases h13:s=[45]
 ·subst h13;simp (decide:=true) only [go_sem,qa,qb,qc,qd,qe,qf,reduceCtorEq,yh];rfl
 by_cases h14:s=[42]
 ·subst h14;simp (decide:=true) only [go_sem,qa,qb,qc,qd,qe,qf,reduceCtorEq,yh];rfl
 by_cases h15:s=[47,47]
 ·subst h15;simp (decide:=true) only [go_sem,qa,qb,qc,qd,qe,qf,reduceCtorEq,yh];rfl
 simp only [go_sem,qa,qb,qc,qd,qe,qf,reduceCtorEq,yh,h1,h2,h3,h4,h5,h6,h7,h8,h9,h10,h11,h12,h13,h14,h15]
 simp [opV,qV,h1,h2,h3,h4,h5,h6,h7,h8,h9,h10,h11,h12,h13,h14,h15]
def qcP(t:Tm):Int:=if t.kind=4∧t.kids.length=2 then (qV t.name).prio else 0
end Go.Vm
namespace Go.Vm
open Go.Lib (itoa join)
def Sg.near'(x:Sg) (b:Bool):Sg:={x with near:=b}
def sgs(s:Str):Nat→Nat→List Sg
 |0,_=>[]
 |n+1,i=>match s[i]? with
  |none=>[]
  |some c=>
   if Qw c=true then sgs s n (i+1)
   else if isB 37 c=true then sgs s n (i+pre (fun d=> !isB 10 d) (s.drop i))
   else (sgn s i c).1.near' (decide (s[(sgn s i c).2]? =some 40))::sgs s n (sgn s i c).2
def ke(s:Str):List Sg:=sgs s s.length 0
theorem j2 {p:UInt8→Bool} {s:Str} {i:Nat} (h:i≤s.length):i+pre p (s.drop i)≤s.length:=by
 have:=qhh p (s.drop i)
 rw [List.length_drop]at this
 omega
theorem K8 {p:UInt8→Bool} {s:Str} {i:Nat} {c:UInt8} (hc:s[i]? =some c) (h:p c=true):1≤pre p (s.drop i):=by
 rw [QD hc,pre,if_pos h];omega
theorem qcV: ∀ {r:Str} {m:Nat},QO r=some m→m < r.length
 |[],m,h=>by cases h
 |c::r,m,h=>by
  simp only [QO]at h
  split at h
  ·cases h;simp
  ·rw [Option.map_eq_some_iff]at h
   obtain ⟨k,hk,rfl⟩:=h
   have:=qcV hk
   simp only [List.length_cons];omega
theorem qoO {r:Str} {m:Nat} (h:QP r=some m):m < r.length∧jw (r.take m)=true:=by
 unfold QP at h
 split at h
 ·rename_i k hk
  split at h
  ·rename_i h2;cases h;exact ⟨qcV hk,h2⟩
  ·cases h
 ·cases h
theorem qiu(s:Str) (i:Nat) (c:UInt8) (hc:s[i]? =some c):i < (sgn s i c).2∧(sgn s i c).2≤s.length:=by
 have hi:i < s.length:=(List.getElem?_eq_some_iff.1 hc).1
 have hb:i < (bad s i).2∧(bad s i).2≤s.length:=⟨Nat.lt_succ_self i,hi⟩
 unfold sgn
 split
 ·rename_i h
  split
  ·have h1:=j2 (p:=yR) (s:=s) (i:=i) (by omega)
   have h2:1≤pre yR (s.drop i):=K8 hc (by unfold yR;rw [h,Bool.true_or])
   exact ⟨by show i < i+_;omega,h1⟩
  ·exact hb
 split
 ·rename_i h
  split
  ·have h1:=j2 (p:=inB 48 57) (s:=s) (i:=i) (by omega)
   have h2:1≤pre (inB 48 57) (s.drop i):=K8 hc h
   exact ⟨by show i < i+_;omega,h1⟩
  ·exact hb
 split
 ·cases hq:QP (s.drop (i+1))with
  |none=>exact hb
  |some m=>
   have:=(qoO hq).1
   rw [List.length_drop]at this
   exact ⟨by show i < i+1+m+1;omega,by show i+1+m+1≤_;omega⟩
 split
 ·exact ⟨Nat.lt_succ_self i,hi⟩
 split
 ·exact ⟨Nat.lt_succ_self i,hi⟩
 split
 ·exact ⟨Nat.lt_succ_self i,hi⟩
 split
 ·rename_i h
  split
  ·have h1:=j2 (p:=zQ) (s:=s) (i:=i) (by omega)
   have h2:1≤pre zQ (s.drop i):=K8 hc h
   exact ⟨by show i < i+_;omega,h1⟩
  ·exact hb
 ·exact hb
theorem qaU(s:Str): ∀ (n i:Nat),(sgs s n i).length≤n
 |0,i=>Nat.le_refl _
 |n+1,i=>by
  simp only [sgs]
  split
  ·simp
  ·rename_i c hc
   split
   ·have:=qaU s n (i+1);omega
   split
   ·have:=qaU s n (i+pre (fun d=> !isB 10 d) (s.drop i));omega
   ·have:=qaU s n (sgn s i c).2
    simp only [List.length_cons];omega
theorem qpZ(s:Str): ∀ (n i:Nat),s.length≤i→sgs s n i=[]
 |0,i,_=>rfl
 |n+1,i,h=>by simp only [sgs,List.getElem?_eq_none h]
def qho(s:Str):Str:=[39]++s++[39]
def JT(s:Str):Str:=match ke s with
 |[x]=>if x.kind=1∧x.text=s then s else qho s
 |_=>qho s
def zB(s:Str):Op3:=
 if s=[58,45]then ⟨1200,0,1199⟩else if s=[92,43]then ⟨900,0,900⟩else if s=[45]then ⟨200,0,200⟩else ⟨0,0,0⟩
def xN(s:Str):V:= .t [.a [S (if (zB s).prio=0 then []else s),I (zB s).prio,I (zB s).left,I (zB s).right],B (decide ((zB s).prio ≠ 0))]
def qkH(s:Str):Bool:=decide ((qV s).prio ≠ 0)||decide ((zB s).prio ≠ 0)
def qiv(s:Str):Str:=if s=[44]then [44]else JT s
def z7(p:Bool) (most prio:Int) (s:Str):Str:=if p=true∧most < prio then [40]++s++[41]else s
structure Kd where
 raw:Str
 rest:Str
 prio:Int
def qFA(p:Bool):List Kd→Option (Kd × Kd)
 |[a,b]=>some (a,b)
 |_=>none
def qfi(p:Bool) (s:Str) (ks:List Kd):Str:=JT s++[40]++join (ks.map fun k=>z7 p 999 k.prio k.raw) [44]++[41]
def qkG(p:Bool) (s:Str) (a b:Kd):Str:=
 if p=true then z7 true (qV s).left a.prio a.raw++[32]++qiv s++[32]++z7 true (qV s).right b.prio b.raw
 else [40]++a.raw++[32]++qiv s++[32]++b.raw++[41]
def qhM(p:Bool) (k:Int) (s:Str) (n:Int) (ks:List Kd):Str:=
 if k=1 then [95]++itoa n
 else if k=3 then itoa n
 else if k=2 then (if s=[91,93]then [91,93]else if qkH s=true then [40]++JT s++[41]else JT s)
 else match ks with
  |[a,b]=>if s=[46]then [91]++z7 p 999 a.prio a.raw++b.rest else if (qV s).prio ≠ 0 then qkG p s a b else qfi p s ks
  |_=>qfi p s ks
def qpf(p:Bool) (k:Int) (s:Str) (prio:Int) (ks:List Kd) (raw:Str):Str:=
 if k=2∧s=[91,93]then [93]
 else match ks with
  |[a,b]=>if k=4∧s=[46]then [44]++z7 p 999 a.prio a.raw++b.rest else [124]++z7 p 999 prio raw++[93]
  |_=>[124]++z7 p 999 prio raw++[93]
mutual
def wk(p:Bool):Tm→Kd
 | .mk k s n ks=>⟨qhM p k s n (wks p ks),qpf p k s (qcP (.mk k s n ks)) (wks p ks) (qhM p k s n (wks p ks)),qcP (.mk k s n ks)⟩
def wks(p:Bool):List Tm→List Kd
 |[]=>[]
 |t::ts=>wk p t::wks p ts
end
def wr(p:Bool) (t:Tm):Str:=(wk p t).raw
def wrR(p:Bool) (t:Tm):Str:=(wk p t).rest
def held(p:Bool) (m:Int) (t:Tm):Str:=z7 p m (qcP t) (wr p t)
end Go.Vm
namespace Go.Vm
theorem Jp(s:Str) (a b:Nat) (h:a≤b) (hb:b≤s.length):Jo (S s) (some (I a)) (some (I b))=some (S (zN s a b)):=by
 have h1:Qx 0 (some (I a))=some (a:Int):=rfl
 have h2:Qx s.length (some (I b))=some (b:Int):=rfl
 rw [qqb h1 h2 (by omega) (by omega) (by omega)]
 rfl
def qEj(s:Str) (i:Nat):Int:=match QP (s.drop (i+1))with
 |some k=>((i+1+k+1:Nat):Int)
 |none=>0
end Go.Vm
namespace Go.Vm
open Go.Lib (indexByte)
theorem qdw {s:Str} {i:Nat} {c:UInt8} (hc:s[i]? =some c):zN s i (i+1)=[c]:=by
 unfold zN
 rw [List.drop_take,QD hc,Nat.add_sub_cancel_left]
 rfl
theorem qdv {s:Str} {i n:Nat} (h:i+n≤s.length):(zN s i (i+n)).length=n:=by
 unfold zN;simp only [List.length_drop,List.length_take];omega
theorem xI {n:Nat} {c:UInt8} (h:isB n c=true):c=UInt8.ofNat n:=by
 unfold isB at h
 have h1:(c.toNat:Int)=n:=of_decide_eq_true h
 have h2:c.toNat=n:=by omega
 rw [← h2];simp
theorem qiE {c:UInt8} (h:zQ c=true):(inB 97 122 c||y5 c)=false∧inB 48 57 c=false∧isB 39 c=false∧(isB 33 c||isB 59 c)=false∧(isB 40 c||isB 41 c||isB 91 c||isB 93 c||isB 44 c||isB 124 c)=false:=by
 unfold zQ at h
 have h1:c ∈ ZR:=of_decide_eq_true h
 have h2:ZR.all (fun c=> !(inB 97 122 c||y5 c)&& !inB 48 57 c&& !isB 39 c&& !(isB 33 c||isB 59 c)&& !(isB 40 c||isB 41 c||isB 91 c||isB 93 c||isB 44 c||isB 124 c))=true:=by decide
 have h3:=List.all_eq_true.1 h2 c h1
 simp only [Bool.and_eq_true,Bool.not_eq_true']at h3
 exact ⟨h3.1.1.1.1,h3.1.1.1.2,h3.1.1.2,h3.1.2,h3.2⟩
theorem qj4 {s:Str} {i:Nat} {c:UInt8} (h:QE s i c=true):c=46∧zQ c=true:=by
 unfold QE at h
 simp only [Bool.and_eq_true]at h
 have:c=46:=xI (n:=46) h.1
 subst this
 exact ⟨rfl,by decide⟩
def qdp(s:Str) (i:Nat) (c:UInt8):Sg × Nat:=
 if QE s i c=true then (⟨5,[46],0,i,false⟩,i+1)
 else if (inB 97 122 c||y5 c)=true then
  if pre yR (s.drop i)≤20 then (⟨if y5 c=true then 2 else 1,zN s i (i+pre yR (s.drop i)),0,i,false⟩,i+pre yR (s.drop i))else bad s i
 else if inB 48 57 c=true then
  if nf (s.drop i) 0≤999999999 then (⟨3,[],nf (s.drop i) 0,i,false⟩,i+pre (inB 48 57) (s.drop i))else bad s i
 else if zQ c=true then
  if pre zQ (s.drop i)≤20 then (⟨1,zN s i (i+pre zQ (s.drop i)),0,i,false⟩,i+pre zQ (s.drop i))else bad s i
 else if (isB 33 c||isB 59 c)=true then (⟨1,zN s i (i+1),0,i,false⟩,i+1)
 else if (isB 40 c||isB 41 c||isB 91 c||isB 93 c||isB 44 c||isB 124 c)=true then (⟨4,zN s i (i+1),0,i,false⟩,i+1)
 else if isB 39 c=true then
  match QP (s.drop (i+1))with
  |some m=>(⟨1,zN s (i+1) (i+1+m),0,i,false⟩,i+1+m+1)
  |none=>bad s i
 else bad s i
theorem qpY {s:Str} {i:Nat} {c:UInt8} (hc:s[i]? =some c):sgn s i c=qdp s i c:=by
 unfold sgn qdp
 by_cases hE:QE s i c=true
 ·obtain ⟨h46,hs⟩:=qj4 hE
  obtain ⟨h1,h2,h3,h4,h5⟩:=qiE hs
  rw [h1,h2,h3,h4,h5,if_pos hE,if_pos hE,qdw hc,h46]
  rfl
 rw [if_neg hE,if_neg hE]
 by_cases hY:zQ c=true
 ·obtain ⟨h1,h2,h3,h4,h5⟩:=qiE hY
  rw [h1,h2,h3,h4,h5,if_pos hY,if_pos hY]
  rfl
 rw [if_neg hY,if_neg hY]
 by_cases h1:(inB 97 122 c||y5 c)=true
 ·rw [if_pos h1,if_pos h1]
 rw [if_neg h1,if_neg h1]
 by_cases h2:inB 48 57 c=true
 ·rw [if_pos h2,if_pos h2]
 rw [if_neg h2,if_neg h2]
 by_cases h3:isB 39 c=true
 ·have:=xI (n:=39) h3
  subst this
  rw [if_pos (show isB 39 (UInt8.ofNat 39)=true by decide)]
  rfl
 ·rw [if_neg h3,if_neg h3]
theorem qhp: ∀ (r:Str),r[pre zG r]? =some 39→QO r=some (pre zG r)∧jz (r.take (pre zG r))=true
 |[],h=>by simp at h
 |c::r,h=>by
  simp only [pre]at h ⊢
  by_cases hc:zG c=true
  ·rw [if_pos hc]at h ⊢
   rw [List.getElem?_cons_succ]at h
   obtain ⟨h1,h2⟩:=qhp r h
   have h3:isB 39 c=false:=by
    cases hi:isB 39 c with
    |false=>rfl
    |true=>have:=xI (n:=39) hi;subst this;cases hc
   refine ⟨by simp only [QO,h3,h1,Bool.false_eq_true,if_false,Option.map_some], ?_⟩
   unfold jz at h2 ⊢
   rw [List.take_succ_cons,List.all_cons,hc,h2];rfl
  ·rw [if_neg hc]at h ⊢
   simp only [List.getElem?_cons_zero,Option.some.injEq]at h
   subst h
   exact ⟨rfl,rfl⟩
theorem qhi: ∀ (r:Str) (k:Nat),QO r=some k→jz (r.take k)=true→pre zG r=k∧r[k]? =some 39
 |[],k,h,_=>by cases h
 |c::r,k,h,h2=>by
  simp only [QO]at h
  split at h
  ·rename_i h3
   cases h
   have:=xI (n:=39) h3
   subst this
   exact ⟨rfl,rfl⟩
  ·rw [Option.map_eq_some_iff]at h
   obtain ⟨m,hm,rfl⟩:=h
   unfold jz at h2
   rw [List.take_succ_cons,List.all_cons,Bool.and_eq_true]at h2
   obtain ⟨h4,h5⟩:=qhi r m hm h2.2
   refine ⟨by simp only [pre,h2.1,if_true,h4],by rw [List.getElem?_cons_succ];exact h5⟩
theorem qoP(r:Str):QP r=if r[pre zG r]? =some 39∧1≤pre zG r∧pre zG r≤20 then some (pre zG r)else none:=by
 have hl: ∀ k,k < r.length→(r.take k).length=k:=fun k h=>by rw [List.length_take];omega
 unfold QP
 by_cases h:r[pre zG r]? =some 39
 ·obtain ⟨h1,h2⟩:=qhp r h
  have h3:=hl _ (qcV h1)
  rw [h1]
  simp only [jw,h2,Bool.true_and,decide_eq_true_eq,h3,h,true_and]
 ·rw [if_neg fun h'=>h h'.1]
  split
  ·rename_i k hk
   split
   ·rename_i hn
    unfold jw at hn
    rw [Bool.and_eq_true]at hn
    obtain ⟨h4,h5⟩:=qhi r k hk hn.1
    rw [h4]at h
    exact absurd h5 h
   ·rfl
  ·rfl
theorem qm5(c:UInt8):decide (0≤indexByte [40,41,91,93,44,124] c)=(isB 40 c||isB 41 c||isB 91 c||isB 93 c||isB 44 c||isB 124 c):=by
 have h:=qcl [40,41,91,93,44,124] c
 have e: ∀ n:Nat,n < 256→(isB n c=true↔c=UInt8.ofNat n):=fun n hn=>⟨xI,by
  rintro rfl
  unfold isB
  refine decide_eq_true ?_
  rw [UInt8.toNat_ofNat']
  omega⟩
 have e40:=e 40 (by decide)
 have e41:=e 41 (by decide)
 have e91:=e 91 (by decide)
 have e93:=e 93 (by decide)
 have e44:=e 44 (by decide)
 have e124:=e 124 (by decide)
 rw [Bool.eq_iff_iff,decide_eq_true_iff,h]
 simp only [Bool.or_eq_true]
 simp only [Int.cast_ofNat_Int]at e40 e41 e91 e93 e44 e124
 rw [e40,e41,e91,e93,e44,e124]
 simp only [List.mem_cons,List.not_mem_nil,or_false,or_assoc]
 rfl
theorem qm3 {c:UInt8} (h:inB 97 122 c=true):y5 c=false:=by
 unfold inB at h
 simp only [Bool.and_eq_true,decide_eq_true_eq]at h
 unfold y5 inB isB
 simp only [Bool.or_eq_false_iff,Bool.and_eq_false_iff,decide_eq_false_iff_not]
 omega
end Go.Vm
namespace Go.Vm
end Go.Vm
namespace Go.Vm
open Go.Lib (indexByte)
theorem qkk(s:Str) (hl:s.length≤2^61) (i:Nat) (e:Nat) (he:e≤s.length) (m:Nat): ∀ (n:Nat) (a:Int),n+m=e→n+pre (inB 48 57) (s.drop n)=e→0≤a→a≤9999999999→
 lw qh XW ⟨[(0,S s),(1,I i),(4,.p (100000,0) 0 0),(7,.p (100000,1) 0 0),(8,I e),(9,I a),(10,I n)],[((100000,0),5,[.a [I 0,S [],I 0,I 0,B false]]),((100000,1),5,[.a [I 0,S [],I 0,I i,B false]])]⟩=some (.exit 1,⟨[(0,S s),(1,I i),(4,.p (100000,0) 0 0),(7,.p (100000,1) 0 0),(8,I e),(9,I (nf (s.drop n) a))],[((100000,0),5,[.a [I 0,S [],I 0,I 0,B false]]),((100000,1),5,[.a [I 0,S [],I 0,I i,B false]])]⟩):=by
 induction m with
 |zero=>
  intro n a hn hp h0 h1
  have h: ¬ (n:Int) < e:=by omega
  have hz:pre (inB 48 57) (s.drop n)=0:=by omega
  have hnf:nf (s.drop n) a=a:=by
   cases hd:s.drop n with
   |nil=>rfl
   |cons c r=>
    rw [hd,pre]at hz
    have hc:inB 48 57 c=false:=by
     cases hc:inB 48 57 c with
     |false=>rfl
     |true=>rw [hc,if_pos rfl]at hz;omega
    rw [nf,hc,Bool.false_and,if_neg (by decide)]
  rw [hnf,qq]
  simp only [go_sem,qa,qb,qc,qd,qe,qf,reduceCtorEq,Kg,h]
 |succ m ih=>
  intro n a hn hp h0 h1
  have h:(n:Int) < e:=by omega
  obtain ⟨c,hc⟩:=z6 (l:=s) (i:=n) (by omega)
  have ix:=kz (l:=s) (i:=(n:Int)) (c:=c) (by omega) (by simpa using hc)
  have e1:w64 ((n:Int)+1)=((n+1:Nat):Int):=by rw [qo]<;>omega
  rw [QD hc,pre]at hp
  have hw:inB 48 57 c=true:=by
   cases hw:inB 48 57 c with
   |true=>rfl
   |false=>rw [hw,if_neg (by decide)]at hp;omega
  rw [hw,if_pos rfl]at hp
  rw [QD hc,qq,nf,hw]
  simp only [inB,Bool.and_eq_true,decide_eq_true_eq]at hw
  by_cases ha:a≤999999999
  ·have da:decide (a≤999999999)=true:=decide_eq_true ha
   have i1:=ih (n+1) (10*a+c.toNat - 48) (by omega) (by omega) (by omega) (by omega)
   have e3:w64 (10*a)=10*a:=by rw [qo]<;>omega
   have e4:IntKind.u8.wrap ((c.toNat:Int) - 48)=c.toNat - 48:=by
    have:((c.toNat:Int) - 48) % 256=c.toNat - 48:=by omega
    exact this
   have e5:w64 ((c.toNat:Int) - 48)=c.toNat - 48:=by rw [qo]<;>omega
   have e6:w64 (10*a+((c.toNat:Int) - 48))=10*a+c.toNat - 48:=by rw [qo]<;>omega
   have u8s:zt .sub (U8 c.toNat) (U8 48)=some (U8 (IntKind.u8.wrap ((c.toNat:Int) - 48))):=rfl
   rw [da,Bool.and_self,if_pos rfl]
   simp only [go_sem,qa,qb,qc,qd,qe,qf,reduceCtorEq,Kg,h,ix,e1,da,ha,u8s,e3,e4,e5,e6]
   exact i1
  ·have da:decide (a≤999999999)=false:=decide_eq_false ha
   rw [da,Bool.and_false,if_neg (by decide)]
   simp only [go_sem,qa,qb,qc,qd,qe,qf,reduceCtorEq,Kg,h,ix,e1,da,ha]
theorem qnd(c:UInt8):cr qh JA [U8 c.toNat]=some (B (zG c)):=by
 have hc:=UInt8.toNat_lt c
 have hw:w64 (c.toNat:Int)=c.toNat:=by rw [qo]<;>omega
 have hin:=kL c.toNat 33 126
 rw [qF qnO rfl]
 rcases qgS c with ⟨h0,h1,h2,h3,h4⟩|⟨h0,h1|⟨h1,h2|⟨h2,h3|⟨h3,h4⟩⟩⟩⟩
 ·rw [decide_eq_true (show (33:Int)≤c.toNat∧(c.toNat:Int)≤126 by omega)]at hin
  simp only [go_sem,qa,qb,qc,qd,qe,qf,reduceCtorEq,jd,hw,hin,h3,h4,h0]
 ·rw [decide_eq_false (show ¬ ((33:Int)≤c.toNat∧(c.toNat:Int)≤126)by omega)]at hin
  simp only [go_sem,qa,qb,qc,qd,qe,qf,reduceCtorEq,jd,hw,hin,h0]
 ·rw [decide_eq_false (show ¬ ((33:Int)≤c.toNat∧(c.toNat:Int)≤126)by omega)]at hin
  simp only [go_sem,qa,qb,qc,qd,qe,qf,reduceCtorEq,jd,hw,hin,h0]
 ·rw [decide_eq_true (show (33:Int)≤c.toNat∧(c.toNat:Int)≤126 by omega)]at hin
  simp only [go_sem,qa,qb,qc,qd,qe,qf,reduceCtorEq,jd,hw,hin,h3,h0]
 ·rw [decide_eq_true (show (33:Int)≤c.toNat∧(c.toNat:Int)≤126 by omega)]at hin
  simp only [go_sem,qa,qb,qc,qd,qe,qf,reduceCtorEq,jd,hw,hin,h3,h4,h0]
theorem qne(s:Str) (hl:s.length≤2^61) (i:Nat) (c:UInt8) (hc:s[i]? =some c):
 cr qh qbc [S s,I i]=some (.t [(sgn s i c).1.v,I (sgn s i c).2]):=by
 have hi:i < s.length:=(List.getElem?_eq_some_iff.1 hc).1
 have ix:=kz (l:=s) (i:=(i:Int)) (c:=c) (by omega) (by simpa using hc)
 have e1:w64 ((i:Int)+1)=((i+1:Nat):Int):=by rw [qo]<;>omega
 have sl:=Jp s i (i+1) (by omega) (by omega)
 have ln:((zN s i (i+1)).length:Int)=1:=by rw [qdv (by omega)];rfl
 have cS:=qfB c
 have cG:=qfG c
 have cF:=qcg c
 have cY:=qcf c
 have cE:=qj5 s hl i c hc
 have cX:=J0 [40,41,91,93,44,124] c
 have cM:=qm5 c
 rw [qpY hc,qF qnN rfl]
 unfold qdp
 cases hE:QE s i c with
 |true=>
  rw [hE]at cE
  rw [if_pos rfl]
  simp only [go_sem,qa,qb,qc,qd,qe,qf,reduceCtorEq,zV,ix,e1,cE,Int.reduceEq,Int.reduceLT,Int.reduceNe,decide_true,decide_false,Sg.v]
 |false=>
 rw [hE]at cE
 rw [if_neg (by decide)]
 by_cases hw:(inB 97 122 c||y5 c)=true
 ·have hr:=Jl yR JE qkD s hl i (by omega)
  have hp:=j2 (p:=yR) (s:=s) (i:=i) (by omega)
  have sl2:=Jp s i (i+pre yR (s.drop i)) (by omega) hp
  have ln2:=qdv (s:=s) (i:=i) (n:=pre yR (s.drop i)) hp
  rw [if_pos hw]
  by_cases h20:pre yR (s.drop i)≤20
  ·have h20': ¬ (20:Int) < ((pre yR (s.drop i):Nat):Int):=by omega
   rw [if_pos h20]
   cases hS:inB 97 122 c with
   |true=>
    rw [hS]at cS
    rw [qm3 hS]
    simp only [go_sem,qa,qb,qc,qd,qe,qf,reduceCtorEq,zV,ix,e1,cE,cS,hr,sl2,ln2,h20',Int.reduceEq,Int.reduceLT,Int.reduceNe,decide_true,decide_false,Sg.v]
   |false=>
    rw [hS]at cS
    rw [hS,Bool.false_or]at hw
    rw [hw]
    unfold y5 isB at hw
    cases hU:inB 65 90 c with
    |true=>rw [hU]at cG;simp only [go_sem,qa,qb,qc,qd,qe,qf,reduceCtorEq,zV,ix,e1,cE,cS,cG,hr,sl2,ln2,h20',Int.reduceEq,Int.reduceLT,Int.reduceNe,decide_true,decide_false,Sg.v]
    |false=>
     rw [hU]at cG
     rw [hU,Bool.false_or]at hw
     simp only [go_sem,qa,qb,qc,qd,qe,qf,reduceCtorEq,zV,ix,e1,cE,cS,cG,hw,hr,sl2,ln2,h20',Int.reduceEq,Int.reduceLT,Int.reduceNe,decide_true,decide_false,Sg.v]
  ·have h20':(20:Int) < ((pre yR (s.drop i):Nat):Int):=by omega
   rw [if_neg h20]
   cases hS:inB 97 122 c with
   |true=>
    rw [hS]at cS
    simp only [go_sem,qa,qb,qc,qd,qe,qf,reduceCtorEq,zV,ix,e1,cE,cS,hr,sl,sl2,ln2,h20',Int.reduceEq,Int.reduceLT,Int.reduceNe,decide_true,decide_false,Sg.v,bad]
   |false=>
    rw [hS]at cS
    rw [hS,Bool.false_or]at hw
    unfold y5 isB at hw
    cases hU:inB 65 90 c with
    |true=>rw [hU]at cG;simp only [go_sem,qa,qb,qc,qd,qe,qf,reduceCtorEq,zV,ix,e1,cE,cS,cG,hr,sl,sl2,ln2,h20',Int.reduceEq,Int.reduceLT,Int.reduceNe,decide_true,decide_false,Sg.v,bad]
    |false=>
     rw [hU]at cG
     rw [hU,Bool.false_or]at hw
     simp only [go_sem,qa,qb,qc,qd,qe,qf,reduceCtorEq,zV,ix,e1,cE,cS,cG,hw,hr,sl,sl2,ln2,h20',Int.reduceEq,Int.reduceLT,Int.reduceNe,decide_true,decide_false,Sg.v,bad]
 have hw':=hw
 unfold y5 isB at hw'
 simp only [Bool.not_eq_true,Bool.or_eq_false_iff]at hw'
 obtain ⟨hS,hU,h95⟩:=hw'
 rw [hS]at cS
 rw [hU]at cG
 rw [if_neg hw]
 by_cases hF:inB 48 57 c=true
 ·rw [hF]at cF
  rw [if_pos hF]
  have hr:=Jl (inB 48 57) Yr qcg s hl i (by omega)
  have hp:=j2 (p:=inB 48 57) (s:=s) (i:=i) (by omega)
  have sl2:=Jp s i (i+pre (inB 48 57) (s.drop i)) (by omega) hp
  have h:=qkk s hl i (i+pre (inB 48 57) (s.drop i)) hp (pre (inB 48 57) (s.drop i)) i 0 (by omega) rfl (by decide) (by decide)
  by_cases hn:nf (s.drop i) 0≤999999999
  ·rw [if_pos hn]
   simp only [go_sem,qa,qb,qc,qd,qe,qf,reduceCtorEq,zV,ix,e1,cE,cS,cG,h95,cF,hr,h,hn,Int.reduceEq,Int.reduceLT,Int.reduceNe,decide_true,decide_false,Sg.v]
  ·rw [if_neg hn]
   simp only [go_sem,qa,qb,qc,qd,qe,qf,reduceCtorEq,zV,ix,e1,sl,cE,cS,cG,h95,cF,hr,h,hn,sl2,Int.reduceEq,Int.reduceLT,Int.reduceNe,decide_true,decide_false,Sg.v,bad]
 have hF':inB 48 57 c=false:=by simpa using hF
 rw [hF']at cF
 rw [if_neg hF]
 cases hY:zQ c with
 |true=>
  rw [hY]at cY
  rw [if_pos rfl]
  have hr:=Jl zQ Yp qcf s hl i (by omega)
  have hp:=j2 (p:=zQ) (s:=s) (i:=i) (by omega)
  have sl2:=Jp s i (i+pre zQ (s.drop i)) (by omega) hp
  have ln2:=qdv (s:=s) (i:=i) (n:=pre zQ (s.drop i)) hp
  by_cases h20:pre zQ (s.drop i)≤20
  ·have h20': ¬ (20:Int) < ((pre zQ (s.drop i):Nat):Int):=by omega
   rw [if_pos h20]
   simp only [go_sem,qa,qb,qc,qd,qe,qf,reduceCtorEq,zV,ix,e1,cE,cS,cG,h95,cF,cY,hr,sl2,ln2,h20',Int.reduceEq,Int.reduceLT,Int.reduceNe,decide_true,decide_false,Sg.v]
  ·have h20':(20:Int) < ((pre zQ (s.drop i):Nat):Int):=by omega
   rw [if_neg h20]
   simp only [go_sem,qa,qb,qc,qd,qe,qf,reduceCtorEq,zV,ix,e1,cE,cS,cG,h95,cF,cY,hr,sl,sl2,ln2,h20',Int.reduceEq,Int.reduceLT,Int.reduceNe,decide_true,decide_false,Sg.v,bad]
 |false=>
 rw [hY]at cY
 rw [if_neg (by decide)]
 by_cases hA:(isB 33 c||isB 59 c)=true
 ·rw [if_pos hA]
  cases h33:decide ((c.toNat:Int)=33)with
  |true=>simp only [go_sem,qa,qb,qc,qd,qe,qf,reduceCtorEq,zV,ix,e1,cE,cS,cG,h95,cF,cY,h33,sl,ln,Int.reduceEq,Int.reduceLT,Int.reduceNe,decide_true,decide_false,Sg.v]
  |false=>
   have h59:decide ((c.toNat:Int)=59)=true:=by unfold isB at hA;rw [h33]at hA;exact hA
   simp only [go_sem,qa,qb,qc,qd,qe,qf,reduceCtorEq,zV,ix,e1,cE,cS,cG,h95,cF,cY,h33,h59,sl,ln,Int.reduceEq,Int.reduceLT,Int.reduceNe,decide_true,decide_false,Sg.v]
 have hA':=hA
 unfold isB at hA'
 simp only [Bool.not_eq_true,Bool.or_eq_false_iff]at hA'
 have h33:=hA'.1
 have h59:=hA'.2
 rw [if_neg hA]
 cases hM:(isB 40 c||isB 41 c||isB 91 c||isB 93 c||isB 44 c||isB 124 c)with
 |true=>
  rw [hM]at cM
  rw [if_pos rfl]
  simp only [go_sem,qa,qb,qc,qd,qe,qf,reduceCtorEq,zV,ix,e1,cE,cS,cG,h95,cF,cY,h33,h59,cX,cM,sl,ln,Int.reduceEq,Int.reduceLT,Int.reduceNe,decide_true,decide_false,Sg.v]
 |false=>
 rw [hM]at cM
 rw [if_neg (by decide)]
 cases h39:isB 39 c with
 |false=>
  unfold isB at h39
  rw [if_neg (by decide)]
  simp only [go_sem,qa,qb,qc,qd,qe,qf,reduceCtorEq,zV,ix,e1,cE,cS,cG,h95,cF,cY,h33,h59,cX,cM,h39,sl,ln,Int.reduceEq,Int.reduceLT,Int.reduceNe,decide_true,decide_false,Sg.v,bad]
 |true=>
 unfold isB at h39
 rw [if_pos rfl]
 have hr:=Jl zG JA qnd s hl (i+1) (by omega)
 have hp:=j2 (p:=zG) (s:=s) (i:=i+1) (by omega)
 have hin:=kL (pre zG (s.drop (i+1)):Nat) 1 20
 have e2:w64 (((i+1+pre zG (s.drop (i+1)):Nat):Int) - i)=((1+pre zG (s.drop (i+1)):Nat):Int):=by rw [qo]<;>omega
 have e3:w64 (((1+pre zG (s.drop (i+1)):Nat):Int) - 1)=((pre zG (s.drop (i+1)):Nat):Int):=by rw [qo]<;>omega
 have e4:w64 (((i+1+pre zG (s.drop (i+1)):Nat):Int)+1)=((i+1+pre zG (s.drop (i+1))+1:Nat):Int):=by rw [qo]<;>omega
 have sl2:=Jp s (i+1) (i+1+pre zG (s.drop (i+1))) (by omega) hp
 rw [qoP]
 have hget:(s.drop (i+1))[pre zG (s.drop (i+1))]? =s[i+1+pre zG (s.drop (i+1))]? :=by rw [List.getElem?_drop]
 rw [hget]
 generalize hm:pre zG (s.drop (i+1))=m at*
 by_cases hlt:i+1+m < s.length
 ·have hlt':((i+1+m:Nat):Int) < s.length:=by omega
  obtain ⟨d,hd⟩:=z6 (l:=s) (i:=i+1+m) hlt
  have ix2:=kz (l:=s) (i:=((i+1+m:Nat):Int)) (c:=d) (by omega) (by rw [Int.toNat_natCast];exact hd)
  rw [hd]
  cases hd39:isB 39 d with
  |true=>
   have hdd:=xI (n:=39) hd39
   unfold isB at hd39
   have hsm:(some d=some (39:UInt8))=True:=eq_true (by rw [hdd];rfl)
   simp only [hsm,true_and]
   by_cases hk:1≤m∧m≤20
   ·rw [decide_eq_true (show (1:Int)≤(m:Int)∧(m:Int)≤20 by omega)]at hin
    rw [if_pos hk]
    simp only [go_sem,qa,qb,qc,qd,qe,qf,reduceCtorEq,zV,ix,e1,cE,cS,cG,h95,cF,cY,h33,h59,cX,cM,h39,hr,hlt',ix2,hd39,e2,e3,hin,sl2,e4,Int.reduceEq,Int.reduceLT,Int.reduceNe,decide_true,decide_false,Sg.v]
   ·rw [decide_eq_false (show ¬ ((1:Int)≤(m:Int)∧(m:Int)≤20)by omega)]at hin
    rw [if_neg hk]
    simp only [go_sem,qa,qb,qc,qd,qe,qf,reduceCtorEq,zV,ix,e1,cE,cS,cG,h95,cF,cY,h33,h59,cX,cM,h39,hr,hlt',ix2,hd39,e2,e3,hin,sl,ln,Int.reduceEq,Int.reduceLT,Int.reduceNe,decide_true,decide_false,Sg.v,bad]
  |false=>
   have hne: ¬ (some d=some (39:UInt8)):=by
    intro e
    cases e
    cases hd39
   unfold isB at hd39
   rw [if_neg fun h=>hne h.1]
   simp only [go_sem,qa,qb,qc,qd,qe,qf,reduceCtorEq,zV,ix,e1,cE,cS,cG,h95,cF,cY,h33,h59,cX,cM,h39,hr,hlt',ix2,hd39,sl,ln,Int.reduceEq,Int.reduceLT,Int.reduceNe,decide_true,decide_false,Sg.v,bad]
 ·have hlt': ¬ ((i+1+m:Nat):Int) < s.length:=by omega
  have hno:s[i+1+m]? =none:=List.getElem?_eq_none (by omega)
  rw [hno,if_neg (by rintro ⟨h,-⟩;cases h)]
  simp only [go_sem,qa,qb,qc,qd,qe,qf,reduceCtorEq,zV,ix,e1,cE,cS,cG,h95,cF,cY,h33,h59,cX,cM,h39,hr,hlt',sl,ln,Int.reduceEq,Int.reduceLT,Int.reduceNe,decide_true,decide_false,Sg.v,bad]
end Go.Vm
namespace Go.Vm
section
variable {l:List Sg} {τ:Bool}
@[go_sem] theorem qeG:qx (l.map Sg.v)=true:=kq (fun _=>rfl) l
@[go_sem] theorem qz8(d:Nat):qA d (l.map Sg.v)=l.map Sg.v:=kZ (fun _=>rfl) d l
@[go_sem] theorem qwX:qY τ (l.map Sg.v)=l.map Sg.v:=kW (fun _=>rfl) l
@[go_sem] theorem qCp:zg (l.map Sg.v)=true:=yV (fun _=>rfl) l
@[go_sem] theorem qA4(m:Nat) (T:Mem):qv (ze m) T (l.map Sg.v)=(l.map Sg.v,T):=kA m T _ qeG
@[go_sem] theorem qE5(k:Key) (ob:Ob):zx k ob (l.map Sg.v)=none:=j3 k ob _ qeG
@[go_sem] theorem qFN {a n p:Int} {t:Str} {b:Bool}:l.map Sg.v++[.a [I a,S t,I n,I p,B b]]=(l++[Sg.mk a t n p b]).map Sg.v:=by simp [Sg.v]
end
theorem qje(c:UInt8):cr qh Jx [U8 c.toNat]=some (B (!isB 10 c)):=by
 rw [qF qnD rfl]
 unfold isB
 cases h:decide ((c.toNat:Int)=10)<;>simp only [go_sem,qa,qb,qc,qd,qe,qf,reduceCtorEq,ZY,h]
theorem qnb {s:Str} {e:Nat} (h:e < s.length) (hl:s.length≤3000): ∃ d,ixV (S s) (I e)=some (U8 (d:UInt8).toNat)∧decide ((d.toNat:Int)=40)=decide (s[e]? =some 40):=by
 obtain ⟨d,hd⟩:=z6 (l:=s) (i:=e) h
 refine ⟨d,kz (by omega) (by simpa using hd), ?_⟩
 rw [hd]
 refine decide_eq_decide.2 ?_
 have:=KJ (c:=d) (d:=40)
 rw [show (((40:UInt8).toNat:Nat):Int)=40 from rfl]at this
 rw [this]
 simp
theorem qkn(s:Str) (hl:s.length≤3000): ∀ n i (acc:List Sg),s.length≤i+n→i≤s.length→acc.length≤i→
 lw qh XV ⟨[(0,S s),(4,.s (100000,0) 0 acc.length),(5,I i)],[((100000,0),5,acc.map Sg.v)]⟩=
  some (.exit 0,⟨[(4,.s (100000,0) 0 (acc.length+(sgs s n i).length))],[((100000,0),5,(acc++sgs s n i).map Sg.v)]⟩):=by
 intro n
 induction n with
 |zero=>
  intro i acc h1 h2 h3
  have h: ¬ (i:Int) < s.length:=by omega
  rw [sgs,List.append_nil,List.length_nil,Nat.add_zero,qq]
  simp only [go_sem,qa,qb,qc,qd,qe,qf,reduceCtorEq,ji,h]
 |succ n ih=>
  intro i acc h1 h2 h3
  rw [qq]
  by_cases hlt:i < s.length
  ·have h:(i:Int) < s.length:=by omega
   obtain ⟨c,hc⟩:=z6 (l:=s) (i:=i) hlt
   have ix:=kz (l:=s) (i:=(i:Int)) (c:=c) (by omega) (by simpa using hc)
   have e1:w64 ((i:Int)+1)=((i+1:Nat):Int):=by rw [qo]<;>omega
   simp only [sgs,hc]
   by_cases hb:Qw c=true
   ·have i1:=ih (i+1) acc (by omega) (by omega) (by omega)
    rw [if_pos hb]
    unfold Qw isB at hb
    cases d32:decide ((c.toNat:Int)=32)with
    |true=>simp only [go_sem,qa,qb,qc,qd,qe,qf,reduceCtorEq,ji,h,ix,d32,e1];exact i1
    |false=>
    cases d9:decide ((c.toNat:Int)=9)with
    |true=>simp only [go_sem,qa,qb,qc,qd,qe,qf,reduceCtorEq,ji,h,ix,d32,d9,e1];exact i1
    |false=>
    rw [d32,d9]at hb
    have d10:decide ((c.toNat:Int)=10)=true:=hb
    simp only [go_sem,qa,qb,qc,qd,qe,qf,reduceCtorEq,ji,h,ix,d32,d9,d10,e1];exact i1
   rw [if_neg hb]
   unfold Qw isB at hb
   simp only [Bool.not_eq_true,Bool.or_eq_false_iff]at hb
   obtain ⟨⟨d32,d9⟩,d10⟩:=hb
   cases h37:isB 37 c with
   |true=>
    have hp:=j2 (p:=fun d=> !isB 10 d) (s:=s) (i:=i) (by omega)
    have hp1:1≤pre (fun d=> !isB 10 d) (s.drop i):=K8 hc (by have:=xI (n:=37) h37;subst this;rfl)
    have i1:=ih (i+pre (fun d=> !isB 10 d) (s.drop i)) acc (by omega) (by omega) (by omega)
    have cm:=Jl (fun d=> !isB 10 d) Jx qje s (by omega) i (by omega)
    unfold isB at h37
    rw [if_pos rfl]
    simp only [go_sem,qa,qb,qc,qd,qe,qf,reduceCtorEq,ji,h,ix,d32,d9,d10,h37,cm]
    exact i1
   |false=>
   unfold isB at h37
   rw [if_neg (by decide)]
   have sg:=qne s (by omega) i c hc
   obtain ⟨g1,g2⟩:=qiu s i c hc
   have i1:=ih (sgn s i c).2 (acc++[(sgn s i c).1.near' (decide (s[(sgn s i c).2]? =some 40))]) (by omega) g2 (by simp only [List.length_append,List.length_cons,List.length_nil];omega)
   have l1:decide ((acc.length+1)*48≤lim)=true:=decide_eq_true (by rw [zu];omega)
   have l2:decide (acc.length+1≤lim)=true:=decide_eq_true (by rw [zu];omega)
   have ea:acc.length+((sgs s n (sgn s i c).2).length+1)=acc.length+1+(sgs s n (sgn s i c).2).length:=by omega
   rw [List.append_assoc,List.singleton_append]at i1
   unfold Sg.near' at i1
   rw [Sg.v]at sg
   by_cases hn:(sgn s i c).2 < s.length
   ·have hn':(((sgn s i c).2:Nat):Int) < s.length:=by omega
    obtain ⟨d,ix2,hd⟩:=qnb hn hl
    rw [← hd]at i1 ⊢
    simp only [go_sem,qa,qb,qc,qd,qe,qf,reduceCtorEq,ji,h,ix,d32,d9,d10,h37,sg,hn',ix2,l1,l2,List.length_cons,List.length_nil,ea,Sg.near']at i1 ⊢
    exact i1
   ·have hn': ¬ (((sgn s i c).2:Nat):Int) < s.length:=by omega
    have hno:s[(sgn s i c).2]? =none:=List.getElem?_eq_none (by omega)
    have hf:decide (s[(sgn s i c).2]? =some 40)=false:=by rw [hno];rfl
    rw [hf]at i1 ⊢
    simp only [go_sem,qa,qb,qc,qd,qe,qf,reduceCtorEq,ji,h,ix,d32,d9,d10,h37,sg,hn',l1,l2,List.length_cons,List.length_nil,ea,Sg.near']at i1 ⊢
    exact i1
  ·have h: ¬ (i:Int) < s.length:=by omega
   rw [qpZ s _ i (by omega),List.append_nil,List.length_nil,Nat.add_zero]
   simp only [go_sem,qa,qb,qc,qd,qe,qf,reduceCtorEq,ji,h]
def qdq(s:Str):V:=if s.length≤3000 then .t [.o 5 ((ke s).map Sg.v),B true]else .t [.o 5 [],B false]
theorem qko(s:Str):cr qh qa9 [S s]=some (qdq s):=by
 rw [qF qnC rfl]
 unfold qdq
 by_cases h:s.length≤3000
 ·have h': ¬ (3000:Int) < s.length:=by omega
  have hlp:=qkn s h s.length 0 [] (by omega) (by omega) (Nat.le_refl _)
  simp only [List.nil_append,List.length_nil,List.map_nil,Int.natCast_zero,Nat.zero_add]at hlp
  rw [if_pos h]
  unfold ke
  simp only [go_sem,qa,qb,qc,qd,qe,qf,reduceCtorEq,Q0,h',hlp]
 ·have h':(3000:Int) < s.length:=by omega
  rw [if_neg h]
  simp only [go_sem,qa,qb,qc,qd,qe,qf,reduceCtorEq,Q0,h']
end Go.Vm
namespace Go.Vm
@[go_sem] theorem qCF(x:Sg):qW x.v=true:=(rfl)
@[go_sem] theorem qw7(τ:Bool) (x:Sg):qX τ x.v=x.v:=(rfl)
theorem kx(s:Str):cr qh qa7 [S s]=some (xN s):=by
 rw [qF qnA rfl]
 by_cases h1:s=[58,45]
 ·subst h1;simp (decide:=true) only [go_sem,qa,qb,qc,qd,qe,qf,reduceCtorEq,jJ];rfl
 by_cases h2:s=[92,43]
 ·subst h2;simp (decide:=true) only [go_sem,qa,qb,qc,qd,qe,qf,reduceCtorEq,jJ];rfl
 by_cases h3:s=[45]
 ·subst h3;simp (decide:=true) only [go_sem,qa,qb,qc,qd,qe,qf,reduceCtorEq,jJ];rfl
 simp only [go_sem,qa,qb,qc,qd,qe,qf,reduceCtorEq,jJ,h1,h2,h3]
 simp [xN,zB,h1,h2,h3]
def QH(t:Tm) (s:Str) (n:Int):Bool:=decide (t.kind=4)&&(decide (t.name=s)&&decide ((t.kids.length:Int)=n))
def qzY(t:Tm) (s:Str):Bool:=decide (t.kind=2)&&decide (t.name=s)
theorem qfA(t:Tm) (v:V) (hb:BT t v) (s:Str) (n:Int):cr qh Jy [v,S s,I n]=some (B (QH t s n)):=by
 obtain ⟨τ,vs,rfl,hv⟩:=XI hb
 have hl:=Kv hv
 rw [qF qnK rfl]
 unfold QH
 cases h1:decide (t.kind=4)<;>cases h2:decide (t.name=s)<;>simp only [go_sem,qa,qb,qc,qd,qe,qf,reduceCtorEq,Z1,h1,h2,hl,Bool.true_and,Bool.false_and]
end Go.Vm
namespace Go.Vm
def sg0:Sg:=⟨0,[],0,0,false⟩
def sgD(l:List Sg) (i:Nat):Sg:=l.getD i sg0
def isM(l:List Sg) (i:Nat) (t:Str):Bool:=decide ((sgD l i).kind=4)&&decide ((sgD l i).text=t)
def jy:Tm:= .mk 2 [91,93] 0 []
def yA:List Tm→Tm→Tm
 |[],r=>r
 |t::ts,r=> .mk 4 [46] 0 [t,yA ts r]
def jI(nm:List Str) (s:Str):Tm × List Str:=
 if s ∈ nm∧s ≠ [95]then (.mk 1 [] (yM s 0 nm) [],nm)else (.mk 1 [] nm.length [],nm++[s])
def QF(s:Sg) (most q:Int):Bool:=
 decide ((qV s.text).prio ≠ 0)&&((decide (s.kind=4)||(decide (s.kind=1)&& !s.near))&&(decide ((qV s.text).prio≤most)&&decide (q≤(qV s.text).left)))
mutual
def pT(l:List Sg):Nat→Nat→List Str→Nat→Int→Option (Tm × Nat × List Str)
 |0,_,_,_,_=>none
 |n+1,i,nm,d,most=>if 130≤d then none else match pP l n i nm (d+1) most with
  |none=>none
  |some (t,q,i',nm')=>pL l n i' nm' (d+1) most t q
def pL(l:List Sg):Nat→Nat→List Str→Nat→Int→Tm→Int→Option (Tm × Nat × List Str)
 |0,_,_,_,_,_,_=>none
 |n+1,i,nm,d,most,t,q=>if QF (sgD l i) most q=true then
  match pT l n (i+1) nm d (qV (sgD l i).text).right with
  |none=>none
  |some (y,i',nm')=>pL l n i' nm' d most (.mk 4 (sgD l i).text 0 [t,y]) (qV (sgD l i).text).prio
  else some (t,i,nm)
def pP(l:List Sg):Nat→Nat→List Str→Nat→Int→Option (Tm × Int × Nat × List Str)
 |0,_,_,_,_=>none
 |n+1,i,nm,d,most=>
  if (sgD l i).kind=1∧(sgD l i).near=true then
   match pA l n (i+2) nm d with
   |none=>none
   |some (ks,i',nm')=>if isM l i' [41]=true∧ks.length≤5 then some (.mk 4 (sgD l i).text 0 ks,0,i'+1,nm')else none
  else if isM l i [40]=true then
   if (sgD l (i+1)).kind=1∧isM l (i+2) [41]=true then some (.mk 2 (sgD l (i+1)).text 0 [],0,i+3,nm)
   else match pT l n (i+1) nm d 1200 with
    |none=>none
    |some (t,i',nm')=>if isM l i' [41]=true then some (t,0,i'+1,nm')else none
  else if isM l i [91]=true then
   if isM l (i+1) [93]=true then some (jy,0,i+2,nm)
   else match pA l n (i+1) nm d with
    |none=>none
    |some (ks,i',nm')=>
     if isM l i' [124]=true then
      match pT l n (i'+1) nm' d 999 with
      |none=>none
      |some (r,i2,nm2)=>if isM l i2 [93]=true then some (yA ks r,0,i2+1,nm2)else none
     else if isM l i' [93]=true then some (yA ks jy,0,i'+1,nm')else none
  else if (sgD l i).kind=3 then some (.mk 3 [] (sgD l i).num [],0,i+1,nm)
  else if (sgD l i).kind=2 then some ((jI nm (sgD l i).text).1,0,i+1,(jI nm (sgD l i).text).2)
  else if (sgD l i).kind=1∧(sgD l i).text=[45]∧(sgD l (i+1)).kind=3∧(sgD l (i+1)).at_=(sgD l i).at_+1 then some (.mk 3 [] (0 - (sgD l (i+1)).num) [],0,i+2,nm)
  else if (sgD l i).kind=1∧(zB (sgD l i).text).prio ≠ 0∧(zB (sgD l i).text).prio≤most then
   match pT l n (i+1) nm d (zB (sgD l i).text).right with
   |none=>none
   |some (x,i',nm')=>some (.mk 4 (sgD l i).text 0 [x],(zB (sgD l i).text).prio,i',nm')
  else if (sgD l i).kind=1∧(zB (sgD l i).text).prio=0∧(qV (sgD l i).text).prio=0 then some (.mk 2 (sgD l i).text 0 [],0,i+1,nm)
  else none
def pA(l:List Sg):Nat→Nat→List Str→Nat→Option (List Tm × Nat × List Str)
 |0,_,_,_=>none
 |n+1,i,nm,d=>match pT l n i nm d 999 with
  |none=>none
  |some (t,i',nm')=>pB l n i' nm' d [t]
def pB(l:List Sg):Nat→Nat→List Str→Nat→List Tm→Option (List Tm × Nat × List Str)
 |0,_,_,_,_=>none
 |n+1,i,nm,d,acc=>if isM l i [44]=true then
  match pT l n (i+1) nm d 999 with
  |none=>none
  |some (t,i',nm')=>pB l n i' nm' d (acc++[t])
  else some (acc,i,nm)
end
structure GoodL (l:List Sg):Prop where
 len:l.length≤3000
 mark: ∀ i,(sgD l i).kind=4→(sgD l i).text=[40]∨(sgD l i).text=[41]∨(sgD l i).text=[91]∨(sgD l i).text=[93]∨(sgD l i).text=[44]∨(sgD l i).text=[124]
 near: ∀ i,(sgD l i).near=true→isM l (i+1) [40]=true
 text: ∀ i,(sgD l i).text.length≤3000
 num: ∀ i,0≤(sgD l i).num∧(sgD l i).num≤9999999999
 at_: ∀ i,0≤(sgD l i).at_∧(sgD l i).at_≤3000
theorem j5 {l:List Sg} {i:Nat} (h:(sgD l i).kind ≠ 0):i < l.length:=by
 by_cases hl:i < l.length
 ·exact hl
 ·exfalso;apply h
  unfold sgD
  rw [List.getD_eq_getElem?_getD,List.getElem?_eq_none (by omega)]
  rfl
theorem z8 {l:List Sg} {i:Nat} {t:Str} (h:isM l i t=true):i < l.length∧(sgD l i).kind=4∧(sgD l i).text=t:=by
 unfold isM at h
 simp only [Bool.and_eq_true,decide_eq_true_eq]at h
 exact ⟨j5 (by rw [h.1];decide),h.1,h.2⟩
theorem qb7 {l:List Sg} {i:Nat} {m q:Int} (h:QF (sgD l i) m q=true):i < l.length:=by
 unfold QF at h
 simp only [Bool.and_eq_true,Bool.or_eq_true,decide_eq_true_eq]at h
 rcases h.2.1 with h1|h1
 ·exact j5 (by rw [h1];decide)
 ·exact j5 (by rw [h1.1];decide)
theorem xu(l:List Sg): ∀ n:Nat,
 (∀ i nm d most t i' nm',pT l n i nm d most=some (t,i',nm')→i < i'∧i'≤l.length)∧
 (∀ i nm d most t q t' i' nm',i≤l.length→pL l n i nm d most t q=some (t',i',nm')→i≤i'∧i'≤l.length)∧
 (∀ i nm d most t q i' nm',pP l n i nm d most=some (t,q,i',nm')→i < i'∧i'≤l.length)∧
 (∀ i nm d ks i' nm',pA l n i nm d=some (ks,i',nm')→i < i'∧i'≤l.length)∧
 (∀ i nm d acc ks i' nm',i≤l.length→pB l n i nm d acc=some (ks,i',nm')→i≤i'∧i'≤l.length):=by
 intro n
 induction n with
 |zero=>refine ⟨?_, ?_, ?_, ?_, ?_⟩<;>intros<;>simp_all [pT,pL,pP,pA,pB]
 |succ n ih=>
  obtain ⟨hT,hL,hP,hA,hB⟩:=ih
  refine ⟨?_, ?_, ?_, ?_, ?_⟩
  ·intro i nm d most t i' nm' h
   simp only [pT]at h
   split at h
   ·cases h
   split at h
   ·cases h
   ·rename_i t1 q1 i1 nm1 h1
    have a:=hP _ _ _ _ _ _ _ _ h1
    have b:=hL _ _ _ _ _ _ _ _ _ a.2 h
    omega
  ·intro i nm d most t q t' i' nm' hi h
   simp only [pL]at h
   split at h
   ·rename_i hg
    have:=qb7 hg
    split at h
    ·cases h
    ·rename_i y i1 nm1 h1
     have a:=hT _ _ _ _ _ _ _ h1
     have b:=hL _ _ _ _ _ _ _ _ _ a.2 h
     omega
   ·cases h;omega
  ·intro i nm d most t q i' nm' h
   simp only [pP]at h
   split at h
   ·rename_i hk
    split at h
    ·cases h
    ·rename_i ks i1 nm1 h1
     have a:=hA _ _ _ _ _ _ h1
     split at h
     ·rename_i hm
      have:=z8 hm.1
      cases h;omega
     ·cases h
   split at h
   ·rename_i hk
    have:=z8 hk
    split at h
    ·rename_i hk2
     have:=z8 hk2.2
     cases h;omega
    ·split at h
     ·cases h
     ·rename_i t1 i1 nm1 h1
      have a:=hT _ _ _ _ _ _ _ h1
      split at h
      ·rename_i hm
       have:=z8 hm
       cases h;omega
      ·cases h
   split at h
   ·rename_i hk
    have:=z8 hk
    split at h
    ·rename_i hk2
     have:=z8 hk2
     cases h;omega
    ·split at h
     ·cases h
     ·rename_i ks i1 nm1 h1
      have a:=hA _ _ _ _ _ _ h1
      split at h
      ·split at h
       ·cases h
       ·rename_i r i2 nm2 h2
        have b:=hT _ _ _ _ _ _ _ h2
        split at h
        ·rename_i hm
         have:=z8 hm
         cases h;omega
        ·cases h
      ·split at h
       ·rename_i hm
        have:=z8 hm
        cases h;omega
       ·cases h
   split at h
   ·rename_i hk
    have:=j5 (l:=l) (i:=i) (by rw [hk];decide)
    cases h;omega
   split at h
   ·rename_i hk
    have:=j5 (l:=l) (i:=i) (by rw [hk];decide)
    cases h;omega
   split at h
   ·rename_i hk
    have:=j5 (l:=l) (i:=i+1) (by rw [hk.2.2.1];decide)
    cases h;omega
   split at h
   ·rename_i hk
    split at h
    ·cases h
    ·rename_i x i1 nm1 h1
     have a:=hT _ _ _ _ _ _ _ h1
     cases h;omega
   split at h
   ·rename_i hk
    have:=j5 (l:=l) (i:=i) (by rw [hk.1];decide)
    cases h;omega
   ·cases h
  ·intro i nm d ks i' nm' h
   simp only [pA]at h
   split at h
   ·cases h
   ·rename_i t i1 nm1 h1
    have a:=hT _ _ _ _ _ _ _ h1
    have b:=hB _ _ _ _ _ _ _ a.2 h
    omega
  ·intro i nm d acc ks i' nm' hi h
   simp only [pB]at h
   split at h
   ·rename_i hm
    have:=z8 hm
    split at h
    ·cases h
    ·rename_i t i1 nm1 h1
     have a:=hT _ _ _ _ _ _ _ h1
     have b:=hB _ _ _ _ _ _ _ a.2 h
     omega
   ·cases h;omega
theorem jC(l:List Sg): ∀ n:Nat,
 (∀ i nm d most t i' nm',pT l n i nm d most=some (t,i',nm')→nm'.length+i≤nm.length+i')∧
 (∀ i nm d most t q t' i' nm',pL l n i nm d most t q=some (t',i',nm')→nm'.length+i≤nm.length+i')∧
 (∀ i nm d most t q i' nm',pP l n i nm d most=some (t,q,i',nm')→nm'.length+i≤nm.length+i')∧
 (∀ i nm d ks i' nm',pA l n i nm d=some (ks,i',nm')→nm'.length+i≤nm.length+i')∧
 (∀ i nm d acc ks i' nm',pB l n i nm d acc=some (ks,i',nm')→nm'.length+i≤nm.length+i'):=by
 intro n
 induction n with
 |zero=>refine ⟨?_, ?_, ?_, ?_, ?_⟩<;>intros<;>simp_all [pT,pL,pP,pA,pB]
 |succ n ih=>
  obtain ⟨hT,hL,hP,hA,hB⟩:=ih
  refine ⟨?_, ?_, ?_, ?_, ?_⟩
  ·intro i nm d most t i' nm' h
   simp only [pT]at h
   split at h
   ·cases h
   split at h
   ·cases h
   ·rename_i t1 q1 i1 nm1 h1
    have a:=hP _ _ _ _ _ _ _ _ h1
    have b:=hL _ _ _ _ _ _ _ _ _ h
    omega
  ·intro i nm d most t q t' i' nm' h
   simp only [pL]at h
   split at h
   ·split at h
    ·cases h
    ·rename_i y i1 nm1 h1
     have a:=hT _ _ _ _ _ _ _ h1
     have b:=hL _ _ _ _ _ _ _ _ _ h
     omega
   ·cases h;omega
  ·intro i nm d most t q i' nm' h
   simp only [pP]at h
   split at h
   ·split at h
    ·cases h
    ·rename_i ks i1 nm1 h1
     have a:=hA _ _ _ _ _ _ h1
     split at h
     ·cases h;omega
     ·cases h
   split at h
   ·split at h
    ·cases h;omega
    ·split at h
     ·cases h
     ·rename_i t1 i1 nm1 h1
      have a:=hT _ _ _ _ _ _ _ h1
      split at h
      ·cases h;omega
      ·cases h
   split at h
   ·split at h
    ·cases h;omega
    ·split at h
     ·cases h
     ·rename_i ks i1 nm1 h1
      have a:=hA _ _ _ _ _ _ h1
      split at h
      ·split at h
       ·cases h
       ·rename_i r i2 nm2 h2
        have b:=hT _ _ _ _ _ _ _ h2
        split at h
        ·cases h;omega
        ·cases h
      ·split at h
       ·cases h;omega
       ·cases h
   split at h
   ·cases h;omega
   split at h
   ·cases h
    unfold jI
    split
    ·simp only;omega
    ·simp only [List.length_append,List.length_cons,List.length_nil];omega
   split at h
   ·cases h;omega
   split at h
   ·split at h
    ·cases h
    ·rename_i x i1 nm1 h1
     have a:=hT _ _ _ _ _ _ _ h1
     cases h;omega
   split at h
   ·cases h;omega
   ·cases h
  ·intro i nm d ks i' nm' h
   simp only [pA]at h
   split at h
   ·cases h
   ·rename_i t i1 nm1 h1
    have a:=hT _ _ _ _ _ _ _ h1
    have b:=hB _ _ _ _ _ _ _ h
    omega
  ·intro i nm d acc ks i' nm' h
   simp only [pB]at h
   split at h
   ·split at h
    ·cases h
    ·rename_i t i1 nm1 h1
     have a:=hT _ _ _ _ _ _ _ h1
     have b:=hB _ _ _ _ _ _ _ h
     omega
   ·cases h;omega
end Go.Vm
namespace Go.Vm
structure SgP (x:Sg):Prop where
 mark:x.kind=4→x.text=[40]∨x.text=[41]∨x.text=[91]∨x.text=[93]∨x.text=[44]∨x.text=[124]
 text:x.text.length≤3000
 num:0≤x.num∧x.num≤9999999999
 at_:0≤x.at_∧x.at_≤3000
theorem qqh(s:Str) (i j:Nat):(zN s i j).length≤s.length:=by
 unfold zN;simp only [List.length_drop,List.length_take];omega
theorem qpX {s:Str} (hl:s.length≤3000) {i:Nat} {c:UInt8} (hc:s[i]? =some c):SgP (sgn s i c).1∧(sgn s i c).1.near=false:=by
 have hi:i < s.length:=(List.getElem?_eq_some_iff.1 hc).1
 have hs: ∀ a b,(zN s a b).length≤3000:=fun a b=>Nat.le_trans (qqh s a b) hl
 have mk: ∀ (k:Int) (t:Str) (n:Int),k ≠ 4→t.length≤3000→0≤n→n≤9999999999→SgP ⟨k,t,n,i,false⟩:=fun k t n h1 h2 h3 h4=>
  ⟨fun e=>absurd e h1,h2,⟨h3,h4⟩,by show 0≤(i:Int)∧(i:Int)≤3000;omega⟩
 have hb:SgP (bad s i).1∧(bad s i).1.near=false:=⟨mk 6 _ 0 (by decide) (hs _ _) (by decide) (by decide),rfl⟩
 unfold sgn
 split
 ·split
  ·refine ⟨mk _ _ 0 ?_ (hs _ _) (by decide) (by decide),rfl⟩
   split<;>decide
  ·exact hb
 split
 ·split
  ·have:=qgv (s.drop i) 0 (by decide) (by decide)
   exact ⟨mk 3 [] _ (by decide) (by simp) this.1 this.2,rfl⟩
  ·exact hb
 split
 ·split
  ·exact ⟨mk 1 _ 0 (by decide) (hs _ _) (by decide) (by decide),rfl⟩
  ·exact hb
 split
 ·exact ⟨mk 1 _ 0 (by decide) (hs _ _) (by decide) (by decide),rfl⟩
 split
 ·rename_i h
  refine ⟨⟨fun _=> ?_,hs _ _,⟨Int.le_refl 0,by show (0:Int)≤9999999999;decide⟩,by show 0≤(i:Int)∧(i:Int)≤3000;omega⟩,rfl⟩
  show zN s i (i+1)=[40]∨zN s i (i+1)=[41]∨zN s i (i+1)=[91]∨zN s i (i+1)=[93]∨zN s i (i+1)=[44]∨zN s i (i+1)=[124]
  rw [qdw hc]
  simp only [Bool.or_eq_true]at h
  rcases h with ((((h|h)|h)|h)|h)|h
  ·rw [xI (n:=40) h];left;rfl
  ·rw [xI (n:=41) h];right;left;rfl
  ·rw [xI (n:=91) h];right;right;left;rfl
  ·rw [xI (n:=93) h];right;right;right;left;rfl
  ·rw [xI (n:=44) h];right;right;right;right;left;rfl
  ·rw [xI (n:=124) h];right;right;right;right;right;rfl
 split
 ·exact ⟨mk 5 _ 0 (by decide) (hs _ _) (by decide) (by decide),rfl⟩
 split
 ·split
  ·exact ⟨mk 1 _ 0 (by decide) (hs _ _) (by decide) (by decide),rfl⟩
  ·exact hb
 ·exact hb
theorem qdo(x:Sg) (l:List Sg) (k:Nat):sgD (x::l) (k+1)=sgD l k:=by
 unfold sgD;simp [List.getD_eq_getElem?_getD]
theorem qit(x:Sg) (l:List Sg):sgD (x::l) 0=x:=rfl
theorem qaT {s:Str} (hl:s.length≤3000): ∀ (n i:Nat),∀ x ∈ sgs s n i,SgP x
 |0,i,x,h=>by simp [sgs]at h
 |n+1,i,x,h=>by
  simp only [sgs]at h
  split at h
  ·cases h
  ·rename_i c hc
   split at h
   ·exact qaT hl n _ x h
   split at h
   ·exact qaT hl n _ x h
   ·rcases List.mem_cons.1 h with h|h
    ·subst h
     have:=(qpX hl hc).1
     exact ⟨this.mark,this.text,this.num,this.at_⟩
    ·exact qaT hl n _ x h
theorem qpW {s:Str} {e:Nat} (h:s[e]? =some 40):(sgn s e 40).1=⟨4,[40],0,e,false⟩:=by
 have h1:(inB 97 122 40||y5 40)=false:=by decide
 have h2:inB 48 57 40=false:=by decide
 have h3:isB 39 40=false:=by decide
 have h4:(isB 33 40||isB 59 40)=false:=by decide
 have h5:(isB 40 40||isB 41 40||isB 91 40||isB 93 40||isB 44 40||isB 124 40)=true:=by decide
 unfold sgn
 rw [h1,h2,h3,h4,h5,qdw h]
 rfl
theorem qaV {s:Str} (hl:s.length≤3000): ∀ (n i:Nat),s.length≤i+n→i≤s.length→ ∀ k,(sgD (sgs s n i) k).near=true→isM (sgs s n i) (k+1) [40]=true
 |0,i,hn,hi,k,h=>by simp [sgs,sgD,sg0]at h
 |n+1,i,hn,hi,k,h=>by
  simp only [sgs]at h ⊢
  split at h
  ·simp [sgD,sg0]at h
  ·rename_i c hc
   have hlt:i < s.length:=(List.getElem?_eq_some_iff.1 hc).1
   split at h
   ·rename_i hb
    rw [if_pos hb]
    exact qaV hl n (i+1) (by omega) (by omega) k h
   rename_i hb
   rw [if_neg hb]
   split at h
   ·rename_i h37
    have hp:=j2 (p:=fun d=> !isB 10 d) (s:=s) (i:=i) (by omega)
    have hp1:1≤pre (fun d=> !isB 10 d) (s.drop i):=K8 hc (by have:=xI (n:=37) h37;subst this;rfl)
    rw [if_pos h37]
    exact qaV hl n _ (by omega) hp k h
   ·rename_i h37
    rw [if_neg h37]
    obtain ⟨g1,g2⟩:=qiu s i c hc
    cases k with
    |zero=>
     rw [qit]at h
     have h40:s[(sgn s i c).2]? =some 40:=of_decide_eq_true h
     have hlt2:(sgn s i c).2 < s.length:=(List.getElem?_eq_some_iff.1 h40).1
     cases n with
     |zero=>omega
     |succ n=>
      unfold isM
      rw [qdo]
      have b1:Qw 40=false:=by decide
      have b2:isB 37 40=false:=by decide
      simp only [sgs,h40,b1,b2,Bool.false_eq_true,if_false,qit,Sg.near',qpW h40]
      decide
    |succ k=>
     rw [qdo]at h
     have:=qaV hl n (sgn s i c).2 (by omega) g2 k h
     unfold isM at this ⊢
     rw [qdo]
     exact this
theorem qkf {s:Str} (hl:s.length≤3000):GoodL (ke s):=by
 have hP: ∀ i,SgP (sgD (ke s) i):=by
  intro i
  unfold sgD
  rw [List.getD_eq_getElem?_getD]
  cases h:(ke s)[i]? with
  |none=>exact ⟨fun e=>absurd e (by decide),by simp [sg0],⟨by decide,by decide⟩,⟨by decide,by decide⟩⟩
  |some x=>exact qaT hl _ _ x (List.mem_of_getElem? h)
 exact ⟨Nat.le_trans (qaU s _ _) hl,fun i=>(hP i).mark,fun i h=>qaV hl s.length 0 (by omega) (by omega) i h,fun i=>(hP i).text,fun i=>(hP i).num,fun i=>(hP i).at_⟩
end Go.Vm
namespace Go.Vm
theorem qpU {l:List Sg} {i:Nat} (h:i < l.length):l[i]? =some (sgD l i):=by
 unfold sgD;rw [List.getD_eq_getElem?_getD,List.getElem?_eq_getElem h];rfl
theorem qpV {l:List Sg} {i:Nat} (h:l.length≤i):sgD l i=sg0:=by
 unfold sgD;rw [List.getD_eq_getElem?_getD,List.getElem?_eq_none h];rfl
theorem zz(l:List Sg) (τ:Bool) (hl:l.length≤3000) (a k:Nat) (ha:a≤2^40) (hk:k≤2) (nv:V) (d:Int) (b:Bool):
 cr qh Zg [.q true [.a [.i τ (l.map Sg.v),I a,nv,I d,B b]] 0 0,I k]=some (sgD l (a+k)).v:=by
 have e1:w64 ((a:Int)+k)=((a+k:Nat):Int):=by rw [qo]<;>omega
 rw [qF qnS rfl]
 by_cases h:l.length≤a+k
 ·have h':(l.length:Int)≤((a+k:Nat):Int):=by omega
  rw [qpV h]
  simp only [go_sem,qa,qb,qc,qd,qe,qf,reduceCtorEq,Q6,e1,h',List.length_map,sg0,Sg.v]
 ·have h': ¬ (l.length:Int)≤((a+k:Nat):Int):=by omega
  have hg:=qpU (l:=l) (i:=a+k) (by omega)
  have g:=yy (f:=Sg.v) hg
  have a1:=fun T=>yX (τ:=τ) (T:=T) (e:=5) g rfl
  rw [Sg.v]at g
  simp only [go_sem,qa,qb,qc,qd,qe,qf,reduceCtorEq,Q6,e1,h',List.length_map,a1,g,Sg.v]
theorem qU(l:List Sg) (τ:Bool) (hl:l.length≤3000) (a k:Nat) (ha:a≤2^40) (hk:k≤2) (nv:V) (d:Int) (b:Bool) (t:Str):
 cr qh je [.q true [.a [.i τ (l.map Sg.v),I a,nv,I d,B b]] 0 0,I k,S t]=some (B (isM l (a+k) t)):=by
 have s:=zz l τ hl a k ha hk nv d b
 rw [Sg.v]at s
 rw [qF qnQ rfl]
 unfold isM
 cases h1:decide ((sgD l (a+k)).kind=4)with
 |false=>simp only [go_sem,qa,qb,qc,qd,qe,qf,reduceCtorEq,Q4,s,h1,Bool.false_and]
 |true=>simp only [go_sem,qa,qb,qc,qd,qe,qf,reduceCtorEq,Q4,s,h1,Bool.true_and]
theorem Zw(l:List Sg) (τ:Bool) (hl:l.length≤3000) (a:Nat) (ha:a≤2^40) (nm:List Str) (d:Int) (b:Bool) (t:Str):
 cw qh Zf [.b (.a [.i τ (l.map Sg.v),I a,.o 1 (List.map S nm),I d,B b]),S t]=some (.t [],[.b (.a [.i τ (l.map Sg.v),I ((a+1:Nat):Int),.o 1 (List.map S nm),I d,B (b|| !isM l a t)]),S t]):=by
 have s:=qU l τ hl a 0 ha (by decide) (.i true (nm.map S)) d b t
 have e1:w64 ((a:Int)+1)=((a+1:Nat):Int):=by rw [qo]<;>omega
 simp only [Nat.add_zero,Int.natCast_zero]at s
 rw [qZ qnR rfl]
 cases hm:isM l a t with
 |true=>
  rw [hm]at s
  simp only [go_sem,qa,qb,qc,qd,qe,qf,reduceCtorEq,Q5,qC,s,e1,Bool.or_false,Bool.not_true]
 |false=>
  rw [hm]at s
  simp only [go_sem,qa,qb,qc,qd,qe,qf,reduceCtorEq,Q5,qC,s,e1,Bool.or_true,Bool.not_false]
theorem qfv(s:Str) (nm:List Str):(s ∈ nm→0≤yM s 0 nm)∧(s ∉ nm→yM s 0 nm= -1):=by
 obtain ⟨h1,h2⟩:=KU s nm 0
 exact ⟨fun h=>by have:=h1 h;omega,h2⟩
theorem qku(l:List Sg) (τ:Bool) (a:Int) (nm:List Str) (hn:nm.length≤2^30) (d:Int) (b:Bool) (s:Str):
 cw qh qbd [.b (.a [.i τ (l.map Sg.v),I a,.o 1 (List.map S nm),I d,B b]),S s]=some (oT (jI nm s).1,[.b (.a [.i τ (l.map Sg.v),I a,.o 1 (List.map S ((jI nm s).2)),I d,B b]),S s]):=by
 have ix:=qdM true nm s (by omega)
 have vk:=fun n=>qkC n
 simp only [zL]at vk
 have l1:decide ((nm.length+1)*16≤lim)=true:=decide_eq_true (by rw [zu];omega)
 have l2:decide (nm.length+1≤lim)=true:=decide_eq_true (by rw [zu];omega)
 have tk:((nm++[s]).map S).take (nm.length+1)=(nm++[s]).map S:=List.take_of_length_le (by simp)
 rw [qZ qnU rfl]
 unfold jI
 by_cases hm:s ∈ nm
 ·have h0: ¬ yM s 0 nm < 0:=by have:=(qfv s nm).1 hm;omega
  by_cases h95:s=[95]
  ·have d95:decide (s=[95])=true:=decide_eq_true h95
   rw [if_neg fun h=>h.2 h95]
   simp only [go_sem,qa,qb,qc,qd,qe,qf,reduceCtorEq,Qd,qC,ix,h0,d95,vk,l1,l2,tk,zL,List.length_cons,List.length_nil]
  ·have d95:decide (s=[95])=false:=decide_eq_false h95
   rw [if_pos ⟨hm,h95⟩]
   simp only [go_sem,qa,qb,qc,qd,qe,qf,reduceCtorEq,Qd,qC,ix,h0,d95,vk,zL]
 ·have h0:yM s 0 nm < 0:=by rw [(qfv s nm).2 hm];decide
  rw [if_neg fun h=>hm h.1]
  simp only [go_sem,qa,qb,qc,qd,qe,qf,reduceCtorEq,Qd,qC,ix,h0,vk,l1,l2,tk,zL,List.length_cons,List.length_nil]
end Go.Vm
namespace Go.Vm
def isK(l:List Sg) (i:Nat) (k:Int) (t:Str):Bool:=decide (i < l.length)&&(decide ((sgD l i).kind=k)&&(decide (t=[])||decide ((sgD l i).text=t)))
end Go.Vm
namespace Go.Vm
def GB(G:Mem):Prop:=G=[]∨ ∃ (s1 s2:Str) (a1 a2 a3 a4 a5 a6:Int) (b1:Bool),G=[((8,0),4,[.a [S s1,I a1,I a2,I a3]]),((7,0),5,[.a [I a4,S s2,I a5,I a6,B b1]])]
def Js(l:List Sg) (τ:Bool) (m:Nat) (cs:List V):Prop:= ∃ (a:Nat) (nm:List Str) (d:Int),a≤m∧cs=[.i τ (l.map Sg.v),I a,.o 1 (nm.map S),I d,B true]
def IT(l:List Sg) (τ:Bool) (n:Nat):Prop:= ∀ (i:Nat) (nm:List Str) (d:Nat) (most:Int),4*(l.length - i)+4≤n→i≤l.length→nm.length≤i→d≤130→
 (∀ t i' nm',pT l n i nm d most=some (t,i',nm')→cw qh zY [.b (.a [.i τ (l.map Sg.v),I i,.o 1 (List.map S nm),I (d),B false]),I most]=some (oT t,[.b (.a [.i τ (l.map Sg.v),I i',.o 1 (List.map S nm'),I (d),B false]),I most]))∧
 (pT l n i nm d most=none→ ∃ g cs,Js l τ (l.length+8*n) cs∧cw qh zY [.b (.a [.i τ (l.map Sg.v),I i,.o 1 (List.map S nm),I (d),B false]),I most]=some (oT g,[.b (.a cs),I most]))
def IL(l:List Sg) (τ:Bool) (n:Nat):Prop:= ∀ (i:Nat) (nm:List Str) (d:Nat) (most:Int) (t:Tm) (q:Int),4*(l.length - i)+1≤n→i≤l.length→nm.length≤i→d≤130→
 (∀ t' i' nm',pL l n i nm d most t q=some (t',i',nm')→ ∃ G,GB G∧lw qh jg ⟨[(0,.p (0,0) 0 0),(1,I most),(4,.p (100000,0) 0 0),(5,.p (100000,1) 0 0),(6,I q)],[((0,0),5,[.a [.i τ (l.map Sg.v),I i,.o 1 (List.map S nm),I (d),B false]]),((100000,0),4,[.a [I 0,S [],I 0,.s (100000,2) 0 0]]),((100000,1),4,[.a [I (Tm.kind t),S (Tm.name t),I (Tm.num t),.s (100000,3) 0 (Tm.kids t).length]]),((100000,2),4,[]),((100000,3),4,(Tm.kids t).map oT)]⟩=some (.exit 0,⟨[(0,.p (0,0) 0 0),(4,.p (100000,0) 0 0),(5,.p (100000,1) 0 0)],G++[((0,0),5,[.a [.i τ (l.map Sg.v),I i',.o 1 (List.map S nm'),I (d),B false]]),((100000,0),4,[.a [I 0,S [],I 0,.s (100000,2) 0 0]]),((100000,1),4,[.a [I (Tm.kind t'),S (Tm.name t'),I (Tm.num t'),.s (100000,3) 0 (Tm.kids t').length]]),((100000,2),4,[]),((100000,3),4,(Tm.kids t').map oT)]⟩))∧
 (pL l n i nm d most t q=none→ ∃ (g:Tm) (a:Nat) (nm':List Str) (d':Int) (G:Mem),a≤l.length+8*n∧GB G∧lw qh jg ⟨[(0,.p (0,0) 0 0),(1,I most),(4,.p (100000,0) 0 0),(5,.p (100000,1) 0 0),(6,I q)],[((0,0),5,[.a [.i τ (l.map Sg.v),I i,.o 1 (List.map S nm),I (d),B false]]),((100000,0),4,[.a [I 0,S [],I 0,.s (100000,2) 0 0]]),((100000,1),4,[.a [I (Tm.kind t),S (Tm.name t),I (Tm.num t),.s (100000,3) 0 (Tm.kids t).length]]),((100000,2),4,[]),((100000,3),4,(Tm.kids t).map oT)]⟩=some (.exit 0,⟨[(0,.p (0,0) 0 0),(4,.p (100000,0) 0 0),(5,.p (100000,1) 0 0)],G++[((0,0),5,[.a [.i τ (l.map Sg.v),I a,.o 1 (List.map S nm'),I (d'),B true]]),((100000,0),4,[.a [I 0,S [],I 0,.s (100000,2) 0 0]]),((100000,1),4,[.a [I (Tm.kind g),S (Tm.name g),I (Tm.num g),.s (100000,3) 0 (Tm.kids g).length]]),((100000,2),4,[]),((100000,3),4,(Tm.kids g).map oT)]⟩))
def IP(l:List Sg) (τ:Bool) (n:Nat):Prop:= ∀ (i:Nat) (nm:List Str) (d:Nat) (most:Int),4*(l.length - i)+3≤n→i≤l.length→nm.length≤i→d≤130→
 (∀ t q i' nm',pP l n i nm d most=some (t,q,i',nm')→cw qh yW [.b (.a [.i τ (l.map Sg.v),I i,.o 1 (List.map S nm),I (d),B false]),I most]=some (.t [oT t,I q],[.b (.a [.i τ (l.map Sg.v),I i',.o 1 (List.map S nm'),I (d),B false]),I most]))∧
 (pP l n i nm d most=none→ ∃ g q cs,Js l τ (l.length+8*n) cs∧cw qh yW [.b (.a [.i τ (l.map Sg.v),I i,.o 1 (List.map S nm),I (d),B false]),I most]=some (.t [oT g,I q],[.b (.a cs),I most]))
theorem qiD(s:Str) (t y:Tm):cw qh jO [S s,.o 4 [.a [I t.kind,S t.name,I t.num,.o 4 (t.kids.map oT)],.a [I y.kind,S y.name,I y.num,.o 4 (y.kids.map oT)]]]=
 some (.a [I 4,S s,I 0,.o 4 [.a [I t.kind,S t.name,I t.num,.o 4 (t.kids.map oT)],.a [I y.kind,S y.name,I y.num,.o 4 (y.kids.map oT)]]],[S s,.d]):=by
 have:=qdu s [t,y]
 rw [ZG]at this
 simp only [List.map_cons,List.map_nil,qH t,qH y]at this
 exact this
theorem qeh(l:List Sg) (τ:Bool) (a:Nat) (nm:List Str) (d:Int) (t:Tm) (q most:Int):
 lw qh jg ⟨[(0,.p (0,0) 0 0),(1,I most),(4,.p (100000,0) 0 0),(5,.p (100000,1) 0 0),(6,I q)],[((0,0),5,[.a [.i τ (l.map Sg.v),I a,.o 1 (List.map S nm),I (d),B true]]),((100000,0),4,[.a [I 0,S [],I 0,.s (100000,2) 0 0]]),((100000,1),4,[.a [I (Tm.kind t),S (Tm.name t),I (Tm.num t),.s (100000,3) 0 (Tm.kids t).length]]),((100000,2),4,[]),((100000,3),4,(Tm.kids t).map oT)]⟩=some (.exit 0,⟨[(0,.p (0,0) 0 0),(4,.p (100000,0) 0 0),(5,.p (100000,1) 0 0)],[]++[((0,0),5,[.a [.i τ (l.map Sg.v),I a,.o 1 (List.map S nm),I (d),B true]]),((100000,0),4,[.a [I 0,S [],I 0,.s (100000,2) 0 0]]),((100000,1),4,[.a [I (Tm.kind t),S (Tm.name t),I (Tm.num t),.s (100000,3) 0 (Tm.kids t).length]]),((100000,2),4,[]),((100000,3),4,(Tm.kids t).map oT)]⟩):=by
 rw [qq,List.nil_append]
 simp only [go_sem,qa,qb,qc,qd,qe,qf,reduceCtorEq,ki]
theorem qqn(l:List Sg) (τ:Bool) (a:Nat) (nm:List Str) (d:Int) (most:Int):
 cw qh zY [.b (.a [.i τ (l.map Sg.v),I a,.o 1 (List.map S nm),I (d),B true]),I most]=some (oT (.mk 0 [] 0 []),[.b (.a [.i τ (l.map Sg.v),I a,.o 1 (List.map S nm),I (d),B true]),I most]):=by
 rw [qZ K5 rfl,zL]
 cases d0:decide (d=130)<;>simp only [go_sem,qa,qb,qc,qd,qe,qf,reduceCtorEq,kh,qC,d0]
theorem qi4(l:List Sg) (τ:Bool) (hg:GoodL l) (n:Nat) (hT:IT l τ n) (hL:IL l τ n):IL l τ (n+1):=by
 intro i nm d most t q hn hi hnm hd
 have hlen:=hg.len
 have sg:=zz l τ hlen i 0 (by omega) (by decide) (.i true (nm.map S)) d false
 simp only [Nat.add_zero,Int.natCast_zero]at sg
 rw [Sg.v]at sg
 have inf:=x7 (sgD l i).text
 unfold opV at inf
 have e1:w64 ((i:Int)+1)=((i+1:Nat):Int):=by rw [qo]<;>omega
 generalize hs:sgD l i=s at*
 have stop:QF s most q=false→lw qh jg ⟨[(0,.p (0,0) 0 0),(1,I most),(4,.p (100000,0) 0 0),(5,.p (100000,1) 0 0),(6,I q)],[((0,0),5,[.a [.i τ (l.map Sg.v),I i,.o 1 (List.map S nm),I (d),B false]]),((100000,0),4,[.a [I 0,S [],I 0,.s (100000,2) 0 0]]),((100000,1),4,[.a [I (Tm.kind t),S (Tm.name t),I (Tm.num t),.s (100000,3) 0 (Tm.kids t).length]]),((100000,2),4,[]),((100000,3),4,(Tm.kids t).map oT)]⟩=some (.exit 0,⟨[(0,.p (0,0) 0 0),(4,.p (100000,0) 0 0),(5,.p (100000,1) 0 0)],(([((8,0),4,[.a [S (if (qV s.text).prio=0 then []else s.text),I (qV s.text).prio,I (qV s.text).left,I (qV s.text).right]]),((7,0),5,[.a [I s.kind,S s.text,I s.num,I s.at_,B s.near]])]):Mem)++[((0,0),5,[.a [.i τ (l.map Sg.v),I i,.o 1 (List.map S nm),I (d),B false]]),((100000,0),4,[.a [I 0,S [],I 0,.s (100000,2) 0 0]]),((100000,1),4,[.a [I (Tm.kind t),S (Tm.name t),I (Tm.num t),.s (100000,3) 0 (Tm.kids t).length]]),((100000,2),4,[]),((100000,3),4,(Tm.kids t).map oT)]⟩):=by
  intro hgo
  rw [qq,List.cons_append,List.cons_append,List.nil_append]
  by_cases h0:(qV s.text).prio=0
  ·simp only [go_sem,qa,qb,qc,qd,qe,qf,reduceCtorEq,ki,sg,inf,h0]
  by_cases k4:s.kind=4
  ·by_cases p1:most < (qV s.text).prio
   ·simp only [go_sem,qa,qb,qc,qd,qe,qf,reduceCtorEq,ki,sg,inf,h0,k4,p1]
   ·have p2:(qV s.text).left < q:=by
     unfold QF at hgo
     simp only [Bool.and_eq_false_iff,Bool.or_eq_false_iff,decide_eq_false_iff_not,Bool.not_eq_false']at hgo
     omega
    simp only [go_sem,qa,qb,qc,qd,qe,qf,reduceCtorEq,ki,sg,inf,h0,k4,p1,p2]
  by_cases k1:s.kind=1
  ·have d14:decide ((1:Int)=4)=false:=rfl
   cases hnr:s.near with
   |true=>rw [hnr]at sg;simp only [go_sem,qa,qb,qc,qd,qe,qf,reduceCtorEq,ki,sg,inf,h0,d14,k1,hnr]
   |false=>
    rw [hnr]at sg
    by_cases p1:most < (qV s.text).prio
    ·simp only [go_sem,qa,qb,qc,qd,qe,qf,reduceCtorEq,ki,sg,inf,h0,d14,k1,p1,hnr]
    ·have p2:(qV s.text).left < q:=by
      unfold QF at hgo
      simp only [hnr,Bool.and_eq_false_iff,Bool.or_eq_false_iff,decide_eq_false_iff_not,Bool.not_eq_false']at hgo
      rcases hgo with h|h|h
      ·exact absurd h0 (by simpa using h)
      ·rcases h.2 with h|h
       ·exact absurd k1 h
       ·cases h
      ·omega
     simp only [go_sem,qa,qb,qc,qd,qe,qf,reduceCtorEq,ki,sg,inf,h0,d14,k1,p1,p2,hnr]
  ·simp only [go_sem,qa,qb,qc,qd,qe,qf,reduceCtorEq,ki,sg,inf,h0,k4,k1]
 cases hgo:QF s most q with
 |false=>
  have h:=stop hgo
  have hGB:GB ([((8,0),4,[.a [S (if (qV s.text).prio=0 then []else s.text),I (qV s.text).prio,I (qV s.text).left,I (qV s.text).right]]),((7,0),5,[.a [I s.kind,S s.text,I s.num,I s.at_,B s.near]])]:Mem):= .inr ⟨_,_,_,_,_,_,_,_,_,rfl⟩
  refine ⟨?_, ?_⟩
  ·intro t' i' nm' hp
   simp only [pL,hs,hgo,Bool.false_eq_true,if_false,Option.some.injEq,Prod.mk.injEq]at hp
   obtain ⟨rfl,rfl,rfl⟩:=hp
   exact ⟨_,hGB,h⟩
  ·intro hp
   simp only [pL,hs,hgo,Bool.false_eq_true,if_false,reduceCtorEq]at hp
 |true=>
  have hlt:i < l.length:=by rw [← hs]at hgo;exact qb7 hgo
  have hgo':=hgo
  unfold QF at hgo'
  simp only [Bool.and_eq_true,Bool.or_eq_true,decide_eq_true_eq,Bool.not_eq_true']at hgo'
  obtain ⟨h0,hk,hp1,hp2⟩:=hgo'
  have p1: ¬ most < (qV s.text).prio:=by omega
  have p2: ¬ (qV s.text).left < q:=by omega
  obtain ⟨ht1,ht2⟩:=hT (i+1) nm d (qV s.text).right (by omega) (by omega) (by omega) hd
  have key: ∀ (y:Tm) (a:Nat) (nm1:List Str) (d1:Int) (b1:Bool),cw qh zY [.b (.a [.i τ (l.map Sg.v),I ((i+1:Nat):Int),.o 1 (List.map S nm),I (d),B false]),I (qV s.text).right]=some (oT y,[.b (.a [.i τ (l.map Sg.v),I a,.o 1 (List.map S nm1),I (d1),B b1]),I (qV s.text).right])→
   lw qh jg ⟨[(0,.p (0,0) 0 0),(1,I most),(4,.p (100000,0) 0 0),(5,.p (100000,1) 0 0),(6,I q)],[((0,0),5,[.a [.i τ (l.map Sg.v),I i,.o 1 (List.map S nm),I (d),B false]]),((100000,0),4,[.a [I 0,S [],I 0,.s (100000,2) 0 0]]),((100000,1),4,[.a [I (Tm.kind t),S (Tm.name t),I (Tm.num t),.s (100000,3) 0 (Tm.kids t).length]]),((100000,2),4,[]),((100000,3),4,(Tm.kids t).map oT)]⟩=lw qh jg ⟨[(0,.p (0,0) 0 0),(1,I most),(4,.p (100000,0) 0 0),(5,.p (100000,1) 0 0),(6,I (qV s.text).prio)],[((0,0),5,[.a [.i τ (l.map Sg.v),I a,.o 1 (List.map S nm1),I (d1),B b1]]),((100000,0),4,[.a [I 0,S [],I 0,.s (100000,2) 0 0]]),((100000,1),4,[.a [I (Tm.kind (Tm.mk 4 s.text 0 [t,y])),S (Tm.name (Tm.mk 4 s.text 0 [t,y])),I (Tm.num (Tm.mk 4 s.text 0 [t,y])),.s (100000,3) 0 (Tm.kids (Tm.mk 4 s.text 0 [t,y])).length]]),((100000,2),4,[]),((100000,3),4,(Tm.kids (Tm.mk 4 s.text 0 [t,y])).map oT)]⟩:=by
   intro y a nm1 d1 b1 hc
   rw [qH y]at hc
   have st:=qiD s.text t y
   have tk: ∀ x:Tm,(x.kids.map oT).take x.kids.length=x.kids.map oT:=fun x=>List.take_of_length_le (by simp)
   rw [qq]
   simp only [Kx,Ky,Kz,Qs,List.map_cons,List.map_nil,List.length_cons,List.length_nil,qH t,qH y]
   by_cases k4:s.kind=4
   ·simp only [go_sem,qa,qb,qc,qd,qe,qf,reduceCtorEq,ki,sg,inf,h0,k4,p1,p2,e1,hc,st,tk]
   ·have k1:s.kind=1:=by rcases hk with h|h;exact absurd h k4;exact h.1
    have hnr:s.near=false:=by rcases hk with h|h;exact absurd h k4;exact h.2
    rw [hnr]at sg
    have d14:decide ((1:Int)=4)=false:=rfl
    simp only [go_sem,qa,qb,qc,qd,qe,qf,reduceCtorEq,ki,sg,inf,h0,d14,k1,p1,p2,e1,hc,st,tk,hnr]
  refine ⟨?_, ?_⟩
  ·intro t' i' nm' hp
   simp only [pL,hs,hgo,if_true]at hp
   split at hp
   ·cases hp
   ·rename_i y i1 nm1 hp1'
    have adv:=(xu l n).1 _ _ _ _ _ _ _ hp1'
    have nl:=(jC l n).1 _ _ _ _ _ _ _ hp1'
    rw [key y i1 nm1 d false (ht1 y i1 nm1 hp1')]
    exact (hL i1 nm1 d most _ _ (by omega) adv.2 (by omega) hd).1 t' i' nm' hp
  ·intro hp
   simp only [pL,hs,hgo,if_true]at hp
   split at hp
   ·rename_i hp1'
    obtain ⟨g,cs,⟨a,nm1,d1,ha,rfl⟩,hc⟩:=ht2 hp1'
    refine ⟨.mk 4 s.text 0 [t,g],a,nm1,d1,[],by omega,.inl rfl, ?_⟩
    rw [key g a nm1 d1 true hc]
    exact qeh l τ a nm1 d1 _ _ _
   ·rename_i y i1 nm1 hp1'
    have adv:=(xu l n).1 _ _ _ _ _ _ _ hp1'
    have nl:=(jC l n).1 _ _ _ _ _ _ _ hp1'
    obtain ⟨g,a,nm',d',G,ha,hG,h⟩:=(hL i1 nm1 d most _ _ (by omega) adv.2 (by omega) hd).2 hp
    refine ⟨g,a,nm',d',G,by omega,hG, ?_⟩
    rw [key y i1 nm1 d false (ht1 y i1 nm1 hp1')]
    exact h
theorem qi6(l:List Sg) (τ:Bool) (n:Nat) (hP:IP l τ n) (hL:IL l τ n):IT l τ (n+1):=by
 intro i nm d most hn hi hnm hd
 by_cases h130:d=130
 ·subst h130
  refine ⟨?_, ?_⟩
  ·intro t i' nm' hp;simp only [pT,Nat.le_refl,if_true,reduceCtorEq]at hp
  ·intro _
   refine ⟨.mk 0 [] 0 [],_,⟨i,nm,130,by omega,rfl⟩, ?_⟩
   have d0:decide (((130:Nat):Int)=130)=true:=rfl
   rw [qZ K5 rfl,zL]
   simp only [go_sem,qa,qb,qc,qd,qe,qf,reduceCtorEq,kh,qC,d0]
   try rfl
 have d0:decide ((d:Int)=130)=false:=decide_eq_false (by omega)
 have e1:w64 ((d:Int)+1)=((d+1:Nat):Int):=by rw [qo]<;>omega
 have e2:w64 (((d+1:Nat):Int) - 1)=(d:Int):=by rw [qo]<;>omega
 have hlt: ¬ 130≤d:=by omega
 obtain ⟨hp1,hp2⟩:=hP i nm (d+1) most (by omega) hi hnm (by omega)
 have tk: ∀ x:Tm,(x.kids.map oT).take x.kids.length=x.kids.map oT:=fun x=>List.take_of_length_le (by simp)
 refine ⟨?_, ?_⟩
 ·intro t i' nm' hp
  simp only [pT,if_neg hlt]at hp
  split at hp
  ·cases hp
  ·rename_i t1 q1 i1 nm1 h1
   have adv:=(xu l n).2.2.1 _ _ _ _ _ _ _ _ h1
   have nl:=(jC l n).2.2.1 _ _ _ _ _ _ _ _ h1
   have hc:=hp1 _ _ _ _ h1
   obtain ⟨G,hG,lp⟩:=(hL i1 nm1 (d+1) most t1 q1 (by omega) adv.2 (by omega) (by omega)).1 _ _ _ hp
   rw [qH t1]at hc
   rw [qZ K5 rfl,qH t]
   rcases hG with rfl|⟨s1,s2,a1,a2,a3,a4,a5,a6,b1,rfl⟩
   ·simp only [List.cons_append,List.nil_append]at lp
    simp only [go_sem,qa,qb,qc,qd,qe,qf,reduceCtorEq,kh,qC,d0,e1,hc,lp,e2,tk]
   ·simp only [List.cons_append,List.nil_append]at lp
    simp only [go_sem,qa,qb,qc,qd,qe,qf,reduceCtorEq,kh,qC,d0,e1,hc,lp,e2,tk]
 ·intro hp
  simp only [pT,if_neg hlt]at hp
  split at hp
  ·rename_i h1
   obtain ⟨g,q,cs,⟨a,nm1,d1,ha,rfl⟩,hc⟩:=hp2 h1
   refine ⟨g,_,⟨a,nm1,w64 (d1 - 1),by omega,rfl⟩, ?_⟩
   have lp:=qeh l τ a nm1 d1 g q most
   rw [List.nil_append]at lp
   rw [qH g]at hc ⊢
   rw [qZ K5 rfl]
   simp only [go_sem,qa,qb,qc,qd,qe,qf,reduceCtorEq,kh,qC,d0,e1,hc,lp,tk]
  ·rename_i t1 q1 i1 nm1 h1
   have adv:=(xu l n).2.2.1 _ _ _ _ _ _ _ _ h1
   have nl:=(jC l n).2.2.1 _ _ _ _ _ _ _ _ h1
   have hc:=hp1 _ _ _ _ h1
   obtain ⟨g,a,nm',d',G,ha,hG,lp⟩:=(hL i1 nm1 (d+1) most t1 q1 (by omega) adv.2 (by omega) (by omega)).2 hp
   refine ⟨g,_,⟨a,nm',w64 (d' - 1),by omega,rfl⟩, ?_⟩
   rw [qH t1]at hc
   rw [qZ K5 rfl,qH g]
   rcases hG with rfl|⟨s1,s2,a1,a2,a3,a4,a5,a6,b1,rfl⟩
   ·simp only [List.cons_append,List.nil_append]at lp
    simp only [go_sem,qa,qb,qc,qd,qe,qf,reduceCtorEq,kh,qC,d0,e1,hc,lp,tk]
   ·simp only [List.cons_append,List.nil_append]at lp
    simp only [go_sem,qa,qb,qc,qd,qe,qf,reduceCtorEq,kh,qC,d0,e1,hc,lp,tk]
end Go.Vm
namespace Go.Vm
def GBs(G:Mem):Prop:=G=[]∨ ∃ (s1:Str) (a1 a2 a3:Int),G=[((7,0),4,[.a [S s1,I a1,I a2,I a3]])]
def qq5(l:List Sg) (τ:Bool) (m:Nat) (cs:List V):Prop:= ∃ (a:Nat) (nm:List Str) (d:Int),a≤m∧cs=[.i τ (l.map Sg.v),I a,B true,I d,.o 1 (nm.map S)]
def qz0(l:List Sg) (i:Nat):Bool:=isM l i [44]||(decide ((sgD l i).kind=1)&& !(sgD l i).near)
end Go.Vm
namespace Go.Vm
end Go.Vm
namespace Go.Vm
def IB(l:List Sg) (τ:Bool) (n:Nat):Prop:= ∀ (i:Nat) (nm:List Str) (d:Nat) (acc:List Tm),4*(l.length - i)+1≤n→i≤l.length→nm.length≤i→acc.length≤i→d≤130→
 (∀ ks i' nm',pB l n i nm d acc=some (ks,i',nm')→ks.length≤i'∧lw qh kR ⟨[(0,.p (0,0) 0 0),(3,.s (100000,0) 0 (acc).length)],[((0,0),5,[.a [.i τ (l.map Sg.v),I i,.o 1 (List.map S nm),I (d),B false]]),((100000,0),4,(acc).map oT)]⟩=some (.exit 0,⟨[(0,.p (0,0) 0 0),(3,.s (100000,0) 0 (ks).length)],[((0,0),5,[.a [.i τ (l.map Sg.v),I i',.o 1 (List.map S nm'),I (d),B false]]),((100000,0),4,(ks).map oT)]⟩))∧
 (pB l n i nm d acc=none→ ∃ (ks:List Tm) (a:Nat) (nm':List Str) (d':Int),a≤l.length+8*n∧ks.length≤l.length+1∧lw qh kR ⟨[(0,.p (0,0) 0 0),(3,.s (100000,0) 0 (acc).length)],[((0,0),5,[.a [.i τ (l.map Sg.v),I i,.o 1 (List.map S nm),I (d),B false]]),((100000,0),4,(acc).map oT)]⟩=some (.exit 0,⟨[(0,.p (0,0) 0 0),(3,.s (100000,0) 0 (ks).length)],[((0,0),5,[.a [.i τ (l.map Sg.v),I a,.o 1 (List.map S nm'),I (d'),B true]]),((100000,0),4,(ks).map oT)]⟩))
def IA(l:List Sg) (τ:Bool) (n:Nat):Prop:= ∀ (i:Nat) (nm:List Str) (d:Nat),4*(l.length - i)+5≤n→i≤l.length→nm.length≤i→d≤130→
 (∀ ks i' nm',pA l n i nm d=some (ks,i',nm')→ks.length≤i'∧cw qh Qj [.b (.a [.i τ (l.map Sg.v),I i,.o 1 (List.map S nm),I (d),B false])]=some (.o 4 (ks.map oT),[.b (.a [.i τ (l.map Sg.v),I i',.o 1 (List.map S nm'),I (d),B false])]))∧
 (pA l n i nm d=none→ ∃ ks cs,Js l τ (l.length+8*n) cs∧ks.length≤l.length+1∧cw qh Qj [.b (.a [.i τ (l.map Sg.v),I i,.o 1 (List.map S nm),I (d),B false])]=some (.o 4 (List.map oT ks),[.b (.a cs)]))
theorem qiM(l:List Sg) (τ:Bool) (a:Nat) (nm:List Str) (d:Int) (ks:List Tm):
 lw qh kR ⟨[(0,.p (0,0) 0 0),(3,.s (100000,0) 0 (ks).length)],[((0,0),5,[.a [.i τ (l.map Sg.v),I a,.o 1 (List.map S nm),I (d),B true]]),((100000,0),4,(ks).map oT)]⟩=some (.exit 0,⟨[(0,.p (0,0) 0 0),(3,.s (100000,0) 0 (ks).length)],[((0,0),5,[.a [.i τ (l.map Sg.v),I a,.o 1 (List.map S nm),I (d),B true]]),((100000,0),4,(ks).map oT)]⟩):=by
 rw [qq]
 simp only [go_sem,qa,qb,qc,qd,qe,qf,reduceCtorEq,Kh]
theorem qi3(l:List Sg) (τ:Bool) (hg:GoodL l) (n:Nat) (hT:IT l τ n) (hB:IB l τ n):IB l τ (n+1):=by
 intro i nm d acc hn hi hnm ha hd
 have hlen:=hg.len
 have im:=qU l τ hlen i 0 (by omega) (by decide) (.i true (nm.map S)) d false [44]
 simp only [Nat.add_zero,Int.natCast_zero]at im
 have e1:w64 ((i:Int)+1)=((i+1:Nat):Int):=by rw [qo]<;>omega
 cases hm:isM l i [44]with
 |false=>
  rw [hm]at im
  have h:lw qh kR ⟨[(0,.p (0,0) 0 0),(3,.s (100000,0) 0 (acc).length)],[((0,0),5,[.a [.i τ (l.map Sg.v),I i,.o 1 (List.map S nm),I (d),B false]]),((100000,0),4,(acc).map oT)]⟩=some (.exit 0,⟨[(0,.p (0,0) 0 0),(3,.s (100000,0) 0 (acc).length)],[((0,0),5,[.a [.i τ (l.map Sg.v),I i,.o 1 (List.map S nm),I (d),B false]]),((100000,0),4,(acc).map oT)]⟩):=by
   rw [qq]
   simp only [go_sem,qa,qb,qc,qd,qe,qf,reduceCtorEq,Kh,im]
  refine ⟨?_, ?_⟩
  ·intro ks i' nm' hp
   simp only [pB,hm,Bool.false_eq_true,if_false,Option.some.injEq,Prod.mk.injEq]at hp
   obtain ⟨rfl,rfl,rfl⟩:=hp
   exact ⟨ha,h⟩
  ·intro hp
   simp only [pB,hm,Bool.false_eq_true,if_false,reduceCtorEq]at hp
 |true=>
  have hlt:=(z8 hm).1
  rw [hm]at im
  obtain ⟨ht1,ht2⟩:=hT (i+1) nm d 999 (by omega) (by omega) (by omega) hd
  have l1:decide ((acc.length+1)*56≤lim)=true:=decide_eq_true (by rw [zu];omega)
  have l2:decide (acc.length+1≤lim)=true:=decide_eq_true (by rw [zu];omega)
  have key: ∀ (y:Tm) (a:Nat) (nm1:List Str) (d1:Int) (b1:Bool),cw qh zY [.b (.a [.i τ (l.map Sg.v),I ((i+1:Nat):Int),.o 1 (List.map S nm),I (d),B false]),I 999]=some (oT y,[.b (.a [.i τ (l.map Sg.v),I a,.o 1 (List.map S nm1),I (d1),B b1]),I 999])→
   lw qh kR ⟨[(0,.p (0,0) 0 0),(3,.s (100000,0) 0 (acc).length)],[((0,0),5,[.a [.i τ (l.map Sg.v),I i,.o 1 (List.map S nm),I (d),B false]]),((100000,0),4,(acc).map oT)]⟩=lw qh kR ⟨[(0,.p (0,0) 0 0),(3,.s (100000,0) 0 ((acc++[y])).length)],[((0,0),5,[.a [.i τ (l.map Sg.v),I a,.o 1 (List.map S nm1),I (d1),B b1]]),((100000,0),4,((acc++[y])).map oT)]⟩:=by
   intro y a nm1 d1 b1 hc
   rw [qH y]at hc
   have tk:(acc.map oT).take acc.length=acc.map oT:=List.take_of_length_le (by simp)
   have tk2:(y.kids.map oT).take y.kids.length=y.kids.map oT:=List.take_of_length_le (by simp)
   rw [qq]
   simp only [List.map_append,List.map_cons,List.map_nil,List.length_append,List.length_cons,List.length_nil,qH y]
   simp only [go_sem,qa,qb,qc,qd,qe,qf,reduceCtorEq,Kh,im,e1,hc,l1,l2,tk,tk2]
  refine ⟨?_, ?_⟩
  ·intro ks i' nm' hp
   simp only [pB,hm,if_true]at hp
   split at hp
   ·cases hp
   ·rename_i y i1 nm1 hp1'
    have adv:=(xu l n).1 _ _ _ _ _ _ _ hp1'
    have nl:=(jC l n).1 _ _ _ _ _ _ _ hp1'
    rw [key y i1 nm1 d false (ht1 y i1 nm1 hp1')]
    exact (hB i1 nm1 d (acc++[y]) (by omega) adv.2 (by omega) (by simp only [List.length_append,List.length_cons,List.length_nil];omega) hd).1 ks i' nm' hp
  ·intro hp
   simp only [pB,hm,if_true]at hp
   split at hp
   ·rename_i hp1'
    obtain ⟨g,cs,⟨a,nm1,d1,ha',rfl⟩,hc⟩:=ht2 hp1'
    refine ⟨acc++[g],a,nm1,d1,by omega,by simp only [List.length_append,List.length_cons,List.length_nil];omega, ?_⟩
    rw [key g a nm1 d1 true hc]
    exact qiM l τ a nm1 d1 _
   ·rename_i y i1 nm1 hp1'
    have adv:=(xu l n).1 _ _ _ _ _ _ _ hp1'
    have nl:=(jC l n).1 _ _ _ _ _ _ _ hp1'
    obtain ⟨g,a,nm',d',ha',hk,h⟩:=(hB i1 nm1 d (acc++[y]) (by omega) adv.2 (by omega) (by simp only [List.length_append,List.length_cons,List.length_nil];omega) hd).2 hp
    refine ⟨g,a,nm',d',by omega,hk, ?_⟩
    rw [key y i1 nm1 d false (ht1 y i1 nm1 hp1')]
    exact h
theorem qi2(l:List Sg) (τ:Bool) (hg:GoodL l) (n:Nat) (hT:IT l τ n) (hB:IB l τ n):IA l τ (n+1):=by
 intro i nm d hn hi hnm hd
 have hlen:=hg.len
 obtain ⟨ht1,ht2⟩:=hT i nm d 999 (by omega) hi hnm hd
 have key: ∀ (y:Tm) (a:Nat) (nm1:List Str) (d1:Int) (b1:Bool) (ks:List Tm) (a':Nat) (nm2:List Str) (d2:Int) (b2:Bool),cw qh zY [.b (.a [.i τ (l.map Sg.v),I i,.o 1 (List.map S nm),I (d),B false]),I 999]=some (oT y,[.b (.a [.i τ (l.map Sg.v),I a,.o 1 (List.map S nm1),I (d1),B b1]),I 999])→
  lw qh kR ⟨[(0,.p (0,0) 0 0),(3,.s (100000,0) 0 ([y]).length)],[((0,0),5,[.a [.i τ (l.map Sg.v),I a,.o 1 (List.map S nm1),I (d1),B b1]]),((100000,0),4,([y]).map oT)]⟩=some (.exit 0,⟨[(0,.p (0,0) 0 0),(3,.s (100000,0) 0 (ks).length)],[((0,0),5,[.a [.i τ (l.map Sg.v),I a',.o 1 (List.map S nm2),I (d2),B b2]]),((100000,0),4,(ks).map oT)]⟩)→
  cw qh Qj [.b (.a [.i τ (l.map Sg.v),I i,.o 1 (List.map S nm),I (d),B false])]=some (.o 4 (ks.map oT),[.b (.a [.i τ (l.map Sg.v),I a',.o 1 (List.map S nm2),I (d2),B b2])]):=by
  intro y a nm1 d1 b1 ks a' nm2 d2 b2 hc lp
  rw [qH y]at hc
  simp only [List.map_cons,List.map_nil,List.length_cons,List.length_nil,qH y]at lp
  have tk:(ks.map oT).take ks.length=ks.map oT:=List.take_of_length_le (by simp)
  have tk2:(y.kids.map oT).take y.kids.length=y.kids.map oT:=List.take_of_length_le (by simp)
  rw [qZ qnT rfl]
  simp only [go_sem,qa,qb,qc,qd,qe,qf,reduceCtorEq,Z3,qC,hc,lp,tk,tk2]
 refine ⟨?_, ?_⟩
 ·intro ks i' nm' hp
  simp only [pA]at hp
  split at hp
  ·cases hp
  ·rename_i y i1 nm1 hp1'
   have adv:=(xu l n).1 _ _ _ _ _ _ _ hp1'
   have nl:=(jC l n).1 _ _ _ _ _ _ _ hp1'
   have lp:=(hB i1 nm1 d [y] (by omega) adv.2 (by omega) (by simp only [List.length_cons,List.length_nil];omega) hd).1 ks i' nm' hp
   exact ⟨lp.1,key y i1 nm1 d false ks i' nm' d false (ht1 y i1 nm1 hp1') lp.2⟩
 ·intro hp
  simp only [pA]at hp
  split at hp
  ·rename_i hp1'
   obtain ⟨g,cs,⟨a,nm1,d1,ha',rfl⟩,hc⟩:=ht2 hp1'
   exact ⟨[g],_,⟨a,nm1,d1,by omega,rfl⟩,by simp,key g a nm1 d1 true [g] a nm1 d1 true hc (qiM l τ a nm1 d1 [g])⟩
  ·rename_i y i1 nm1 hp1'
   have adv:=(xu l n).1 _ _ _ _ _ _ _ hp1'
   have nl:=(jC l n).1 _ _ _ _ _ _ _ hp1'
   obtain ⟨g,a,nm',d',ha',hk,h⟩:=(hB i1 nm1 d [y] (by omega) adv.2 (by omega) (by simp only [List.length_cons,List.length_nil];omega) hd).2 hp
   exact ⟨g,_,⟨a,nm',d',by omega,rfl⟩,hk,key y i1 nm1 d false g a nm' d' true (ht1 y i1 nm1 hp1') h⟩
end Go.Vm
namespace Go.Vm
theorem qkK(d:Nat) (t:Tm):qJ d (dT t)=dT t:=rfl
theorem qfQ(d:Nat): ∀ (ts:List Tm),qA d (ts.map dT)=ts.map dT
 |[]=>rfl
 |t::ts=>by rw [List.map_cons,qA,qkK,qfQ d ts]
theorem qib(k:Key) (ob:Ob): ∀ (ts:List Tm),zx k ob (ts.map dT)=none
 |[]=>rfl
 |t::ts=>by rw [List.map_cons,zx,qib k ob ts];rfl
theorem qjG(n:Nat) (T:Mem) (t:Tm):ze (n+2) T (dT t)=(dT t,T):=rfl
theorem qgq(n:Nat) (T:Mem): ∀ (ts:List Tm),qv (ze (n+2)) T (ts.map dT)=(ts.map dT,T)
 |[]=>rfl
 |t::ts=>by simp only [List.map_cons,qv,qjG,qgq n T ts]
theorem ZB(n:Nat) (T:Mem) (ys:List V): ∀ (xs:List Tm),qv (ze n) T (xs.map oT++ys)=(xs.map oT++(qv (ze n) T ys).1,(qv (ze n) T ys).2)
 |[]=>rfl
 |x::xs=>by
  have h:ze n T (oT x)=(oT x,T):=by unfold ze;rw [KK];rfl
  simp only [List.map_cons,List.cons_append,qv,h,ZB n T ys xs]
theorem qgx(d:Nat): ∀ (ts:List Tm) (i:Nat),zK d i false (ts.map dT)=ts.map dT
 |[],i=>rfl
 |t::ts,i=>by
  have h:qK d i false (dT t)=dT t:=rfl
  rw [List.map_cons,zK,h,qgx d ts]
theorem qgw(d:Nat) (ys:List V) (h: ∀ i,zK d i false ys=ys): ∀ (xs:List Tm) (i:Nat),zK d i false (xs.map oT++ys)=xs.map oT++ys
 |[],i=>h i
 |x::xs,i=>by
  have e:qK d i false (oT x)=oT x:=by rw [qH];rfl
  rw [List.map_cons,List.cons_append,zK,e,qgw d ys h xs]
theorem qh8(tb:List Key): ∀ (ts:List Tm),zP tb (ts.map dT)=ts.map dT
 |[]=>rfl
 |t::ts=>by
  have h:qQ tb (dT t)=dT t:=rfl
  rw [List.map_cons,zP,h,qh8 tb ts]
theorem qh7(tb:List Key) (ys:List V) (h:zP tb ys=ys): ∀ (xs:List Tm),zP tb (xs.map oT++ys)=xs.map oT++ys
 |[]=>h
 |x::xs=>by
  have e:qQ tb (oT x)=oT x:=by rw [qH];rfl
  rw [List.map_cons,List.cons_append,zP,e,qh7 tb ys h xs]
theorem qow {α:Type} (c:Bool) (x:α):zA c x x=x:=by cases c<;>rfl
theorem qgr(x:Tm) (r:Tm): ∀ (xs:List Tm),yA (xs++[x]) r=yA xs (.mk 4 [46] 0 [x,r])
 |[]=>rfl
 |y::ys=>by simp only [List.cons_append,yA,qgr x r ys]
theorem qbZ(l:List Sg) (τ:Bool) (a:Int) (nm:List Str) (d:Int) (b:Bool) (gs:List Tm) (hgs:gs.length≤2^30): ∀ (m:Nat),m≤gs.length→ ∀ (out:Tm),
 lw qh XX ⟨[(0,.p (0,0) 0 0),(2,.p (100000,0) 0 0),(3,.s (100000,1) 0 gs.length),(4,.p (100000,2) 0 0),(5,I (((m:Nat):Int) - 1))],[((0,0),5,[.a [.i τ (l.map Sg.v),I a,.o 1 (List.map S nm),I (d),B b]]),((100000,0),4,[.a [I 0,S [],I 0,.s (100000,3) 0 0]]),((100000,1),4,(((gs.take m).map oT++(gs.drop m).map dT))),((100000,2),4,[.a [I (Tm.kind out),S (Tm.name out),I (Tm.num out),.s (100000,4) 0 (Tm.kids out).length]]),((100000,3),4,[]),((100000,4),4,(Tm.kids out).map oT)]⟩=
  some (.exit 0,⟨[(0,.p (0,0) 0 0),(2,.p (100000,0) 0 0),(4,.p (100000,2) 0 0)],[((0,0),5,[.a [.i τ (l.map Sg.v),I a,.o 1 (List.map S nm),I (d),B b]]),((100000,0),4,[.a [I 0,S [],I 0,.s (100000,3) 0 0]]),((100000,1),4,gs.map dT),((100000,2),4,[.a [I (yA (gs.take m) out).kind,S (yA (gs.take m) out).name,I (yA (gs.take m) out).num,.s (100000,4) 0 (yA (gs.take m) out).kids.length]]),((100000,3),4,[]),((100000,4),4,(yA (gs.take m) out).kids.map oT)]⟩)
 |0,hm,out=>by
  have h1:((0:Nat):Int) - 1= -1:=rfl
  have h2: ¬ (0:Int)≤ -1:=by decide
  rw [qq,h1]
  simp only [List.take_zero,List.drop_zero,List.map_nil,List.nil_append,yA]
  simp only [go_sem,qa,qb,qc,qd,qe,qf,reduceCtorEq,JM,h2]
 |k+1,hm,out=>by
  have hk:k < gs.length:=hm
  obtain ⟨g,hgk⟩:=z6 (l:=gs) (i:=k) hk
  have h1:((k+1:Nat):Int) - 1=(k:Int):=by omega
  have hge:(0:Int)≤k:=by omega
  have hlen:((gs.take k).map oT).length=k:=by rw [List.length_map,List.length_take];omega
  have ix:=fun y=>ky (k:=(100000,1)) (e:=4) (xs:=(gs.take k).map oT++y::(gs.drop (k+1)).map dT) (i:=k) (len:=gs.length) (by omega) (by simp only [List.length_append,List.length_map,List.length_take,List.length_cons,List.length_drop];omega)
  have cg:=fun y zs=>qbI ((gs.take k).map oT) y zs k hlen
  have cs:=fun y y' zs=>qbJ ((gs.take k).map oT) y y' zs k hlen
  have st:=qiD [46] g out
  have tk: ∀ x:Tm,(x.kids.map oT).take x.kids.length=x.kids.map oT:=fun x=>List.take_of_length_le (by simp)
  have rp:=fun k' ob (y:V) (ys:List V)=>Ji k' ob ((gs.take k).map oT) (y::ys) (YD _)
  have hrow:(gs.take (k+1)).map oT++(gs.drop (k+1)).map dT=(gs.take k).map oT++oT g::(gs.drop (k+1)).map dT:=(qph (f:=oT) hgk _).symm
  have hdrop:gs.drop k=g::gs.drop (k+1):=by
   obtain ⟨h3,h4⟩:=List.getElem?_eq_some_iff.1 hgk
   rw [← h4];exact List.drop_eq_getElem_cons h3
  have hml:yA (gs.take (k+1)) out=yA (gs.take k) (.mk 4 [46] 0 [g,out]):=by
   obtain ⟨h3,h4⟩:=List.getElem?_eq_some_iff.1 hgk
   rw [List.take_succ_eq_append_getElem h3,h4,qgr]
  have ih:=qbZ l τ a nm d b gs hgs k (by omega) (.mk 4 [46] 0 [g,out])
  have e1:w64 ((k:Int) - 1)=(k:Int) - 1:=by rw [qo]<;>omega
  have nl:=qgw 0 ((g::gs.drop (k+1)).map dT) (fun i=>qgx 0 _ i) (gs.take k) 0
  have rl:=fun tb=>qh7 tb ((g::gs.drop (k+1)).map dT) (qh8 tb _) (gs.take k)
  rw [hml,h1,hrow, ← ih,hdrop,qH g]
  simp only [List.map_cons,List.map_nil,Kx,Ky,Kz,Qs,List.length_cons,List.length_nil,qH g,qH out]
  simp only [List.map_cons,dT]at nl rl
  rw [qq]
  simp only [go_sem,qa,qb,qc,qd,qe,qf,reduceCtorEq,JM,hge,ix,cg,cs,dT,Int.toNat_natCast,st,tk,qfQ,qib,rp,qgq,ZB,e1,nl,rl,qow]
end Go.Vm
namespace Go.Vm
def EXs(l:List Sg) (τ:Bool) (s:Str) (a:Nat) (nm:List Str) (d:Int) (b:Bool) (ks:List Tm) (st:St):Prop:=
 (b=true∧st=⟨[(0,.p (0,0) 0 0),(4,.p (100000,0) 0 0),(5,.p (100000,1) 0 0)],[((0,0),5,[.a [.i τ (l.map Sg.v),I a,B true,I (d),.o 1 (List.map S nm)]]),((100000,0),4,[.a [I 0,S [],I 0,.s (100000,2) 0 0]]),((100000,1),4,[.a [I (Tm.kind (Tm.mk 4 s 0 ks)),S (Tm.name (Tm.mk 4 s 0 ks)),I (Tm.num (Tm.mk 4 s 0 ks)),.s (100000,3) 0 (Tm.kids (Tm.mk 4 s 0 ks)).length]]),((100000,2),4,[]),((100000,3),4,(Tm.kids (Tm.mk 4 s 0 ks)).map oT)]⟩)∨(b=true∧ ∃ y:Tm,st=⟨[(0,.p (0,0) 0 0),(4,.p (100000,0) 0 0),(5,.p (100000,1) 0 0)],[((0,0),5,[.a [.i τ (l.map Sg.v),I a,B true,I (d),.o 1 (List.map S nm)]]),((6,0),4,[.a [I (Tm.kind y),S (Tm.name y),I (Tm.num y),.s (15,0) 0 (Tm.kids y).length]]),((15,0),4,(Tm.kids y).map oT),((100000,0),4,[.a [I 0,S [],I 0,.s (100000,2) 0 0]]),((100000,1),4,[.a [I 4,S s,I 0,.s (100000,3) 0 (ks).length]]),((100000,2),4,[]),((100000,3),4,(ks).map oT)]⟩)∨(b=false∧ ∃ (acc:List Tm) (y:Tm),ks=acc++[y]∧st=⟨[(0,.p (0,0) 0 0),(4,.p (100000,0) 0 0),(5,.p (100000,1) 0 0)],[((0,0),5,[.a [.i τ (l.map Sg.v),I a,B false,I (d),.o 1 (List.map S nm)]]),((100000,1),4,[.a [I 4,S s,I 0,.s (27,0) 0 ((acc).length+1)]]),((27,0),4,(acc).map oT++[.a [I (Tm.kind y),S (Tm.name y),I (Tm.num y),.s (15,0) 0 (Tm.kids y).length]]),((26,0),4,[.a [I (Tm.kind y),S (Tm.name y),I (Tm.num y),.s (15,0) 0 (Tm.kids y).length]]),((6,0),4,[.a [I (Tm.kind y),S (Tm.name y),I (Tm.num y),.s (15,0) 0 (Tm.kids y).length]]),((15,0),4,(Tm.kids y).map oT),((100000,0),4,[.a [I 0,S [],I 0,.s (100000,2) 0 0]]),((100000,2),4,[])]⟩)
def pC(l:List Sg) (n:Nat) (i:Nat) (nm:List Str) (d:Nat) (acc:List Tm):Option (List Tm × Nat × List Str):=
 match pT l n i nm d 999 with
 |none=>none
 |some (t,i',nm')=>pB l n i' nm' d (acc++[t])
end Go.Vm
namespace Go.Vm
def qz1(l:List Sg) (i:Nat):Bool:=decide ((sgD l (i+1)).kind=3)&&decide ((sgD l (i+1)).at_=(sgD l i).at_+1)
end Go.Vm
