import Derived.Test.YtnicgnmcacbplaaGreatT03
import Derived.Test.YtnicgnmcacbplaaGreatT04
import Derived.Lib.ItoaNum
open Nat renaming reduceAdd → qa, reduceSub → qb, reduceMul → qc, reduceEqDiff → qd, reduceLeDiff → qe, reduceBEq → qf
set_option autoImplicit false
set_option maxRecDepth 100000
set_option linter.unusedSimpArgs false
set_option linter.unusedVariables false
namespace Go.Vm
end Go.Vm
namespace Go.Vm
end Go.Vm
namespace Go.Vm
theorem q7 {α:Type} {f:α→V} {l:List α} {i:Nat} {x:α} (h:l[i]? =some x):(l.map f)[i]? =some (f x):=by simp [h]
end Go.Vm
namespace Go.Vm
theorem quE(x:Fl) (hw:wFl x) (v:V) (left:Int) (h:bFl x v): ∃ m,cr qg qbz [v,I left]=some (I m):=by
 obtain rfl:=h
 rw [qv qrC rfl]
 by_cases n1:w64 (left - x.name.length) < 0
 ·simp only [go_sem,qa,qb,qc,qd,qe,qf,reduceCtorEq,Q6,n1];exact ⟨_,rfl⟩
 by_cases n2:w64 ((w64 (left - x.name.length)) - x.text.length) < 0
 ·simp only [go_sem,qa,qb,qc,qd,qe,qf,reduceCtorEq,Q6,n1,n2];exact ⟨_,rfl⟩
 simp only [go_sem,qa,qb,qc,qd,qe,qf,reduceCtorEq,Q6,n1,n2];exact ⟨_,rfl⟩
theorem quL(x:Fl) (hw:wFl x) (v:V) (h:bFl x v):cr qg qbA [v]=some (oFl x):=by
 obtain rfl:=h
 rw [qv qrD rfl,oFl]
 simp only [go_sem,qa,qb,qc,qd,qe,qf,reduceCtorEq,Xh]
theorem qm1(x:Fl) (hw:wFl x) (y:Fl) (v v':V) (h:bFl x v) (h':bFl y v'):cr qg qbx [v,v']=some (B (decide (x=y))):=by
 obtain rfl:=h
 obtain rfl:=h'
 rw [qv qrw rfl]
 by_cases c0:x.name=y.name
 case neg=>
  have d0:decide (x.name=y.name)=false:=decide_eq_false c0
  have hf:decide (x=y)=false:=decide_eq_false fun h=>c0 (by rw [h])
  simp only [go_sem,qa,qb,qc,qd,qe,qf,reduceCtorEq,Q4,d0,hf]
 have d0:decide (x.name=y.name)=true:=decide_eq_true c0
 by_cases c1:x.text=y.text
 case neg=>
  have d1:decide (x.text=y.text)=false:=decide_eq_false c1
  have hf:decide (x=y)=false:=decide_eq_false fun h=>c1 (by rw [h])
  simp only [go_sem,qa,qb,qc,qd,qe,qf,reduceCtorEq,Q4,d0,d1,hf]
 have d1:decide (x.text=y.text)=true:=decide_eq_true c1
 have hf:decide (x=y)=true:=decide_eq_true (by cases x;cases y;simp only at c0 c1;simp only [Fl.mk.injEq];exact ⟨c0,c1⟩)
 simp only [go_sem,qa,qb,qc,qd,qe,qf,reduceCtorEq,Q4,d0,d1,hf]
theorem quD(τ:Bool) (vs:List V) (ts:List Fl) (hv:RL bFl ts vs) (hw:ts.length≤Lm) (hw': ∀ t ∈ ts,wFl t) (left:Int): ∃ m,cr qg qdO [.i τ vs,I left]=some (I m):=
 quG (prog:=qg) qdO qbz 2 rfl qd6 τ vs ts hv hw (fun t ht v left h=>quE t (hw' t ht) v left h) left
theorem qm0(τ τ':Bool) (vs vs':List V) (ts ts':List Fl) (hv:RL bFl ts vs) (hv':RL bFl ts' vs') (hw:ts.length≤Lm) (hw': ∀ t ∈ ts,wFl t):
 cr qg qdL [.i τ vs,.i τ' vs']=some (B (decide (ts=ts'))):=by
 have:=qm3 (prog:=qg) qdL qbx 2 rfl qd6 τ τ' vs vs' ts ts' hv hv' hw (fun t ht t' v v' h h'=>by rw [qm1 t (hw' t ht) t' v v' h h'])
 rw [this]
theorem quJ(τ:Bool) (vs:List V) (ts:List Fl) (n:Nat) (hl:ts.length=n) (hv:RL bFl ts vs) (hlim:n≤Lm)
 (hc: ∀ t ∈ ts,∀ v,bFl t v→cr qg qbA [v]=some (oFl t)) (m:Nat): ∀ i,i+m=n→
 lw qg JL ⟨[(0,.i τ vs),(3,.s (100000,0) 0 n),(4,I i)],[((100000,0),2,(ts.take i).map oFl++List.replicate m (V.a [S [],S []]))]⟩=
  some (.exit 0,⟨[(3,.s (100000,0) 0 n)],[((100000,0),2,ts.map oFl)]⟩):=by
 unfold Lm at hlim
 have hn:=yp hv
 rw [hl]at hn
 induction m with
 |zero=>
  intro i hi
  obtain rfl:i=n:=by omega
  rw [qn]
  have h1: ¬ (i:Int) < (i:Int):=by omega
  have h2:(ts.take i).map oFl++List.replicate 0 (V.a [S [],S []])=ts.map oFl:=by simp [List.take_of_length_le (Nat.le_of_eq hl)]
  rw [h2]
  simp only [go_sem,qa,qb,qc,qd,qe,qf,reduceCtorEq,qbX,hn,h1]
 |succ m ih=>
  intro i hi
  rw [qn]
  have hlt:(i:Int) < (n:Int):=by omega
  obtain ⟨t,ht⟩:=yh (l:=ts) (i:=i) (by omega)
  obtain ⟨v,g,hb⟩:=Zu hv ht
  have hcc:=hc t (List.mem_of_getElem? ht) v hb
  have a1:=q8 (τ:=τ) (T:=[((100000,0),2,(ts.take i).map oFl++List.replicate (m+1) (V.a [S [],S []]))]) g (qd6 _ _ hb).cells
  have e1:w64 ((i:Int)+1)=((i+1:Nat):Int):=by rw [qj]<;>omega
  have r1:=qs6 (f:=oFl) (z:=V.a [S [],S []]) ts i (m+1) n hi hl
  have r2:=qs5 (f:=oFl) (z:=V.a [S [],S []]) ts i m (by omega)
  have r3:=fun x=>qs8 (f:=oFl) (z:=V.a [S [],S []]) (x:=x) ts i m (by omega)
  have r4:=qfX (f:=oFl) ht (List.replicate m (V.a [S [],S []]))
  have i1:=ih (i+1) (by omega)
  obtain rfl:=hb
  rw [oFl]at hcc r4
  have kl: ∀ d,qG d ((ts.take i).map oFl++List.replicate (m+1) (V.a [S [],S []]))=(ts.take i).map oFl++List.replicate (m+1) (V.a [S [],S []]):=fun d=>by
   rw [qeX,qnF,qcq];rfl
  have ix:=xL (k:=(100000,0)) (e:=2) (xs:=(ts.take i).map oFl++List.replicate (m+1) (V.a [S [],S []])) (i:=i) (len:=n) (by omega) (by omega)
  have rp:=fun k ob (y:V) (ys:List V)=>kp k ob ((ts.take i).map oFl) (y::ys) (qeq _)
  simp only [go_sem,qa,qb,qc,qd,qe,qf,reduceCtorEq,qbX,hn,hlt,a1,g,hcc,e1,kl,ix,r1,r2,r3,rp,Option.map_some,r4]
  exact i1
theorem quK(τ:Bool) (vs:List V) (ts:List Fl) (hv:RL bFl ts vs) (hlim:ts.length≤Lm) (hw': ∀ t ∈ ts,wFl t):cr qg XE [.i τ vs]=some (.o 2 (ts.map oFl)):=by
 rw [qv qrE rfl]
 have h:=quJ τ vs ts ts.length rfl hv hlim (fun t ht v h=>quL t (hw' t ht) v h) ts.length 0 (by omega)
 simp only [Int.natCast_zero,List.take_zero,List.map_nil,List.nil_append]at h
 unfold Lm at hlim
 have mk:=fun σ T=>qqD (σ:=σ) (T:=T) (e:=2) (bytes:=32) (z:=V.a [S [],S []]) (n:=ts.length) (d:=7) (by rw [qW];omega) (by rw [qW];omega) rfl rfl rfl
 simp only [go_sem,qa,qb,qc,qd,qe,qf,reduceCtorEq,Xi,yp hv,mk,h]
end Go.Vm
namespace Go.Vm
def qib(n:Int):Nat→List Int→Int
 |_,[]=> -1
 |i,x::xs=>if n=x then (i:Int)else qib n (i+1) xs
end Go.Vm
namespace Go.Vm
mutual
def qam(l:List Int):Tm→List Int
 | .mk k _ n ks=>qan (if k=1∧n ∉ l then l++[n]else l) ks
def qan(l:List Int):List Tm→List Int
 |[]=>l
 |t::ts=>qan (qam l t) ts
end
def quT(t:Tm):List Int:=qam [] t
mutual
theorem qmh: ∀ (t:Tm) (l:List Int),(qam l t).length≤l.length+nT t
 | .mk k s n ks,l=>by
   simp only [qam,nT]
   have:=qgO ks (if k=1∧n ∉ l then l++[n]else l)
   have h2:(if k=1∧n ∉ l then l++[n]else l).length≤l.length+1:=by split<;>simp
   omega
theorem qgO: ∀ (ts:List Tm) (l:List Int),(qan l ts).length≤l.length+nTs ts
 |[],l=>by simp [qan,nTs]
 |t::ts,l=>by
  simp only [qan,nTs]
  have:=qmh t l
  have:=qgO ts (qam l t)
  omega
end
end Go.Vm
namespace Go.Vm
def qyq(caps:List V):Prop:= ∀ c ∈ caps,∃ xs i o,c= .q true xs i o
@[go_sem] theorem qKJ {α β:Type} {f:α→β} {g:β→V} {l:List α}:((l.map f).map g).take l.length=(l.map f).map g:=by
 apply List.take_of_length_le;simp
mutual
def rnm(φ:Int→Int):Tm→Tm
 | .mk k s n ks=> .mk k s (if k=1 then φ n else n) (qkV φ ks)
def qkV(φ:Int→Int):List Tm→List Tm
 |[]=>[]
 |t::ts=>rnm φ t::qkV φ ts
end
end Go.Vm
namespace Go.Vm
def qm7(fr:Int) (l:List Int):Int→Int:=fun n=>w64 (fr+qib n 0 l)
def qmx(c:Cl):Tm:= .mk 4 [58,45] 0 [c.head,c.body]
theorem quA(s:Str) (xs:List V) (hc:qE xs=true):cw qg QE [S s,.o 4 xs]=some (.a [I 4,S s,I 0,.o 4 xs],[S s,.d]):=by
 rw [qI qrq rfl]
 have hk: ∀ d,qG d xs=xs:=fun d=>qcr d xs hc
 simp only [go_sem,qa,qb,qc,qd,qe,qf,reduceCtorEq,Xa,qt,hc,hk]
def qqH(φ:Int→Int) (c:Cl):Cl:=⟨rnm φ c.head,rnm φ c.body,c.file⟩
def qGe(c:Cl):Cl:=qqH (qm7 0 (quT (qmx c))) c
end Go.Vm
set_option maxHeartbeats 8000000
namespace Go.Vm
theorem qK(k:Int) (s:Str) (n:Int):oT (.mk k s n [])= .a [I k,S s,I n,.o 4 []]:=rfl
theorem qnx(n:Int):cr qg qdK [I n]=some (oT (.mk 1 [] n [])):=by
 rw [qv qrs rfl,qK]
 simp only [go_sem,qa,qb,qc,qd,qe,qf,reduceCtorEq,Xb]
theorem qil(n:Int):cr qg qbt [I n]=some (oT (.mk 3 [] n [])):=by
 rw [qv qrh rfl,qK]
 simp only [go_sem,qa,qb,qc,qd,qe,qf,reduceCtorEq,Y6]
theorem qcl(s:Str):cr qg XA [S s]=some (oT (.mk 2 s 0 [])):=by
 rw [qv qq8 rfl,qK]
 simp only [go_sem,qa,qb,qc,qd,qe,qf,reduceCtorEq,Y4]
theorem qgf(n:Int):cr qg qbH [I n]=some (oT (.mk 1 [] n [])):=by
 rw [qv qr2 rfl,qK]
 simp only [go_sem,qa,qb,qc,qd,qe,qf,reduceCtorEq,Xt]
theorem qlr(n:Int):cr qg qbF [I n]=some (oT (.mk 3 [] n [])):=by
 rw [qv qrY rfl,qK]
 simp only [go_sem,qa,qb,qc,qd,qe,qf,reduceCtorEq,Xr]
theorem qdj(s:Str):cr qg XG [S s]=some (oT (.mk 2 s 0 [])):=by
 rw [qv qrU rfl,qK]
 simp only [go_sem,qa,qb,qc,qd,qe,qf,reduceCtorEq,Xo]
theorem jd(s:Str) (ks:List Tm):oT (.mk 4 s 0 ks)= .a [I 4,S s,I 0,.o 4 (ks.map oT)]:=by rw [qp];rfl
theorem qgj(s:Str) (ks:List Tm):cw qg QE [S s,.o 4 (ks.map oT)]=some (oT (.mk 4 s 0 ks),[S s,.d]):=by
 rw [quA s (ks.map oT) (x6 ks),jd]
def dT(t:Tm):V:= .a [I t.kind,S t.name,I t.num,.d]
theorem qiA(s:Str) (a b:Tm):cw qg qbG [S s,oT a,oT b]=some (oT (.mk 4 s 0 [a,b]),[S s,dT a,dT b]):=by
 rw [qI qr1 rfl,jd,List.map_cons,List.map_cons,List.map_nil,qp a,qp b,dT,dT]
 simp only [go_sem,qa,qb,qc,qd,qe,qf,reduceCtorEq,Xs,qt]
end Go.Vm
namespace Go.Vm
end Go.Vm
namespace Go.Vm
end Go.Vm
namespace Go.Vm
theorem QO(x lo hi:Int):cr qg Yk [I x,I lo,I hi]=some (B (decide (lo≤x∧x≤hi))):=by
 rw [qv qrT rfl]
 by_cases h1:lo≤x<;>by_cases h2:x≤hi<;>simp only [go_sem,qa,qb,qc,qd,qe,qf,reduceCtorEq,Xn,h1,h2]
theorem jp(x lo hi:Int):cr qg jW [I x,I lo,I hi]=some (B (decide (lo≤x∧x≤hi))):=by
 rw [qv qrt rfl]
 by_cases h1:lo≤x<;>by_cases h2:x≤hi<;>simp only [go_sem,qa,qb,qc,qd,qe,qf,reduceCtorEq,Xc,h1,h2]
def zL(c:UInt8):Bool:=decide (33≤c.toNat∧c.toNat≤126∧c.toNat ≠ 39∧c.toNat ≠ 34)
def xP(s:Str):Bool:=s.all zL
def xj(s:Str):Bool:=xP s&&decide (1≤s.length∧s.length≤20)
theorem qfh(c:UInt8):(zL c=true∧ ¬ (c.toNat:Int) < 33∧ ¬ (126:Int) < c.toNat∧decide ((c.toNat:Int)=39)=false∧decide ((c.toNat:Int)=34)=false)∨(zL c=false∧((c.toNat:Int) < 33∨ ¬ (c.toNat:Int) < 33∧((126:Int) < c.toNat∨ ¬ (126:Int) < c.toNat∧(decide ((c.toNat:Int)=39)=true∨decide ((c.toNat:Int)=39)=false∧decide ((c.toNat:Int)=34)=true)))):=by
 unfold zL
 by_cases h:33≤c.toNat∧c.toNat≤126∧c.toNat ≠ 39∧c.toNat ≠ 34
 ·left;exact ⟨decide_eq_true h,by omega,by omega,decide_eq_false (by omega),decide_eq_false (by omega)⟩
 ·right;refine ⟨decide_eq_false h, ?_⟩
  simp only [decide_eq_true_eq,decide_eq_false_iff_not]
  omega
theorem qpu(s:Str) (hl:s.length≤2^61):
 lw qg XO ⟨[(0,S s),(3,I 0)],[]⟩=if xP s=true then some (.exit 0,⟨[(0,S s)],[]⟩)else some (.ret,⟨[(2,B false)],[]⟩):=by
 refine Qg s (fun i r=>lw qg XO ⟨[(0,S s),(3,I i)],[]⟩=if xP r=true then some (.exit 0,⟨[(0,S s)],[]⟩)else some (.ret,⟨[(2,B false)],[]⟩)) (by omega) ?_ ?_
 ·rw [qn]
  simp only [go_sem,qa,qb,qc,qd,qe,qf,reduceCtorEq,Zr,xP,List.all_nil]
 ·intro i c r ht hi hlt e1 hir hm hr ih
  have ix:=z8 (l:=s) (i:=(i:Int)) (c:=c) (by omega) (by simpa using ht)
  rw [qn]
  unfold xP at ih ⊢
  rcases qfh c with ⟨h0,h1,h2,h3,h4⟩|⟨h0,h1|⟨h1,h2|⟨h2,h3|⟨h3,h4⟩⟩⟩⟩
  ·rw [List.all_cons,h0,Bool.true_and, ← ih]
   simp only [go_sem,qa,qb,qc,qd,qe,qf,reduceCtorEq,Zr,hlt,ix,e1,h1,h2,h3,h4]
  ·simp only [go_sem,qa,qb,qc,qd,qe,qf,reduceCtorEq,Zr,hlt,ix,e1,h1,List.all_cons,h0]
  ·simp only [go_sem,qa,qb,qc,qd,qe,qf,reduceCtorEq,Zr,hlt,ix,e1,h1,h2,List.all_cons,h0]
  ·simp only [go_sem,qa,qb,qc,qd,qe,qf,reduceCtorEq,Zr,hlt,ix,e1,h1,h2,h3,List.all_cons,h0]
  ·simp only [go_sem,qa,qb,qc,qd,qe,qf,reduceCtorEq,Zr,hlt,ix,e1,h1,h2,h3,h4,List.all_cons,h0]
theorem qiz(s:Str) (hl:s.length≤2^61):cr qg Jp [S s]=some (B (xj s)):=by
 rw [qv qrX rfl]
 have h:=qpu s hl
 have h2:=QO s.length 1 20
 have h3:decide ((1:Int)≤s.length∧(s.length:Int)≤20)=decide (1≤s.length∧s.length≤20):=decide_eq_decide.2 (by omega)
 rw [h3]at h2
 unfold xj
 cases hb:xP s with
 |true=>rw [hb,if_pos rfl]at h;simp only [go_sem,qa,qb,qc,qd,qe,qf,reduceCtorEq,Yb,h,h2]
 |false=>rw [hb]at h;simp only [go_sem,qa,qb,qc,qd,qe,qf,reduceCtorEq,Yb,h]
theorem qnl(s:Str) (hl:s.length≤2^61):
 lw qg XJ ⟨[(0,S s),(3,I 0)],[]⟩=if xP s=true then some (.exit 0,⟨[(0,S s)],[]⟩)else some (.ret,⟨[(2,B false)],[]⟩):=by
 refine Qg s (fun i r=>lw qg XJ ⟨[(0,S s),(3,I i)],[]⟩=if xP r=true then some (.exit 0,⟨[(0,S s)],[]⟩)else some (.ret,⟨[(2,B false)],[]⟩)) (by omega) ?_ ?_
 ·rw [qn]
  simp only [go_sem,qa,qb,qc,qd,qe,qf,reduceCtorEq,Zo,xP,List.all_nil]
 ·intro i c r ht hi hlt e1 hir hm hr ih
  have ix:=z8 (l:=s) (i:=(i:Int)) (c:=c) (by omega) (by simpa using ht)
  have hc:=UInt8.toNat_lt c
  have hw:w64 (c.toNat:Int)=c.toNat:=by rw [qj]<;>omega
  have hin:=jp c.toNat 33 126
  rw [qn]
  unfold xP at ih ⊢
  rcases qfh c with ⟨h0,h1,h2,h3,h4⟩|⟨h0,h1|⟨h1,h2|⟨h2,h3|⟨h3,h4⟩⟩⟩⟩
  ·rw [decide_eq_true (show (33:Int)≤c.toNat∧(c.toNat:Int)≤126 by first|omega|(simp only [decide_eq_true_eq,decide_eq_false_iff_not]at*;omega))]at hin
   rw [List.all_cons,h0,Bool.true_and, ← ih]
   simp only [go_sem,qa,qb,qc,qd,qe,qf,reduceCtorEq,Zo,hlt,ix,e1,hw,hin,h1,h2,h3,h4]
  ·rw [decide_eq_false (show ¬ ((33:Int)≤c.toNat∧(c.toNat:Int)≤126)by omega)]at hin
   simp only [go_sem,qa,qb,qc,qd,qe,qf,reduceCtorEq,Zo,hlt,ix,e1,hw,hin,List.all_cons,h0]
  ·rw [decide_eq_false (show ¬ ((33:Int)≤c.toNat∧(c.toNat:Int)≤126)by omega)]at hin
   simp only [go_sem,qa,qb,qc,qd,qe,qf,reduceCtorEq,Zo,hlt,ix,e1,hw,hin,List.all_cons,h0]
  ·rw [decide_eq_true (show (33:Int)≤c.toNat∧(c.toNat:Int)≤126 by first|omega|(simp only [decide_eq_true_eq,decide_eq_false_iff_not]at*;omega))]at hin
   simp only [go_sem,qa,qb,qc,qd,qe,qf,reduceCtorEq,Zo,hlt,ix,e1,hw,hin,h3,List.all_cons,h0]
  ·rw [decide_eq_true (show (33:Int)≤c.toNat∧(c.toNat:Int)≤126 by first|omega|(simp only [decide_eq_true_eq,decide_eq_false_iff_not]at*;omega))]at hin
   simp only [go_sem,qa,qb,qc,qd,qe,qf,reduceCtorEq,Zo,hlt,ix,e1,hw,hin,h3,h4,List.all_cons,h0]
theorem qnm(s:Str) (hl:s.length≤2^61):cr qg qbr [S s]=some (B (xj s)):=by
 rw [qv qre rfl]
 have h:=qnl s hl
 have h2:=jp s.length 1 20
 have h3:decide ((1:Int)≤s.length∧(s.length:Int)≤20)=decide (1≤s.length∧s.length≤20):=decide_eq_decide.2 (by omega)
 rw [h3]at h2
 unfold xj
 cases hb:xP s with
 |true=>rw [hb,if_pos rfl]at h;simp only [go_sem,qa,qb,qc,qd,qe,qf,reduceCtorEq,ZX,h,h2]
 |false=>rw [hb]at h;simp only [go_sem,qa,qb,qc,qd,qe,qf,reduceCtorEq,ZX,h]
end Go.Vm
namespace Go.Vm
def YL(t:Tm):Bool:=
 if t.kind=1 then decide (0≤t.num∧t.num≤99999)&&(decide (t.name=[])&&decide ((t.kids.length:Int)=0))
 else if t.kind=2 then xj t.name&&(decide (t.num=0)&&decide ((t.kids.length:Int)=0))
 else if t.kind=3 then decide (-999999999≤t.num∧t.num≤999999999)&&(decide (t.name=[])&&decide ((t.kids.length:Int)=0))
 else if t.kind=4 then xj t.name&&(decide (t.num=0)&&decide (1≤(t.kids.length:Int)∧(t.kids.length:Int)≤5))
 else false
mutual
def jl:Int→Tm→Bool
 |d,.mk k s n ks=>decide (d≤40)&&(YL (.mk k s n ks)&&yH (d+1) ks)
def yH:Int→List Tm→Bool
 |_,[]=>true
 |d,t::ts=>jl d t&&yH d ts
end
def ku(t:Tm):Bool:=decide (nT t≤400)&&jl 1 t
theorem qpv(t:Tm) (hn:t.name.length≤2^61) (v:V) (hb:BT t v):cr qg qdX [v]=some (B (YL t)):=by
 obtain ⟨τ,vs,rfl,hv⟩:=kN hb
 have hl:=yp hv
 rw [qv qrZ rfl]
 have i1:=QO t.num 0 99999
 have i2:=QO t.num (-999999999) 999999999
 have i3:=QO t.kids.length 1 5
 have nm:=qiz t.name hn
 unfold YL
 by_cases k1:t.kind=1
 ·have d1:decide (t.kind=1)=true:=decide_eq_true k1
  rw [if_pos k1]
  cases c1:decide (0≤t.num∧t.num≤99999)with
  |false=>rw [c1]at i1;simp only [go_sem,qa,qb,qc,qd,qe,qf,reduceCtorEq,yW,d1,i1]
  |true=>
   rw [c1]at i1
   cases c2:decide (t.name=[])with
   |false=>simp only [go_sem,qa,qb,qc,qd,qe,qf,reduceCtorEq,yW,d1,i1,c2]
   |true=>simp only [go_sem,qa,qb,qc,qd,qe,qf,reduceCtorEq,yW,d1,i1,c2,hl]
 rw [if_neg k1]
 have d1:decide (t.kind=1)=false:=decide_eq_false k1
 by_cases k2:t.kind=2
 ·have d2:decide (t.kind=2)=true:=decide_eq_true k2
  rw [if_pos k2]
  cases c1:xj t.name with
  |false=>rw [c1]at nm;simp only [go_sem,qa,qb,qc,qd,qe,qf,reduceCtorEq,yW,d1,d2,nm]
  |true=>
   rw [c1]at nm
   cases c2:decide (t.num=0)with
   |false=>simp only [go_sem,qa,qb,qc,qd,qe,qf,reduceCtorEq,yW,d1,d2,nm,c2]
   |true=>simp only [go_sem,qa,qb,qc,qd,qe,qf,reduceCtorEq,yW,d1,d2,nm,c2,hl]
 rw [if_neg k2]
 have d2:decide (t.kind=2)=false:=decide_eq_false k2
 by_cases k3:t.kind=3
 ·have d3:decide (t.kind=3)=true:=decide_eq_true k3
  rw [if_pos k3]
  cases c1:decide (-999999999≤t.num∧t.num≤999999999)with
  |false=>rw [c1]at i2;simp only [go_sem,qa,qb,qc,qd,qe,qf,reduceCtorEq,yW,d1,d2,d3,i2]
  |true=>
   rw [c1]at i2
   cases c2:decide (t.name=[])with
   |false=>simp only [go_sem,qa,qb,qc,qd,qe,qf,reduceCtorEq,yW,d1,d2,d3,i2,c2]
   |true=>simp only [go_sem,qa,qb,qc,qd,qe,qf,reduceCtorEq,yW,d1,d2,d3,i2,c2,hl]
 rw [if_neg k3]
 have d3:decide (t.kind=3)=false:=decide_eq_false k3
 by_cases k4:t.kind=4
 ·have d4:decide (t.kind=4)=true:=decide_eq_true k4
  rw [if_pos k4]
  cases c1:xj t.name with
  |false=>rw [c1]at nm;simp only [go_sem,qa,qb,qc,qd,qe,qf,reduceCtorEq,yW,d1,d2,d3,d4,nm]
  |true=>
   rw [c1]at nm
   cases c2:decide (t.num=0)with
   |false=>simp only [go_sem,qa,qb,qc,qd,qe,qf,reduceCtorEq,yW,d1,d2,d3,d4,nm,c2]
   |true=>simp only [go_sem,qa,qb,qc,qd,qe,qf,reduceCtorEq,yW,d1,d2,d3,d4,nm,c2,hl,i3]
 rw [if_neg k4]
 have d4:decide (t.kind=4)=false:=decide_eq_false k4
 simp only [go_sem,qa,qb,qc,qd,qe,qf,reduceCtorEq,yW,d1,d2,d3,d4]
mutual
def x8:Tm→Int→Int
 | .mk _ _ _ ks,r=>jC ks (r - 1)
def jC:List Tm→Int→Int
 |[],r=>r
 |t::ts,r=>if 0≤r then jC ts (x8 t r)else r
end
mutual
theorem qet: ∀ (t:Tm) (r:Int),0≤r→(nT t≤r→x8 t r=r - nT t)∧(¬ (nT t:Int)≤r→x8 t r < 0∧ -1≤x8 t r)
 | .mk k s n ks,r,h=>by
   have:=qeu ks (r - 1) (by omega)
   simp only [x8,nT]
   refine ⟨fun h1=> ?_,fun h1=> ?_⟩
   ·rw [this.1 (by omega)];omega
   ·exact this.2 (by omega)
theorem qeu: ∀ (ts:List Tm) (r:Int),-1≤r→(nTs ts≤r→jC ts r=r - nTs ts)∧(¬ (nTs ts:Int)≤r→jC ts r < 0∧ -1≤jC ts r)
 |[],r,h=>by simp only [jC,nTs];omega
 |t::ts,r,h=>by
  simp only [jC,nTs]
  by_cases h0:0≤r
  ·rw [if_pos h0]
   have h1:=qet t r h0
   have hp:=qaO t
   by_cases h2:(nT t:Int)≤r
   ·rw [h1.1 h2]
    have h3:=qeu ts (r - nT t) (by omega)
    refine ⟨fun h4=> ?_,fun h4=> ?_⟩
    ·rw [h3.1 (by omega)];omega
    ·exact h3.2 (by omega)
   ·have h3:=h1.2 h2
    have h4:=qeu ts (x8 t r) h3.2
    refine ⟨fun h5=>by omega,fun h5=> ?_⟩
    exact h4.2 (by omega)
  ·rw [if_neg h0]
   have:=qaO t
   omega
end
theorem qmC(t:Tm) (r:Int) (h:0≤r): -1≤x8 t r∧x8 t r≤r:=by
 have h1:=qet t r h
 have:=qaO t
 by_cases h2:(nT t:Int)≤r
 ·rw [h1.1 h2];omega
 ·have:=h1.2 h2;omega
theorem qps(t:Tm) (τ:Bool) (vs:List V) (hv:RL BT t.kids vs) (hlim:t.kids.length≤Lm)
 (hc: ∀ u ∈ t.kids,∀ v r,BT u v→0≤r→r≤2^40→cr qg Jo [v,I r]=some (I (x8 u r))): ∀ r:Int,-1≤r→r≤2^40→
 lw qg XN ⟨[(1,I r),(2,.p (100000,0) 0 0),(5,I 0)],[((100000,0),4,[.a [I t.kind,S t.name,I t.num,.i τ vs]])]⟩=some (.exit 0,⟨[(1,I (jC t.kids r))],[((100000,0),4,[.a [I t.kind,S t.name,I t.num,.i τ vs]])]⟩):=by
 unfold Lm at hlim
 have hn:=yp hv
 refine Qg t.kids (fun i ks=> ∀ r:Int,-1≤r→r≤2^40→lw qg XN ⟨[(1,I r),(2,.p (100000,0) 0 0),(5,I i)],[((100000,0),4,[.a [I t.kind,S t.name,I t.num,.i τ vs]])]⟩=some (.exit 0,⟨[(1,I (jC ks r))],[((100000,0),4,[.a [I t.kind,S t.name,I t.num,.i τ vs]])]⟩)) (by omega) ?_ ?_
 ·intro r h1 h2
  rw [qn]
  simp only [go_sem,qa,qb,qc,qd,qe,qf,reduceCtorEq,qag,hn,jC]
 ·intro i u ks ht hi hlt e1 hir hm hr ih r h1 h2
  obtain ⟨v,gv,hbt⟩:=Zu hv ht
  have a1:=fun T=>q8 (τ:=τ) (T:=T) gv (qds hbt)
  rw [qn,jC]
  by_cases h0:0≤r
  ·have hcc:=hc u hm v r hbt h0 h2
   have hb:=qmC u r h0
   have i1:=ih (x8 u r) hb.1 (by omega)
   obtain ⟨σ1,ws,rfl,-⟩:=kN hbt
   simp only [go_sem,qa,qb,qc,qd,qe,qf,reduceCtorEq,qag,hn,hlt,h0,a1,gv,hcc,e1]
   exact i1
  ·simp only [go_sem,qa,qb,qc,qd,qe,qf,reduceCtorEq,qag,hn,hlt,h0]
theorem qpt: ∀ (t:Tm),WT t→ ∀ v r,BT t v→0≤r→r≤2^40→cr qg Jo [v,I r]=some (I (x8 t r)):=by
 refine qb1 ?_
 intro k s n ks ih hw v r hb h0 h1
 obtain ⟨τ,vs,rfl,hv⟩:=kN hb
 have e1:w64 (r - 1)=r - 1:=by rw [qj]<;>omega
 have h:=qps (.mk k s n ks) τ vs hv (qb2 hw) (fun u hu=>ih u hu (qeb hw u hu)) (r - 1) (by omega) (by omega)
 simp only [xc,xd,xf,yJ]at h
 rw [qv qrV rfl,x8]
 simp only [go_sem,qa,qb,qc,qd,qe,qf,reduceCtorEq,Xp,e1,h]
theorem qpw(t:Tm) (τ:Bool) (vs:List V) (hv:RL BT t.kids vs) (hlim:t.kids.length≤Lm) (d:Int) (hd0:0≤d) (hd:d≤40)
 (hc: ∀ u ∈ t.kids,∀ v,BT u v→cr qg Jq [v,I (d+1)]=some (B (jl (d+1) u))):
 lw qg XP ⟨[(1,I d),(2,.p (100000,0) 0 0),(5,I 0)],[((100000,0),4,[.a [I t.kind,S t.name,I t.num,.i τ vs]])]⟩=if yH (d+1) t.kids=true then some (.exit 0,⟨[],[((100000,0),4,[.a [I t.kind,S t.name,I t.num,.i τ vs]])]⟩)else some (.ret,⟨[(4,B false)],[((100000,0),4,[.a [I t.kind,S t.name,I t.num,.i τ vs]])]⟩):=by
 unfold Lm at hlim
 have hn:=yp hv
 refine Qg t.kids (fun i ks=>lw qg XP ⟨[(1,I d),(2,.p (100000,0) 0 0),(5,I i)],[((100000,0),4,[.a [I t.kind,S t.name,I t.num,.i τ vs]])]⟩=if yH (d+1) ks=true then some (.exit 0,⟨[],[((100000,0),4,[.a [I t.kind,S t.name,I t.num,.i τ vs]])]⟩)else some (.ret,⟨[(4,B false)],[((100000,0),4,[.a [I t.kind,S t.name,I t.num,.i τ vs]])]⟩)) (by omega) ?_ ?_
 ·rw [qn]
  simp only [go_sem,qa,qb,qc,qd,qe,qf,reduceCtorEq,qah,hn,yH]
 ·intro i u ks ht hi hlt e1 hir hm hr ih
  obtain ⟨v,gv,hbt⟩:=Zu hv ht
  have a1:=fun T=>q8 (τ:=τ) (T:=T) gv (qds hbt)
  have hcc:=hc u hm v hbt
  have e2:w64 (d+1)=d+1:=by rw [qj]<;>omega
  obtain ⟨σ1,ws,rfl,-⟩:=kN hbt
  rw [qn,yH]
  cases hr:jl (d+1) u with
  |true=>
   rw [hr]at hcc
   rw [Bool.true_and, ← ih]
   simp only [go_sem,qa,qb,qc,qd,qe,qf,reduceCtorEq,qah,hn,hlt,a1,gv,hcc,e1,e2]
  |false=>
   rw [hr]at hcc
   simp only [go_sem,qa,qb,qc,qd,qe,qf,reduceCtorEq,qah,hn,hlt,a1,gv,hcc,e1,e2]
theorem qpx: ∀ (t:Tm),WT t→ ∀ (d:Int) v,0≤d→d≤41→BT t v→cr qg Jq [v,I d]=some (B (jl d t)):=by
 refine qb1 ?_
 intro k s n ks ih hw d v h0 h1 hb
 have ho:=qpv (.mk k s n ks) (by have:=qgG hw;unfold Lm at this;omega) v hb
 obtain ⟨τ,vs,rfl,hv⟩:=kN hb
 simp only [xc,xd,xf,yJ]at ho
 rw [qv qr0 rfl,jl]
 by_cases hd:40 < d
 ·have:decide (d≤40)=false:=decide_eq_false (by omega)
  simp only [go_sem,qa,qb,qc,qd,qe,qf,reduceCtorEq,Qx,hd,this]
 ·have hdt:decide (d≤40)=true:=decide_eq_true (by omega)
  cases h2:YL (.mk k s n ks)with
  |false=>
   rw [h2]at ho
   simp only [go_sem,qa,qb,qc,qd,qe,qf,reduceCtorEq,Qx,hd,hdt,ho]
  |true=>
   rw [h2]at ho
   have h:=qpw (.mk k s n ks) τ vs hv (qb2 hw) d h0 (by omega) (fun u hu v hb=>ih u hu (qeb hw u hu) (d+1) v (by omega) (by omega) hb)
   simp only [xc,xd,xf,yJ]at h
   cases h3:yH (d+1) ks with
   |true=>rw [h3,if_pos rfl]at h;simp only [go_sem,qa,qb,qc,qd,qe,qf,reduceCtorEq,Qx,hd,hdt,ho,h]
   |false=>rw [h3]at h;simp only [go_sem,qa,qb,qc,qd,qe,qf,reduceCtorEq,Qx,hd,hdt,ho,h]
theorem qlo(t:Tm) (hw:WT t) (v:V) (hb:BT t v):cr qg qdW [v]=some (B (ku t)):=by
 have h1:=qpt t hw v 400 hb (by decide) (by decide)
 have h2:=qpx t hw 1 v (by decide) (by decide) hb
 have hc:=qet t 400 (by decide)
 obtain ⟨τ,vs,rfl,hv⟩:=kN hb
 rw [qv qrS rfl]
 unfold ku
 by_cases h:nT t≤400
 ·have h3:0≤x8 t 400:=by rw [hc.1 (by omega)];omega
  have h4:decide (nT t≤400)=true:=decide_eq_true h
  simp only [go_sem,qa,qb,qc,qd,qe,qf,reduceCtorEq,Ya,h1,h2,h3,h4]
 ·have h3: ¬ 0≤x8 t 400:=by have:=(hc.2 (by omega)).1;omega
  have h4:decide (nT t≤400)=false:=decide_eq_false h
  simp only [go_sem,qa,qb,qc,qd,qe,qf,reduceCtorEq,Ya,h1,h3,h4]
end Go.Vm
set_option maxHeartbeats 4000000
namespace Go.Vm
def szI(d:Int) (t:Tm):Int:=if jl d t=true∧nT t≤400 then nT t else 401
theorem qlD(d:Int) (t:Tm):1≤szI d t∧szI d t≤401:=by
 have:=qaO t
 unfold szI
 split<;>omega
theorem qt0(t:Tm) (τ:Bool) (vs:List V) (hv:RL BT t.kids vs) (hlim:t.kids.length≤Lm) (d:Int) (hd0:0≤d) (hd:d≤40)
 (hc: ∀ u ∈ t.kids,∀ v,BT u v→cr qg Jj [v,I (d+1)]=some (I (szI (d+1) u))): ∀ n:Int,0≤n→n≤400→
 (yH (d+1) t.kids=true∧n+(nTs t.kids:Int)≤400→lw qg j0 ⟨[(1,I d),(5,I n),(82,.i τ vs),(83,I t.kids.length),(84,I 0)],[]⟩=some (.exit 1,⟨[(5,I (n+(nTs t.kids:Int)))],[]⟩))∧(¬ (yH (d+1) t.kids=true∧n+(nTs t.kids:Int)≤400)→ ∃ T,lw qg j0 ⟨[(1,I d),(5,I n),(82,.i τ vs),(83,I t.kids.length),(84,I 0)],[]⟩=some (.ret,⟨[(4,I 401)],T⟩)):=by
 unfold Lm at hlim
 have hn:=yp hv
 refine Qg t.kids (fun i ks=> ∀ n:Int,0≤n→n≤400→(yH (d+1) ks=true∧n+(nTs ks:Int)≤400→lw qg j0 ⟨[(1,I d),(5,I n),(82,.i τ vs),(83,I t.kids.length),(84,I i)],[]⟩=some (.exit 1,⟨[(5,I (n+(nTs ks:Int)))],[]⟩))∧(¬ (yH (d+1) ks=true∧n+(nTs ks:Int)≤400)→ ∃ T,lw qg j0 ⟨[(1,I d),(5,I n),(82,.i τ vs),(83,I t.kids.length),(84,I i)],[]⟩=some (.ret,⟨[(4,I 401)],T⟩))) (by omega) ?_ ?_
 ·intro n h0 h1
  have e0:n+((nTs []:Nat):Int)=n:=by simp only [nTs];omega
  refine ⟨fun _=> ?_,fun hx=>absurd ⟨rfl,by rw [e0];exact h1⟩ hx⟩
  rw [qn,e0]
  simp only [go_sem,qa,qb,qc,qd,qe,qf,reduceCtorEq,J4,hn]
 ·intro i u ks ht hi hlt e1 hir hm hr ih n h0 h1
  obtain ⟨v,gv,hbt⟩:=Zu hv ht
  have a1:=fun T=>q8 (τ:=τ) (T:=T) gv (qds hbt)
  have hcc:=hc u hm v hbt
  have hb:=qlD (d+1) u
  have e2:w64 (d+1)=d+1:=by rw [qj]<;>omega
  have e3:w64 (n+szI (d+1) u)=n+szI (d+1) u:=by rw [qj]<;>omega
  obtain ⟨σ1,ws,rfl,-⟩:=kN hbt
  have hp:=qaO u
  have e4:((nTs (u::ks):Nat):Int)=(nT u:Int)+nTs ks:=by simp only [nTs];omega
  rw [e4]
  by_cases hbad:400 < n+szI (d+1) u
  ·refine ⟨fun hy=> ?_,fun _=>⟨[((7,0),4,[.a [I u.kind,S u.name,I u.num,.i σ1 ws]])], ?_⟩⟩
   ·simp only [yH,Bool.and_eq_true]at hy
    unfold szI at hbad
    rw [if_pos ⟨hy.1.1,by omega⟩]at hbad
    omega
   rw [qn]
   simp only [go_sem,qa,qb,qc,qd,qe,qf,reduceCtorEq,J4,hn,hlt,a1,gv,hcc,e1,e2,e3,hbad]
  ·have hr:jl (d+1) u=true∧nT u≤400:=by
    apply Classical.byContradiction
    intro hx
    unfold szI at hbad
    rw [if_neg hx]at hbad
    omega
   have hs:szI (d+1) u=nT u:=by unfold szI;rw [if_pos hr]
   rw [hs]at hcc e3 hbad
   have i1:=ih (n+nT u) (by omega) (by omega)
   have e5:n+((nT u:Int)+nTs ks)=n+nT u+nTs ks:=by omega
   have e6:lw qg j0 ⟨[(1,I d),(5,I n),(82,.i τ vs),(83,I t.kids.length),(84,I i)],[]⟩=lw qg j0 ⟨[(1,I d),(5,I (n+nT u)),(82,.i τ vs),(83,I t.kids.length),(84,I (↑(i+1)))],[]⟩:=by
    rw [qn]
    simp only [go_sem,qa,qb,qc,qd,qe,qf,reduceCtorEq,J4,hn,hlt,a1,gv,hcc,e1,e2,e3,hbad]
   rw [yH,hr.1,Bool.true_and,e5,e6]
   exact i1
theorem qnv: ∀ (t:Tm),WT t→ ∀ (d:Int) v,0≤d→d≤41→BT t v→cr qg Jj [v,I d]=some (I (szI d t)):=by
 refine qb1 ?_
 intro k s n ks ih hw d v h0 h1 hb
 have hnm:=qnm s (by have:=qgG hw;unfold Lm at this;exact Nat.le_trans this (by decide))
 have i1:=jp n 0 99999
 have i2:=jp n (-999999999) 999999999
 have i3:=jp ks.length 1 5
 have hlen:=qb2 hw
 unfold Lm at hlen
 simp only [yJ]at hlen
 obtain ⟨τ,vs,rfl,hv⟩:=kN hb
 have hn:=yp hv
 simp only [yJ]at hn hv
 rw [qv qrp rfl]
 have hbad:YL (.mk k s n ks)=false∨ ¬ d≤40→szI d (.mk k s n ks)=401:=by
  intro h
  unfold szI
  rw [if_neg]
  simp only [jl,Bool.and_eq_true,decide_eq_true_eq]
  rcases h with h|h
  ·rw [h];simp
  ·omega
 by_cases hd:40 < d
 ·rw [hbad (.inr (by omega))]
  simp only [go_sem,qa,qb,qc,qd,qe,qf,reduceCtorEq,zO,hd]
 have h:=qt0 (.mk k s n ks) τ vs hv (qb2 hw) d h0 (by omega) (fun u hu v hb=>ih u hu (qeb hw u hu) (d+1) v (by omega) (by omega) hb) 1 (by decide) (by decide)
 simp only [xc,xd,xf,yJ]at h
 have hgood:YL (.mk k s n ks)=true→szI d (.mk k s n ks)=if yH (d+1) ks=true∧(1:Int)+(nTs ks:Int)≤400 then 1+(nTs ks:Int)else 401:=by
  intro ho
  unfold szI
  have hdt:decide (d≤40)=true:=decide_eq_true (by omega)
  rw [jl,ho,hdt,Bool.true_and,Bool.true_and]
  have e:nT (.mk k s n ks)=nTs ks+1:=by simp only [nT]
  by_cases hx:yH (d+1) ks=true∧nT (.mk k s n ks)≤400
  ·rw [if_pos (show yH (d+1) ks=true∧(1:Int)+(nTs ks:Int)≤400 from ⟨hx.1,by omega⟩),if_pos hx];omega
  ·rw [if_neg (show ¬ (yH (d+1) ks=true∧(1:Int)+(nTs ks:Int)≤400)from fun hy=>hx ⟨hy.1,by omega⟩),if_neg hx]
 have hz: ¬ (0:Int) < ks.length→ks.length=0:=by omega
 have p0:(0:Int) < ks.length∨ ¬ (0:Int) < ks.length:=by omega
 unfold YL at hbad hgood
 simp only [xc,xd,xf,yJ]at hbad hgood
 by_cases k1:k=1
 ·have d1:decide (k=1)=true:=decide_eq_true k1
  rw [if_pos k1]at hbad hgood
  cases c2:decide (s=[])with
  |false=>rw [hbad (.inl (by rw [c2];simp))];simp only [go_sem,qa,qb,qc,qd,qe,qf,reduceCtorEq,zO,hd,d1,c2]
  |true=>
  cases c1:decide (0≤n∧n≤99999)with
  |false=>rw [hbad (.inl (by rw [c1];simp))];rw [c1]at i1;simp only [go_sem,qa,qb,qc,qd,qe,qf,reduceCtorEq,zO,hd,d1,c2,i1]
  |true=>
  rw [c1]at i1
  by_cases c3:(0:Int) < ks.length
  ·rw [hbad (.inl (by rw [decide_eq_false (show ¬ (ks.length:Int)=0 by omega)];simp))];simp only [go_sem,qa,qb,qc,qd,qe,qf,reduceCtorEq,zO,hd,d1,c2,i1,hn,c3]
  ·rw [hgood (by rw [c1,c2,decide_eq_true (show (ks.length:Int)=0 by omega)];rfl)]
   by_cases hx:yH (d+1) ks=true∧(1:Int)+(nTs ks:Int)≤400
   ·have h:=h.1 hx;rw [if_pos hx];simp only [go_sem,qa,qb,qc,qd,qe,qf,reduceCtorEq,zO,hd,d1,c2,i1,hn,c3,h]
   ·obtain ⟨T,h⟩:=h.2 hx;rw [if_neg hx];simp only [go_sem,qa,qb,qc,qd,qe,qf,reduceCtorEq,zO,hd,d1,c2,i1,hn,c3,h]
 rw [if_neg k1]at hbad hgood
 have d1:decide (k=1)=false:=decide_eq_false k1
 by_cases k2:k=2
 ·have d2:decide (k=2)=true:=decide_eq_true k2
  rw [if_pos k2]at hbad hgood
  cases c1:xj s with
  |false=>rw [hbad (.inl (by rw [c1];simp))];rw [c1]at hnm;simp only [go_sem,qa,qb,qc,qd,qe,qf,reduceCtorEq,zO,hd,d1,d2,hnm]
  |true=>
  rw [c1]at hnm
  cases c2:decide (n=0)with
  |false=>rw [hbad (.inl (by rw [c2];simp))];simp only [go_sem,qa,qb,qc,qd,qe,qf,reduceCtorEq,zO,hd,d1,d2,hnm,c2]
  |true=>
  by_cases c3:(0:Int) < ks.length
  ·rw [hbad (.inl (by rw [decide_eq_false (show ¬ (ks.length:Int)=0 by omega)];simp))];simp only [go_sem,qa,qb,qc,qd,qe,qf,reduceCtorEq,zO,hd,d1,d2,hnm,c2,hn,c3]
  ·rw [hgood (by rw [c1,c2,decide_eq_true (show (ks.length:Int)=0 by omega)];rfl)]
   by_cases hx:yH (d+1) ks=true∧(1:Int)+(nTs ks:Int)≤400
   ·have h:=h.1 hx;rw [if_pos hx];simp only [go_sem,qa,qb,qc,qd,qe,qf,reduceCtorEq,zO,hd,d1,d2,hnm,c2,hn,c3,h]
   ·obtain ⟨T,h⟩:=h.2 hx;rw [if_neg hx];simp only [go_sem,qa,qb,qc,qd,qe,qf,reduceCtorEq,zO,hd,d1,d2,hnm,c2,hn,c3,h]
 rw [if_neg k2]at hbad hgood
 have d2:decide (k=2)=false:=decide_eq_false k2
 by_cases k3:k=3
 ·have d3:decide (k=3)=true:=decide_eq_true k3
  rw [if_pos k3]at hbad hgood
  cases c2:decide (s=[])with
  |false=>rw [hbad (.inl (by rw [c2];simp))];simp only [go_sem,qa,qb,qc,qd,qe,qf,reduceCtorEq,zO,hd,d1,d2,d3,c2]
  |true=>
  cases c1:decide (-999999999≤n∧n≤999999999)with
  |false=>rw [hbad (.inl (by rw [c1];simp))];rw [c1]at i2;simp only [go_sem,qa,qb,qc,qd,qe,qf,reduceCtorEq,zO,hd,d1,d2,d3,c2,i2]
  |true=>
  rw [c1]at i2
  by_cases c3:(0:Int) < ks.length
  ·rw [hbad (.inl (by rw [decide_eq_false (show ¬ (ks.length:Int)=0 by omega)];simp))];simp only [go_sem,qa,qb,qc,qd,qe,qf,reduceCtorEq,zO,hd,d1,d2,d3,c2,i2,hn,c3]
  ·rw [hgood (by rw [c1,c2,decide_eq_true (show (ks.length:Int)=0 by omega)];rfl)]
   by_cases hx:yH (d+1) ks=true∧(1:Int)+(nTs ks:Int)≤400
   ·have h:=h.1 hx;rw [if_pos hx];simp only [go_sem,qa,qb,qc,qd,qe,qf,reduceCtorEq,zO,hd,d1,d2,d3,c2,i2,hn,c3,h]
   ·obtain ⟨T,h⟩:=h.2 hx;rw [if_neg hx];simp only [go_sem,qa,qb,qc,qd,qe,qf,reduceCtorEq,zO,hd,d1,d2,d3,c2,i2,hn,c3,h]
 rw [if_neg k3]at hbad hgood
 have d3:decide (k=3)=false:=decide_eq_false k3
 by_cases k4:k=4
 ·have d4:decide (k=4)=true:=decide_eq_true k4
  rw [if_pos k4]at hbad hgood
  cases c1:xj s with
  |false=>rw [hbad (.inl (by rw [c1];simp))];rw [c1]at hnm;simp only [go_sem,qa,qb,qc,qd,qe,qf,reduceCtorEq,zO,hd,d1,d2,d3,d4,hnm]
  |true=>
  rw [c1]at hnm
  cases c2:decide (n=0)with
  |false=>rw [hbad (.inl (by rw [c2];simp))];simp only [go_sem,qa,qb,qc,qd,qe,qf,reduceCtorEq,zO,hd,d1,d2,d3,d4,hnm,c2]
  |true=>
  cases c3:decide (1≤(ks.length:Int)∧(ks.length:Int)≤5)with
  |false=>rw [hbad (.inl (by rw [c3];simp))];rw [c3]at i3;simp only [go_sem,qa,qb,qc,qd,qe,qf,reduceCtorEq,zO,hd,d1,d2,d3,d4,hnm,c2,hn,i3]
  |true=>
   rw [c3]at i3
   rw [hgood (by rw [c1,c2,c3];rfl)]
   by_cases hx:yH (d+1) ks=true∧(1:Int)+(nTs ks:Int)≤400
   ·have h:=h.1 hx;rw [if_pos hx];simp only [go_sem,qa,qb,qc,qd,qe,qf,reduceCtorEq,zO,hd,d1,d2,d3,d4,hnm,c2,hn,i3,h]
   ·obtain ⟨T,h⟩:=h.2 hx;rw [if_neg hx];simp only [go_sem,qa,qb,qc,qd,qe,qf,reduceCtorEq,zO,hd,d1,d2,d3,d4,hnm,c2,hn,i3,h]
 rw [if_neg k4]at hbad
 have d4:decide (k=4)=false:=decide_eq_false k4
 rw [hbad (.inl rfl)]
 simp only [go_sem,qa,qb,qc,qd,qe,qf,reduceCtorEq,zO,hd,d1,d2,d3,d4]
theorem qig(t:Tm) (hw:WT t) (v:V) (hb:BT t v):cr qg qdG [v]=some (B (ku t)):=by
 have h1:=qnv t hw 1 v (by decide) (by decide) hb
 have hbd:=qlD 1 t
 obtain ⟨τ,vs,rfl,hv⟩:=kN hb
 rw [qv qq7 rfl]
 by_cases h:jl 1 t=true∧nT t≤400
 ·have h2:szI 1 t≤400:=by unfold szI;rw [if_pos h];omega
  have h3:ku t=true:=by unfold ku;rw [h.1,decide_eq_true h.2];rfl
  rw [h3]
  simp only [go_sem,qa,qb,qc,qd,qe,qf,reduceCtorEq,ZV,h1,h2]
 ·have h2: ¬ szI 1 t≤400:=by unfold szI;rw [if_neg h];omega
  have h3:ku t=false:=by
   unfold ku
   cases e1:jl 1 t with
   |false=>rw [Bool.and_false]
   |true=>rw [decide_eq_false (fun hx=>h ⟨e1,hx⟩)];rfl
  rw [h3]
  simp only [go_sem,qa,qb,qc,qd,qe,qf,reduceCtorEq,ZV,h1,h2]
end Go.Vm
namespace Go.Vm
open Go.Lib (itoa decDigits)
def qCz(m:Nat):Str:=if m=0 then []else decDigits m
end Go.Vm
namespace Go.Vm
open Go.Lib (itoa decDigits)
@[go_sem] theorem qFB {n:Nat} {a:Int}:qY false n (I a) 0=some (I a):=(rfl)
@[go_sem] theorem qFD {n:Nat} {x:Str}:qY false n (S x) 0=some (S x):=(rfl)
@[go_sem] theorem qFF {n:Nat} {a:Int}:qY false n (U8 a) 0=some (U8 a):=(rfl)
def zE(n:Str):Nat→List Str→Int
 |_,[]=> -1
 |i,x::xs=>if n=x then (i:Int)else zE n (i+1) xs
theorem qaH(n:Str): ∀ (l:List Str) (i:Nat),(n ∈ l→(i:Int)≤zE n i l∧zE n i l < i+l.length)∧(n ∉ l→zE n i l= -1)
 |[],i=>⟨fun h=>(by cases h),fun _=>rfl⟩
 |x::xs,i=>by
  obtain ⟨h1,h2⟩:=qaH n xs (i+1)
  by_cases h:n=x
  ·subst h;simp [zE];omega
  ·simp only [zE,if_neg h,List.mem_cons,h,false_or,List.length_cons]
   exact ⟨fun hm=>by have:=h1 hm;omega,h2⟩
theorem qnc(n:Str) (l:List Str):0≤zE n 0 l↔n ∈ l:=by
 obtain ⟨h1,h2⟩:=qaH n l 0
 by_cases h:n ∈ l
 ·simp only [h,iff_true];have:=h1 h;omega
 ·simp only [h,iff_false,h2 h];omega
theorem ql1(τ:Bool) (l:List Str) (n:Str) (hlim:l.length≤2^40):
 lw qg XL ⟨[(0,.i τ (l.map S)),(1,S n),(7,I l.length),(8,I (0:Nat))],[]⟩=if n ∈ l then some (.ret,⟨[(4,I (zE n 0 l))],[]⟩)else some (.exit 0,⟨[],[]⟩):=by
 refine Qg l (fun i r=>lw qg XL ⟨[(0,.i τ (l.map S)),(1,S n),(7,I l.length),(8,I i)],[]⟩=if n ∈ r then some (.ret,⟨[(4,I (zE n i r))],[]⟩)else some (.exit 0,⟨[],[]⟩)) (by omega) ?_ ?_
 ·rw [qn]
  simp only [go_sem,qa,qb,qc,qd,qe,qf,reduceCtorEq,J8,List.not_mem_nil]
 ·intro i t r ht hi hlt e1 hir hm hr ih
  have g:=q7 (f:=S) ht
  have a1:=q8 (τ:=τ) (T:=[]) (e:=1) g rfl
  rw [qn]
  by_cases he:n=t
  ·have d:decide (n=t)=true:=decide_eq_true he
   rw [if_pos (by rw [he];exact List.mem_cons_self),zE,if_pos he]
   simp only [go_sem,qa,qb,qc,qd,qe,qf,reduceCtorEq,J8,hlt,a1,g,e1,d]
  ·have d:decide (n=t)=false:=decide_eq_false he
   have hmm:(n ∈ t::r)=(n ∈ r):=by simp only [List.mem_cons,he,false_or]
   simp only [hmm,zE,if_neg he]
   simp only [go_sem,qa,qb,qc,qd,qe,qf,reduceCtorEq,J8,hlt,a1,g,e1,d]
   exact ih
theorem qgx(τ:Bool) (l:List Str) (n:Str) (hlim:l.length≤2^40):cr qg qbB [.i τ (l.map S),S n]=some (I (zE n 0 l)):=by
 rw [qv qrI rfl]
 have h:=ql1 τ l n hlim
 simp only [Int.natCast_zero]at h
 by_cases hm:n ∈ l
 ·rw [if_pos hm]at h
  simp only [go_sem,qa,qb,qc,qd,qe,qf,reduceCtorEq,Z3,h]
 ·rw [if_neg hm]at h
  simp only [go_sem,qa,qb,qc,qd,qe,qf,reduceCtorEq,Z3,h,(qaH n l 0).2 hm]
theorem Jg(τ:Bool) (l:List Str) (n:Str) (hlim:l.length≤2^40):cr qg XF [.i τ (l.map S),S n]=some (B (decide (n ∈ l))):=by
 rw [qv qrG rfl]
 have h:=qgx τ l n hlim
 have hm:decide (0≤zE n 0 l)=decide (n ∈ l):=decide_eq_decide.2 (qnc n l)
 simp only [go_sem,qa,qb,qc,qd,qe,qf,reduceCtorEq,Xk,h,hm]
def qmK:List Str:=[[116,114,117,101,47,48],[102,97,105,108,47,48],[33,47,48],[44,47,50],[59,47,50],[45,62,47,50],[92,43,47,49],[99,97,108,108,47,49],[99,97,108,108,47,50],[99,97,108,108,47,51],[99,97,116,99,104,47,51],[116,104,114,111,119,47,49],[61,47,50],[92,61,47,50],[61,61,47,50],[105,115,47,50],[60,47,50],[61,58,61,47,50],[118,97,114,47,49],[97,116,111,109,47,49],[119,114,105,116,101,47,49],[97,115,115,101,114,116,122,47,49],[114,101,116,114,97,99,116,47,49],[58,45,47,50],[58,45,47,49],[45,45,62,47,50]]
def qE3(p:Str):Bool:=decide (p ∈ qmK)
def qI7(t:Tm):Str:=if t.kind=2∨t.kind=4 then t.name++[47]++itoa t.kids.length else []
end Go.Vm
namespace Go.Vm
open Go.Lib (itoa decDigits indexByte)
def xV:Str:=[43,45,42,47,92,94,60,62,61,126,58,46,63,64,35,38,36]
def q6(c:UInt8):Bool:=decide (c ∈ xV)
theorem XZ {c d:UInt8}:((c.toNat:Int)=d.toNat)=(c=d):=by
 apply propext
 constructor
 ·intro h
  have:c.toNat=d.toNat:=by omega
  exact UInt8.toNat_inj.1 this
 ·rintro rfl;rfl
theorem qmd(c:UInt8):
 lw qg XM ⟨[(0,U8 c.toNat),(3,S xV),(4,I (0:Nat))],[]⟩=if c ∈ xV then some (.ret,⟨[(2,B true)],[]⟩)else some (.exit 0,⟨[],[]⟩):=by
 refine Qg xV (fun i r=>lw qg XM ⟨[(0,U8 c.toNat),(3,S xV),(4,I i)],[]⟩=if c ∈ r then some (.ret,⟨[(2,B true)],[]⟩)else some (.exit 0,⟨[],[]⟩)) (by decide) ?_ ?_
 ·rw [qn]
  simp only [go_sem,qa,qb,qc,qd,qe,qf,reduceCtorEq,qaf,List.not_mem_nil]
 ·intro i t r ht hi hlt e1 hir hm hr ih
  have ix:=z8 (l:=xV) (i:=(i:Int)) (c:=t) (by omega) (by simpa using ht)
  rw [qn]
  by_cases he:t=c
  ·have d:decide ((t.toNat:Int)=c.toNat)=true:=decide_eq_true (by rw [he])
   rw [if_pos (by rw [he];exact List.mem_cons_self)]
   simp only [go_sem,qa,qb,qc,qd,qe,qf,reduceCtorEq,qaf,hlt,ix,e1,d]
  ·have d:decide ((t.toNat:Int)=c.toNat)=false:=decide_eq_false (by rw [XZ];exact he)
   have hmm:(c ∈ t::r)=(c ∈ r):=by
    have: ¬ c=t:=fun h=>he h.symm
    simp only [List.mem_cons,this,false_or]
   simp only [hmm]
   simp only [go_sem,qa,qb,qc,qd,qe,qf,reduceCtorEq,qaf,hlt,ix,e1,d]
   exact ih
theorem qge(c:UInt8):cr qg Jn [U8 c.toNat]=some (B (q6 c)):=by
 rw [qv qrR rfl]
 have h:=qmd c
 simp only [Int.natCast_zero]at h
 unfold q6
 by_cases hm:c ∈ xV
 ·rw [if_pos hm]at h
  rw [decide_eq_true hm]
  unfold xV at h
  simp only [go_sem,qa,qb,qc,qd,qe,qf,reduceCtorEq,Z9,h]
 ·rw [if_neg hm]at h
  rw [decide_eq_false hm]
  unfold xV at h
  simp only [go_sem,qa,qb,qc,qd,qe,qf,reduceCtorEq,Z9,h]
theorem qeU(l:Str) (c:UInt8):0≤indexByte l c↔c ∈ l:=by
 induction l with
 |nil=>simp [indexByte]
 |cons b l ih=>
  unfold indexByte
  by_cases h:b=c
  ·simp [h]
  ·have h1:(b==c)=false:=by simpa using h
   have h2: ¬ c=b:=fun e=>h e.symm
   have:=Go.Lib.indexByte_ge l c
   rw [h1]
   simp only [Bool.false_eq_true,if_false,List.mem_cons,h2,false_or]
   by_cases h3:indexByte l c= -1
   ·have h4: ¬ c ∈ l:=fun hm=>by have:=ih.2 hm;omega
    simp only [h3,beq_self_eq_true,if_true,h4,iff_false];omega
   ·have h5:(indexByte l c== -1)=false:=by simpa using h3
    rw [h5]
    simp only [Bool.false_eq_true,if_false]
    rw [← ih]
    omega
theorem qcd(l:Str) (c:UInt8):cr qg Jw [S l,U8 c.toNat]=some (I (indexByte l c)):=by
 have h:=qmH qsj l c.toNat
 have:(c.toNat:Int).toNat.toUInt8=c:=by simp
 rw [this]at h
 exact h
theorem qeO(c:UInt8):cr qg Xz [U8 c.toNat]=some (B (q6 c)):=by
 rw [qv qq6 rfl]
 have h:=qcd xV c
 have hd:decide (0≤indexByte xV c)=q6 c:=decide_eq_decide.2 (qeU xV c)
 unfold xV at h hd
 simp only [go_sem,qa,qb,qc,qd,qe,qf,reduceCtorEq,Y3,h,hd]
end Go.Vm
namespace Go.Vm
def inB(lo hi:Int) (c:UInt8):Bool:=decide (lo≤(c.toNat:Int))&&decide ((c.toNat:Int)≤hi)
def isB(n:Int) (c:UInt8):Bool:=decide ((c.toNat:Int)=n)
def yr(c:UInt8):Bool:=inB 65 90 c||isB 95 c
def zy(c:UInt8):Bool:=inB 97 122 c||yr c||inB 48 57 c
def kC(c:UInt8):Bool:=isB 32 c||isB 9 c||isB 10 c
theorem qiC(c:UInt8):cr qg qbJ [U8 c.toNat]=some (B (inB 97 122 c)):=by
 rw [qv qsa rfl]
 unfold inB
 by_cases h1:(97:Int)≤(c.toNat:Int)
 ·rw [decide_eq_true h1,Bool.true_and]
  by_cases h2:(c.toNat:Int)≤122
  ·rw [decide_eq_true h2];simp only [go_sem,qa,qb,qc,qd,qe,qf,reduceCtorEq,Q9,h1,h2]
  ·rw [decide_eq_false h2];simp only [go_sem,qa,qb,qc,qd,qe,qf,reduceCtorEq,Q9,h1,h2]
 ·rw [decide_eq_false h1,Bool.false_and];simp only [go_sem,qa,qb,qc,qd,qe,qf,reduceCtorEq,Q9,h1]
theorem qik(c:UInt8):cr qg Jh [U8 c.toNat]=some (B (inB 97 122 c)):=by
 rw [qv qrd rfl]
 unfold inB
 by_cases h1:(97:Int)≤(c.toNat:Int)
 ·rw [decide_eq_true h1,Bool.true_and]
  by_cases h2:(c.toNat:Int)≤122
  ·rw [decide_eq_true h2];simp only [go_sem,qa,qb,qc,qd,qe,qf,reduceCtorEq,Q0,h1,h2]
  ·rw [decide_eq_false h2];simp only [go_sem,qa,qb,qc,qd,qe,qf,reduceCtorEq,Q0,h1,h2]
 ·rw [decide_eq_false h1,Bool.false_and];simp only [go_sem,qa,qb,qc,qd,qe,qf,reduceCtorEq,Q0,h1]
theorem qip(c:UInt8):cr qg qbv [U8 c.toNat]=some (B (inB 65 90 c)):=by
 rw [qv qrr rfl]
 unfold inB
 by_cases h1:(65:Int)≤(c.toNat:Int)
 ·rw [decide_eq_true h1,Bool.true_and]
  by_cases h2:(c.toNat:Int)≤90
  ·rw [decide_eq_true h2];simp only [go_sem,qa,qb,qc,qd,qe,qf,reduceCtorEq,Q3,h1,h2]
  ·rw [decide_eq_false h2];simp only [go_sem,qa,qb,qc,qd,qe,qf,reduceCtorEq,Q3,h1,h2]
 ·rw [decide_eq_false h1,Bool.false_and];simp only [go_sem,qa,qb,qc,qd,qe,qf,reduceCtorEq,Q3,h1]
theorem qe1(c:UInt8):cr qg Jr [U8 c.toNat]=some (B (inB 48 57 c)):=by
 rw [qv qr5 rfl]
 unfold inB
 by_cases h1:(48:Int)≤(c.toNat:Int)
 ·rw [decide_eq_true h1,Bool.true_and]
  by_cases h2:(c.toNat:Int)≤57
  ·rw [decide_eq_true h2];simp only [go_sem,qa,qb,qc,qd,qe,qf,reduceCtorEq,Q7,h1,h2]
  ·rw [decide_eq_false h2];simp only [go_sem,qa,qb,qc,qd,qe,qf,reduceCtorEq,Q7,h1,h2]
 ·rw [decide_eq_false h1,Bool.false_and];simp only [go_sem,qa,qb,qc,qd,qe,qf,reduceCtorEq,Q7,h1]
theorem qeP(c:UInt8):cr qg XB [U8 c.toNat]=some (B (inB 48 57 c)):=by
 rw [qv qra rfl]
 unfold inB
 by_cases h1:(48:Int)≤(c.toNat:Int)
 ·rw [decide_eq_true h1,Bool.true_and]
  by_cases h2:(c.toNat:Int)≤57
  ·rw [decide_eq_true h2];simp only [go_sem,qa,qb,qc,qd,qe,qf,reduceCtorEq,QZ,h1,h2]
  ·rw [decide_eq_false h2];simp only [go_sem,qa,qb,qc,qd,qe,qf,reduceCtorEq,QZ,h1,h2]
 ·rw [decide_eq_false h1,Bool.false_and];simp only [go_sem,qa,qb,qc,qd,qe,qf,reduceCtorEq,QZ,h1]
theorem qiB(c:UInt8):cr qg Js [U8 c.toNat]=some (B (yr c)):=by
 rw [qv qr6 rfl]
 unfold yr inB isB
 cases h3:decide ((c.toNat:Int)=95)<;>
 by_cases h1:(65:Int)≤(c.toNat:Int)<;>by_cases h2:(c.toNat:Int)≤90<;>
 simp only [decide_eq_true_eq,h1,h2,decide_true,decide_false,Bool.true_and,Bool.false_and,Bool.and_true,Bool.and_false,Bool.or_true,Bool.or_false]<;>
 simp only [go_sem,qa,qb,qc,qd,qe,qf,reduceCtorEq,Xv,h1,h2,h3]
theorem qe0(c:UInt8):cr qg qbI [U8 c.toNat]=some (B (kC c)):=by
 rw [qv qr3 rfl]
 unfold kC isB
 cases h1:decide ((c.toNat:Int)=32)<;>cases h2:decide ((c.toNat:Int)=9)<;>cases h3:decide ((c.toNat:Int)=10)<;>
 simp only [Bool.or_true,Bool.or_false]<;>simp only [go_sem,qa,qb,qc,qd,qe,qf,reduceCtorEq,Xu,h1,h2,h3]
theorem qpE(c:UInt8):cr qg qd2 [U8 c.toNat]=some (B (zy c)):=by
 rw [qv qsb rfl]
 have e1:=qiC c
 have e2:=qiB c
 have e3:=qe1 c
 unfold zy
 cases h1:inB 97 122 c<;>cases h2:yr c<;>rw [h1]at e1<;>rw [h2]at e2<;>
 simp only [Bool.or_true,Bool.or_false,Bool.true_or,Bool.false_or]<;>simp only [go_sem,qa,qb,qc,qd,qe,qf,reduceCtorEq,Xx,e1,e2,e3]
theorem qny(c:UInt8):cr qg qbw [U8 c.toNat]=some (B (zy c)):=by
 rw [qv qru rfl]
 have e1:=qik c
 have e2:=qip c
 have e3:=qeP c
 unfold zy yr isB
 cases h1:inB 97 122 c<;>cases h2:inB 65 90 c<;>cases h3:inB 48 57 c<;>cases h4:decide ((c.toNat:Int)=95)<;>rw [h1]at e1<;>rw [h2]at e2<;>rw [h3]at e3<;>
 simp only [Bool.or_true,Bool.or_false,Bool.true_or,Bool.false_or]<;>simp only [go_sem,qa,qb,qc,qd,qe,qf,reduceCtorEq,Xd,e1,e2,e3,h4]
end Go.Vm
namespace Go.Vm
def pre(p:UInt8→Bool):Str→Nat
 |[]=>0
 |c::r=>if p c=true then pre p r+1 else 0
theorem qj4(p:UInt8→Bool): ∀ s,pre p s≤s.length
 |[]=>Nat.le_refl _
 |c::r=>by have:=qj4 p r;simp only [pre,List.length_cons];split<;>omega
theorem qpB(s:Str) (hl:s.length≤2^61) (m:Nat): ∀ i,i+m=s.length→
 lw qg JS ⟨[(0,S s),(1,I i)],[]⟩=some (.exit 0,⟨[(1,I ((i+pre zy (s.drop i):Nat):Int))],[]⟩):=by
 induction m with
 |zero=>
  intro i hi
  rw [List.drop_eq_nil_of_le (by omega),qn]
  have h: ¬ (i:Int) < s.length:=by omega
  simp only [go_sem,qa,qb,qc,qd,qe,qf,reduceCtorEq,qai,h,pre]
 |succ m ih=>
  intro i hi
  have h:(i:Int) < s.length:=by omega
  obtain ⟨c,hc⟩:=yh (l:=s) (i:=i) (by omega)
  have ix:=z8 (l:=s) (i:=(i:Int)) (c:=c) (by omega) (by simpa using hc)
  have w:=qpE c
  have e1:w64 ((i:Int)+1)=((i+1:Nat):Int):=by rw [qj]<;>omega
  rw [kE hc,qn,pre]
  cases hw:zy c with
  |true=>
   rw [hw]at w
   have i1:=ih (i+1) (by omega)
   rw [if_pos rfl,show i+(pre zy (s.drop (i+1))+1)=i+1+pre zy (s.drop (i+1))by omega]
   simp only [go_sem,qa,qb,qc,qd,qe,qf,reduceCtorEq,qai,h,ix,w,e1]
   exact i1
  |false=>
   rw [hw]at w
   rw [if_neg (by decide)]
   simp only [go_sem,qa,qb,qc,qd,qe,qf,reduceCtorEq,qai,h,ix,w,e1]
theorem qpC(s:Str) (hl:s.length≤2^61) (i:Nat) (hi:i≤s.length):cr qg qd0 [S s,I i]=some (I ((i+pre zy (s.drop i):Nat):Int)):=by
 rw [qv qr8 rfl]
 have h:=qpB s hl (s.length - i) i (by omega)
 simp only [go_sem,qa,qb,qc,qd,qe,qf,reduceCtorEq,Xw,h]
theorem qtc(p:UInt8→Bool) (g:Nat) (hg: ∀ c,cr qg g [U8 c.toNat]=some (B (p c))) (s:Str) (hl:s.length≤2^61) (m:Nat): ∀ i,i+m=s.length→
 lw qg JG ⟨[(0,S s),(1,I i),(2,Fc g)],[]⟩=some (.exit 0,⟨[(1,I ((i+pre p (s.drop i):Nat):Int))],[]⟩):=by
 induction m with
 |zero=>
  intro i hi
  rw [List.drop_eq_nil_of_le (by omega),qn]
  have h: ¬ (i:Int) < s.length:=by omega
  simp only [go_sem,qa,qb,qc,qd,qe,qf,reduceCtorEq,J3,h,pre]
 |succ m ih=>
  intro i hi
  have h:(i:Int) < s.length:=by omega
  obtain ⟨c,hc⟩:=yh (l:=s) (i:=i) (by omega)
  have ix:=z8 (l:=s) (i:=(i:Int)) (c:=c) (by omega) (by simpa using hc)
  have w:=hg c
  have e1:w64 ((i:Int)+1)=((i+1:Nat):Int):=by rw [qj]<;>omega
  rw [kE hc,qn,pre]
  cases hw:p c with
  |true=>
   rw [hw]at w
   have i1:=ih (i+1) (by omega)
   rw [if_pos rfl,show i+(pre p (s.drop (i+1))+1)=i+1+pre p (s.drop (i+1))by omega]
   simp only [go_sem,qa,qb,qc,qd,qe,qf,reduceCtorEq,J3,h,ix,w,e1]
   exact i1
  |false=>
   rw [hw]at w
   rw [if_neg (by decide)]
   simp only [go_sem,qa,qb,qc,qd,qe,qf,reduceCtorEq,J3,h,ix,w,e1]
theorem qba(p:UInt8→Bool) (g:Nat) (hg: ∀ c,cr qg g [U8 c.toNat]=some (B (p c))) (s:Str) (hl:s.length≤2^61) (i:Nat) (hi:i≤s.length):cr qg Yi [S s,I i,Fc g]=some (I ((i+pre p (s.drop i):Nat):Int)):=by
 rw [qv qro rfl]
 have h:=qtc p g hg s hl (s.length - i) i (by omega)
 simp only [go_sem,qa,qb,qc,qd,qe,qf,reduceCtorEq,Y9,h]
end Go.Vm
namespace Go.Vm
open Go.Lib (indexByte)
def qaY(s:Str) (i:Nat):Bool:=match i with
 |0=>true
 |j+1=> !q6 (s.getD j 0)
def QS:Option UInt8→Bool
 |none=>true
 |some d=>kC d||isB 37 d
def jE(s:Str) (i:Nat) (c:UInt8):Bool:=isB 46 c&&(qaY s i&&QS s[i+1]?)
theorem qg6(d:UInt8):decide (0≤indexByte [32,9,10,37] d)=(kC d||isB 37 d):=by
 have h:=qeU [32,9,10,37] d
 have e1:=XZ (c:=d) (d:=32)
 have e2:=XZ (c:=d) (d:=9)
 have e3:=XZ (c:=d) (d:=10)
 have e4:=XZ (c:=d) (d:=37)
 have f1:((32:UInt8).toNat:Int)=32:=rfl
 have f2:((9:UInt8).toNat:Int)=9:=rfl
 have f3:((10:UInt8).toNat:Int)=10:=rfl
 have f4:((37:UInt8).toNat:Int)=37:=rfl
 rw [f1]at e1;rw [f2]at e2;rw [f3]at e3;rw [f4]at e4
 unfold kC isB
 rw [Bool.eq_iff_iff]
 simp only [decide_eq_true_eq,h,Bool.or_eq_true,e1,e2,e3,e4,List.mem_cons,List.not_mem_nil,or_false,or_assoc]
theorem qpy(s:Str) (hl:s.length≤2^61) (i:Nat) (c:UInt8) (hc:s[i]? =some c):cr qg qdY [S s,I i]=some (B (jE s i c)):=by
 have hi:i < s.length:=(List.getElem?_eq_some_iff.1 hc).1
 have ix:=z8 (l:=s) (i:=(i:Int)) (c:=c) (by omega) (by simpa using hc)
 have e1:w64 ((i:Int)+1)=((i+1:Nat):Int):=by rw [qj]<;>omega
 rw [qv qr4 rfl]
 unfold jE
 cases h46:isB 46 c with
 |false=>
  unfold isB at h46
  simp only [go_sem,qa,qb,qc,qd,qe,qf,reduceCtorEq,kx,ix,h46,Bool.false_and]
 |true=>
 unfold isB at h46
 have hnext: ∀ (b:Bool),True:=fun _=>trivial
 cases i with
 |zero=>
  rw [qaY,Bool.true_and,Bool.true_and]
  have z:w64 ((0:Int)+1)=1:=rfl
  by_cases hn:s.length=1
  ·have d:decide ((1:Int)=s.length)=true:=decide_eq_true (by omega)
   have:s[0+1]? =none:=List.getElem?_eq_none (by omega)
   rw [this,QS]
   simp only [Int.natCast_zero]at ix
   simp only [go_sem,qa,qb,qc,qd,qe,qf,reduceCtorEq,kx,ix,h46,z,d]
  ·have d:decide ((1:Int)=s.length)=false:=decide_eq_false (by omega)
   obtain ⟨n,hnx⟩:=yh (l:=s) (i:=0+1) (by omega)
   have ix2:=z8 (l:=s) (i:=(1:Int)) (c:=n) (by omega) (by simpa using hnx)
   have bl:=qe0 n
   rw [hnx,QS]
   simp only [Int.natCast_zero]at ix
   unfold isB
   cases hb:kC n with
   |true=>rw [hb]at bl;simp only [go_sem,qa,qb,qc,qd,qe,qf,reduceCtorEq,kx,ix,h46,z,d,ix2,bl,Bool.true_or]
   |false=>rw [hb]at bl;simp only [go_sem,qa,qb,qc,qd,qe,qf,reduceCtorEq,kx,ix,h46,z,d,ix2,bl,Bool.false_or]
 |succ j=>
  obtain ⟨q,hq⟩:=yh (l:=s) (i:=j) (by omega)
  have ix0:=z8 (l:=s) (i:=(j:Int)) (c:=q) (by omega) (by simpa using hq)
  have e0:w64 (((j+1:Nat):Int) - 1)=(j:Int):=by rw [qj]<;>omega
  have dz:decide (((j+1:Nat):Int)=0)=false:=decide_eq_false (by omega)
  have sy:=qge q
  have hg:s.getD j 0=q:=by rw [List.getD_eq_getElem?_getD,hq];rfl
  rw [qaY,hg]
  cases hs:q6 q with
  |true=>rw [hs]at sy;simp only [go_sem,qa,qb,qc,qd,qe,qf,reduceCtorEq,kx,ix,h46,dz,e0,ix0,sy,Bool.not_true,Bool.false_and,Bool.true_and]
  |false=>
  rw [hs]at sy
  rw [Bool.not_false,Bool.true_and,Bool.true_and]
  by_cases hn:s.length=j+1+1
  ·have d:decide (((j+1+1:Nat):Int)=s.length)=true:=decide_eq_true (by omega)
   have:s[j+1+1]? =none:=List.getElem?_eq_none (by omega)
   rw [this,QS]
   simp only [go_sem,qa,qb,qc,qd,qe,qf,reduceCtorEq,kx,ix,h46,dz,e0,ix0,sy,e1,d]
  ·have d:decide (((j+1+1:Nat):Int)=s.length)=false:=decide_eq_false (by omega)
   obtain ⟨n,hnx⟩:=yh (l:=s) (i:=j+1+1) (by omega)
   have ix2:=z8 (l:=s) (i:=((j+1+1:Nat):Int)) (c:=n) (by omega) (by rw [Int.toNat_natCast];exact hnx)
   have bl:=qe0 n
   rw [hnx,QS]
   unfold isB
   cases hb:kC n with
   |true=>rw [hb]at bl;simp only [go_sem,qa,qb,qc,qd,qe,qf,reduceCtorEq,kx,ix,h46,dz,e0,ix0,sy,e1,d,ix2,bl,Bool.true_or]
   |false=>rw [hb]at bl;simp only [go_sem,qa,qb,qc,qd,qe,qf,reduceCtorEq,kx,ix,h46,dz,e0,ix0,sy,e1,d,ix2,bl,Bool.false_or]
end Go.Vm
namespace Go.Vm
open Go.Lib (indexByte)
theorem qmX(s:Str) (hl:s.length≤2^61) (i:Nat) (c:UInt8) (hc:s[i]? =some c):cr qg qdH [S s,I i]=some (B (jE s i c)):=by
 have hi:i < s.length:=(List.getElem?_eq_some_iff.1 hc).1
 have ix:=z8 (l:=s) (i:=(i:Int)) (c:=c) (by omega) (by simpa using hc)
 have e1:w64 ((i:Int)+1)=((i+1:Nat):Int):=by rw [qj]<;>omega
 rw [qv qq9 rfl]
 unfold jE
 cases h46:isB 46 c with
 |false=>
  unfold isB at h46
  simp only [go_sem,qa,qb,qc,qd,qe,qf,reduceCtorEq,jq,ix,h46,Bool.false_and]
 |true=>
 unfold isB at h46
 have hnext: ∀ (b:Bool),True:=fun _=>trivial
 cases i with
 |zero=>
  rw [qaY,Bool.true_and,Bool.true_and]
  have z:w64 ((0:Int)+1)=1:=rfl
  by_cases hn:s.length=1
  ·have d:decide ((1:Int)=s.length)=true:=decide_eq_true (by omega)
   have:s[0+1]? =none:=List.getElem?_eq_none (by omega)
   rw [this,QS]
   simp only [Int.natCast_zero]at ix
   simp only [go_sem,qa,qb,qc,qd,qe,qf,reduceCtorEq,jq,ix,h46,z,d]
  ·have d:decide ((1:Int)=s.length)=false:=decide_eq_false (by omega)
   obtain ⟨n,hnx⟩:=yh (l:=s) (i:=0+1) (by omega)
   have ix2:=z8 (l:=s) (i:=(1:Int)) (c:=n) (by omega) (by simpa using hnx)
   have bl:=qcd [32,9,10,37] n
   have bd:=qg6 n
   rw [hnx,QS]
   simp only [Int.natCast_zero]at ix
   rw [← bd]
   simp only [go_sem,qa,qb,qc,qd,qe,qf,reduceCtorEq,jq,ix,h46,z,d,ix2,bl]
 |succ j=>
  obtain ⟨q,hq⟩:=yh (l:=s) (i:=j) (by omega)
  have ix0:=z8 (l:=s) (i:=(j:Int)) (c:=q) (by omega) (by simpa using hq)
  have e0:w64 (((j+1:Nat):Int) - 1)=(j:Int):=by rw [qj]<;>omega
  have dz:(0:Int) < ((j+1:Nat):Int):=by omega
  have sy:=qeO q
  have hg:s.getD j 0=q:=by rw [List.getD_eq_getElem?_getD,hq];rfl
  rw [qaY,hg]
  cases hs:q6 q with
  |true=>rw [hs]at sy;simp only [go_sem,qa,qb,qc,qd,qe,qf,reduceCtorEq,jq,ix,h46,dz,e0,ix0,sy,Bool.not_true,Bool.false_and,Bool.true_and]
  |false=>
  rw [hs]at sy
  rw [Bool.not_false,Bool.true_and,Bool.true_and]
  by_cases hn:s.length=j+1+1
  ·have d:decide (((j+1+1:Nat):Int)=s.length)=true:=decide_eq_true (by omega)
   have:s[j+1+1]? =none:=List.getElem?_eq_none (by omega)
   rw [this,QS]
   simp only [go_sem,qa,qb,qc,qd,qe,qf,reduceCtorEq,jq,ix,h46,dz,e0,ix0,sy,e1,d]
  ·have d:decide (((j+1+1:Nat):Int)=s.length)=false:=decide_eq_false (by omega)
   obtain ⟨n,hnx⟩:=yh (l:=s) (i:=j+1+1) (by omega)
   have ix2:=z8 (l:=s) (i:=((j+1+1:Nat):Int)) (c:=n) (by omega) (by rw [Int.toNat_natCast];exact hnx)
   have bl:=qcd [32,9,10,37] n
   have bd:=qg6 n
   rw [hnx,QS]
   rw [← bd]
   simp only [go_sem,qa,qb,qc,qd,qe,qf,reduceCtorEq,jq,ix,h46,dz,e0,ix0,sy,e1,d,ix2,bl]
end Go.Vm
namespace Go.Vm
structure Sg where
 kind:Int
 text:Str
 num:Int
 at_:Int
 near:Bool
def Sg.v(x:Sg):V:= .a [I x.kind,S x.text,I x.num,I x.at_,B x.near]
def zk(s:Str) (i j:Nat):Str:=(s.take j).drop i
def bad(s:Str) (i:Nat):Sg × Nat:=(⟨6,zk s i (i+1),0,i,false⟩,i+1)
def nf:Str→Int→Int
 |[],a=>a
 |d::r,a=>if (inB 48 57 d&&decide (a≤999999999))=true then nf r (10*a+d.toNat - 48)else a
def nk:Str→Int→Nat
 |[],a=>0
 |d::r,a=>if (inB 48 57 d&&decide (a≤999999999))=true then nk r (10*a+d.toNat - 48)+1 else 0
theorem qjo: ∀ (s:Str) (a:Int),0≤a→nf s a≤999999999→nk s a=pre (inB 48 57) s
 |[],a,_,_=>rfl
 |d::r,a,h0,h=>by
  simp only [nf,nk,pre]at h ⊢
  by_cases ha:a≤999999999
  ·rw [decide_eq_true ha,Bool.and_true]at h ⊢
   by_cases hd:inB 48 57 d=true
   ·rw [if_pos hd]at h ⊢
    rw [if_pos hd]
    have h1:(48:Int)≤d.toNat:=by unfold inB at hd;simp only [Bool.and_eq_true,decide_eq_true_eq]at hd;exact hd.1
    rw [qjo r _ (by omega) h]
   ·rw [if_neg hd,if_neg hd]
  ·exfalso
   rw [decide_eq_false ha,Bool.and_false]at h
   simp only [Bool.false_eq_true,if_false]at h
   omega
theorem qjj: ∀ (s:Str) (a:Int),0≤a→a≤9999999999→0≤nf s a∧nf s a≤9999999999
 |[],a,h0,h1=>⟨h0,h1⟩
 |d::r,a,h0,h1=>by
  simp only [nf]
  split
  ·rename_i h
   simp only [inB,Bool.and_eq_true,decide_eq_true_eq]at h
   exact qjj r _ (by omega) (by omega)
  ·exact ⟨h0,h1⟩
def kJ:Str→Option Nat
 |[]=>none
 |c::r=>if isB 39 c=true then some 0 else (kJ r).map (· +1)
def Qn(r:Str):Option Nat:=match kJ r with
 |some m=>if xj (r.take m)=true then some m else none
 |none=>none
def sgn(s:Str) (i:Nat) (c:UInt8):Sg × Nat:=
 if (inB 97 122 c||yr c)=true then
  if pre zy (s.drop i)≤20 then (⟨if yr c=true then 2 else 1,zk s i (i+pre zy (s.drop i)),0,i,false⟩,i+pre zy (s.drop i))else bad s i
 else if inB 48 57 c=true then
  if nf (s.drop i) 0≤999999999 then (⟨3,[],nf (s.drop i) 0,i,false⟩,i+pre (inB 48 57) (s.drop i))else bad s i
 else if isB 39 c=true then
  match Qn (s.drop (i+1))with
  |some m=>(⟨1,zk s (i+1) (i+1+m),0,i,false⟩,i+1+m+1)
  |none=>bad s i
 else if (isB 33 c||isB 59 c)=true then (⟨1,zk s i (i+1),0,i,false⟩,i+1)
 else if (isB 40 c||isB 41 c||isB 91 c||isB 93 c||isB 44 c||isB 124 c)=true then (⟨4,zk s i (i+1),0,i,false⟩,i+1)
 else if jE s i c=true then (⟨5,zk s i (i+1),0,i,false⟩,i+1)
 else if q6 c=true then
  if pre q6 (s.drop i)≤20 then (⟨1,zk s i (i+pre q6 (s.drop i)),0,i,false⟩,i+pre q6 (s.drop i))else bad s i
 else bad s i
end Go.Vm
namespace Go.Vm
structure Op3 where
 prio:Int
 left:Int
 right:Int
def qF(s:Str):Op3:=
 if s=[58,45]∨s=[45,45,62]then ⟨1200,1199,1199⟩
 else if s=[59]then ⟨1100,1099,1100⟩
 else if s=[45,62]then ⟨1050,1049,1050⟩
 else if s=[44]then ⟨1000,999,1000⟩
 else if s=[61]∨s=[92,61]∨s=[61,61]∨s=[105,115]∨s=[60]∨s=[61,58,61]then ⟨700,699,699⟩
 else if s=[43]∨s=[45]then ⟨500,500,499⟩
 else if s=[42]∨s=[47,47]then ⟨400,400,399⟩
 else ⟨0,0,0⟩
def opV(s:Str):V:= .t [.a [S (if (qF s).prio=0 then []else s),I (qF s).prio,I (qF s).left,I (qF s).right],B (decide ((qF s).prio ≠ 0))]
set_option maxHeartbeats 2000000 in
theorem ke(s:Str):cr qg qbo [S s]=some (opV s):=by
 rw [qv qjM rfl]
 by_cases h1:s=[58,45]
 ·subst h1;simp (decide:=true) only [go_sem,qa,qb,qc,qd,qe,qf,reduceCtorEq,yy];rfl
 by_cases h2:s=[45,45,62]
 ·subst h2;simp (decide:=true) only [go_sem,qa,qb,qc,qd,qe,qf,reduceCtorEq,yy];rfl
 by_cases h3:s=[59]
 ·subst h3;simp (decide:=true) only [go_sem,qa,qb,qc,qd,qe,qf,reduceCtorEq,yy];rfl
 by_cases h4:s=[45,62]
 ·subst h4;simp (decide:=true) only [go_sem,qa,qb,qc,qd,qe,qf,reduceCtorEq,yy];rfl
 by_cases h5:s=[44]
 ·subst h5;simp (decide:=true) only [go_sem,qa,qb,qc,qd,qe,qf,reduceCtorEq,yy];rfl
 by_cases h6:s=[61]
 ·subst h6;simp (decide:=true) only [go_sem,qa,qb,qc,qd,qe,qf,reduceCtorEq,yy];rfl
 by_cases h7:s=[92,61]
 ·subst h7;simp (decide:=true) only [go_sem,qa,qb,qc,qd,qe,qf,reduceCtorEq,yy];rfl
 by_cases h8:s=[61,61]
 ·subst h8;simp (decide:=true) only [go_sem,qa,qb,qc,qd,qe,qf,reduceCtorEq,yy];rfl
 by_cases h9:s=[105,115]
 ·subst h9;simp (decide:=true) only [go_sem,qa,qb,qc,qd,qe,qf,reduceCtorEq,yy];rfl
 by_cases h10:s=[60]
 ·subst h10;simp (decide:=true) only [go_sem,qa,qb,qc,qd,qe,qf,reduceCtorEq,yy];rfl
 by_cases h11:s=[61,58,61]
 ·subst h11;simp (decide:=true) only [go_sem,qa,qb,qc,qd,qe,qf,reduceCtorEq,yy];rfl
 by_cases h12:s=[43]
 ·subst h12;simp (decide:=true) only [go_sem,qa,qb,qc,qd,qe,qf,reduceCtorEq,yy];rfl
 by_cases h13:s=[45]
 ·subst h13;simp (decide:=true) only [go_sem,qa,qb,qc,qd,qe,qf,reduceCtorEq,yy];rfl
 by_cases h14:s=[42]
 ·subst h14;simp (decide:=true) only [go_sem,qa,qb,qc,qd,qe,qf,reduceCtorEq,yy];rfl
 by_cases h15:s=[47,47]
 ·subst h15;simp (decide:=true) only [go_sem,qa,qb,qc,qd,qe,qf,reduceCtorEq,yy];rfl
 simp only [go_sem,qa,qb,qc,qd,qe,qf,reduceCtorEq,yy,h1,h2,h3,h4,h5,h6,h7,h8,h9,h10,h11,h12,h13,h14,h15]
 simp [opV,qF,h1,h2,h3,h4,h5,h6,h7,h8,h9,h10,h11,h12,h13,h14,h15]
theorem ZO(s:Str):cr qg Jm [S s]=some (opV s):=by
 rw [← ke,qv qrN rfl,qv qjM rfl];rfl
def qfs(t:Tm):Int:=if t.kind=4∧t.kids.length=2 then (qF t.name).prio else 0
end Go.Vm
namespace Go.Vm
open Go.Lib (itoa join)
def Sg.near'(x:Sg) (b:Bool):Sg:={x with near:=b}
def sgs(s:Str):Nat→Nat→List Sg
 |0,_=>[]
 |n+1,i=>match s[i]? with
  |none=>[]
  |some c=>
   if kC c=true then sgs s n (i+1)
   else if isB 37 c=true then sgs s n (i+pre (fun d=> !isB 10 d) (s.drop i))
   else (sgn s i c).1.near' (decide (s[(sgn s i c).2]? =some 40))::sgs s n (sgn s i c).2
def xB(s:Str):List Sg:=sgs s s.length 0
theorem jf {p:UInt8→Bool} {s:Str} {i:Nat} (h:i≤s.length):i+pre p (s.drop i)≤s.length:=by
 have:=qj4 p (s.drop i)
 rw [List.length_drop]at this
 omega
theorem Kn {p:UInt8→Bool} {s:Str} {i:Nat} {c:UInt8} (hc:s[i]? =some c) (h:p c=true):1≤pre p (s.drop i):=by
 rw [kE hc,pre,if_pos h];omega
theorem qfy: ∀ {r:Str} {m:Nat},kJ r=some m→m < r.length
 |[],m,h=>by cases h
 |c::r,m,h=>by
  simp only [kJ]at h
  split at h
  ·cases h;simp
  ·rw [Option.map_eq_some_iff]at h
   obtain ⟨k,hk,rfl⟩:=h
   have:=qfy hk
   simp only [List.length_cons];omega
theorem qke {r:Str} {m:Nat} (h:Qn r=some m):m < r.length∧xj (r.take m)=true:=by
 unfold Qn at h
 split at h
 ·rename_i k hk
  split at h
  ·rename_i h2;cases h;exact ⟨qfy hk,h2⟩
  ·cases h
 ·cases h
theorem qf9(s:Str) (i:Nat) (c:UInt8) (hc:s[i]? =some c):i < (sgn s i c).2∧(sgn s i c).2≤s.length:=by
 have hi:i < s.length:=(List.getElem?_eq_some_iff.1 hc).1
 have hb:i < (bad s i).2∧(bad s i).2≤s.length:=⟨Nat.lt_succ_self i,hi⟩
 unfold sgn
 split
 ·rename_i h
  split
  ·have h1:=jf (p:=zy) (s:=s) (i:=i) (by omega)
   have h2:1≤pre zy (s.drop i):=Kn hc (by unfold zy;rw [h,Bool.true_or])
   exact ⟨by show i < i+_;omega,h1⟩
  ·exact hb
 split
 ·rename_i h
  split
  ·have h1:=jf (p:=inB 48 57) (s:=s) (i:=i) (by omega)
   have h2:1≤pre (inB 48 57) (s.drop i):=Kn hc h
   exact ⟨by show i < i+_;omega,h1⟩
  ·exact hb
 split
 ·cases hq:Qn (s.drop (i+1))with
  |none=>exact hb
  |some m=>
   have:=(qke hq).1
   rw [List.length_drop]at this
   exact ⟨by show i < i+1+m+1;omega,by show i+1+m+1≤_;omega⟩
 split
 ·exact ⟨Nat.lt_succ_self i,hi⟩
 split
 ·exact ⟨Nat.lt_succ_self i,hi⟩
 split
 ·exact ⟨Nat.lt_succ_self i,hi⟩
 split
 ·rename_i h
  split
  ·have h1:=jf (p:=q6) (s:=s) (i:=i) (by omega)
   have h2:1≤pre q6 (s.drop i):=Kn hc h
   exact ⟨by show i < i+_;omega,h1⟩
  ·exact hb
 ·exact hb
theorem qdf(s:Str): ∀ (n i:Nat),(sgs s n i).length≤n
 |0,i=>Nat.le_refl _
 |n+1,i=>by
  simp only [sgs]
  split
  ·simp
  ·rename_i c hc
   split
   ·have:=qdf s n (i+1);omega
   split
   ·have:=qdf s n (i+pre (fun d=> !isB 10 d) (s.drop i));omega
   ·have:=qdf s n (sgn s i c).2
    simp only [List.length_cons];omega
theorem qlh(s:Str): ∀ (n i:Nat),s.length≤i→sgs s n i=[]
 |0,i,_=>rfl
 |n+1,i,h=>by simp only [sgs,List.getElem?_eq_none h]
def qkc(s:Str):Str:=[39]++s++[39]
def qb5(s:Str):Str:=match xB s with
 |[x]=>if x.kind=1∧x.text=s then s else qkc s
 |_=>qkc s
def qT(s:Str):Op3:=
 if s=[58,45]then ⟨1200,0,1199⟩else if s=[92,43]then ⟨900,0,900⟩else if s=[45]then ⟨200,0,200⟩else ⟨0,0,0⟩
def yw(s:Str):V:= .t [.a [S (if (qT s).prio=0 then []else s),I (qT s).prio,I (qT s).left,I (qT s).right],B (decide ((qT s).prio ≠ 0))]
def qnD(s:Str):Bool:=decide ((qF s).prio ≠ 0)||decide ((qT s).prio ≠ 0)
def qlj(s:Str):Str:=if s=[44]then [44]else qb5 s
def yi(p:Bool) (most prio:Int) (s:Str):Str:=if p=true∧most < prio then [40]++s++[41]else s
structure Kd where
 raw:Str
 rest:Str
 prio:Int
def qKq(p:Bool):List Kd→Option (Kd × Kd)
 |[a,b]=>some (a,b)
 |_=>none
def qhZ(p:Bool) (s:Str) (ks:List Kd):Str:=qb5 s++[40]++join (ks.map fun k=>yi p 999 k.prio k.raw) [44]++[41]
def qnB(p:Bool) (s:Str) (a b:Kd):Str:=
 if p=true then yi true (qF s).left a.prio a.raw++[32]++qlj s++[32]++yi true (qF s).right b.prio b.raw
 else [40]++a.raw++[32]++qlj s++[32]++b.raw++[41]
def qkB(p:Bool) (k:Int) (s:Str) (n:Int) (ks:List Kd):Str:=
 if k=1 then [95]++itoa n
 else if k=3 then itoa n
 else if k=2 then (if s=[91,93]then [91,93]else if qnD s=true then [40]++qb5 s++[41]else qb5 s)
 else match ks with
  |[a,b]=>if s=[46]then [91]++yi p 999 a.prio a.raw++b.rest else if (qF s).prio ≠ 0 then qnB p s a b else qhZ p s ks
  |_=>qhZ p s ks
def qsZ(p:Bool) (k:Int) (s:Str) (prio:Int) (ks:List Kd) (raw:Str):Str:=
 if k=2∧s=[91,93]then [93]
 else match ks with
  |[a,b]=>if k=4∧s=[46]then [44]++yi p 999 a.prio a.raw++b.rest else [124]++yi p 999 prio raw++[93]
  |_=>[124]++yi p 999 prio raw++[93]
mutual
def wk(p:Bool):Tm→Kd
 | .mk k s n ks=>⟨qkB p k s n (wks p ks),qsZ p k s (qfs (.mk k s n ks)) (wks p ks) (qkB p k s n (wks p ks)),qfs (.mk k s n ks)⟩
def wks(p:Bool):List Tm→List Kd
 |[]=>[]
 |t::ts=>wk p t::wks p ts
end
def wr(p:Bool) (t:Tm):Str:=(wk p t).raw
def wrR(p:Bool) (t:Tm):Str:=(wk p t).rest
def held(p:Bool) (m:Int) (t:Tm):Str:=yi p m (qfs t) (wr p t)
end Go.Vm
namespace Go.Vm
theorem Qr(s:Str) (a b:Nat) (h:a≤b) (hb:b≤s.length):qbe (S s) (some (I a)) (some (I b))=some (S (zk s a b)):=by
 have h1:Zx 0 (some (I a))=some (a:Int):=rfl
 have h2:Zx s.length (some (I b))=some (b:Int):=rfl
 rw [quv h1 h2 (by omega) (by omega) (by omega)]
 rfl
theorem qpz(s:Str) (hl:s.length≤2^61) (at_:Nat) (m:Nat): ∀ i,i+m=s.length→at_+1≤i→
 lw qg JR ⟨[(0,S s),(1,I at_),(5,I i)],[]⟩=match kJ (s.drop i)with
  |none=>some (.exit 0,⟨[],[]⟩)
  |some k=>some (.ret,⟨[(4,I (if xj (zk s (at_+1) (i+k))=true then ((i+k+1:Nat):Int)else 0))],[]⟩):=by
 induction m with
 |zero=>
  intro i hi ha
  rw [List.drop_eq_nil_of_le (by omega),qn]
  have h: ¬ (i:Int) < s.length:=by omega
  simp only [kJ]
  simp only [go_sem,qa,qb,qc,qd,qe,qf,reduceCtorEq,Ys,h]
 |succ m ih=>
  intro i hi ha
  have h:(i:Int) < s.length:=by omega
  obtain ⟨c,hc⟩:=yh (l:=s) (i:=i) (by omega)
  have ix:=z8 (l:=s) (i:=(i:Int)) (c:=c) (by omega) (by simpa using hc)
  have e1:w64 ((i:Int)+1)=((i+1:Nat):Int):=by rw [qj]<;>omega
  have e2:w64 ((at_:Int)+1)=((at_+1:Nat):Int):=by rw [qj]<;>omega
  rw [kE hc,qn]
  simp only [kJ]
  by_cases h39:isB 39 c=true
  ·have d:decide ((c.toNat:Int)=39)=true:=h39
   rw [if_pos h39]
   have sl:=Qr s (at_+1) i ha (by omega)
   have nm:=qiz (zk s (at_+1) i) (by unfold zk;simp only [List.length_drop,List.length_take];omega)
   simp only [Nat.add_zero]
   cases hn:xj (zk s (at_+1) i)with
   |true=>rw [hn]at nm;rw [if_pos rfl];simp only [go_sem,qa,qb,qc,qd,qe,qf,reduceCtorEq,Ys,h,ix,e1,e2,d,sl,nm]
   |false=>rw [hn]at nm;rw [if_neg (by decide)];simp only [go_sem,qa,qb,qc,qd,qe,qf,reduceCtorEq,Ys,h,ix,e1,e2,d,sl,nm]
  ·have d:decide ((c.toNat:Int)=39)=false:=by simpa [isB]using h39
   have i1:=ih (i+1) (by omega) (by omega)
   rw [if_neg h39]
   have hq: ∀ k,i+1+k=i+(k+1):=fun k=>by omega
   cases hk:kJ (s.drop (i+1))with
   |none=>
    rw [hk]at i1
    simp only [Option.map_none]at i1 ⊢
    simp only [go_sem,qa,qb,qc,qd,qe,qf,reduceCtorEq,Ys,h,ix,e1,d]
    exact i1
   |some k=>
    rw [hk]at i1
    simp only [Option.map_some,hq]at i1 ⊢
    simp only [go_sem,qa,qb,qc,qd,qe,qf,reduceCtorEq,Ys,h,ix,e1,d]
    exact i1
def qfA(s:Str) (i:Nat):Int:=match Qn (s.drop (i+1))with
 |some k=>((i+1+k+1:Nat):Int)
 |none=>0
theorem qpA(s:Str) (hl:s.length≤2^61) (i:Nat) (hi:i < s.length):cr qg qdZ [S s,I i]=some (I (qfA s i)):=by
 have h:=qpz s hl i (s.length - (i+1)) (i+1) (by omega) (Nat.le_refl _)
 have e2:w64 ((i:Int)+1)=((i+1:Nat):Int):=by rw [qj]<;>omega
 rw [qv qr7 rfl]
 unfold qfA Qn
 cases hk:kJ (s.drop (i+1))with
 |none=>
  rw [hk]at h
  simp only at h
  simp only [go_sem,qa,qb,qc,qd,qe,qf,reduceCtorEq,Q8,e2,h]
 |some k=>
  rw [hk]at h
  have hs:zk s (i+1) (i+1+k)=(s.drop (i+1)).take k:=by
   unfold zk;rw [List.drop_take,Nat.add_sub_cancel_left]
  simp only [hs]at h
  simp only
  by_cases hn:xj ((s.drop (i+1)).take k)=true
  ·rw [if_pos hn]at h;simp only [if_pos hn];simp only [go_sem,qa,qb,qc,qd,qe,qf,reduceCtorEq,Q8,e2,h]
  ·rw [if_neg hn]at h;simp only [if_neg hn];simp only [go_sem,qa,qb,qc,qd,qe,qf,reduceCtorEq,Q8,e2,h]
theorem qtS(s:Str) (hl:s.length≤2^61) (i:Nat) (e:Nat) (x:Str) (m:Nat): ∀ n,n+m=s.length→
 lw qg JT ⟨[(0,S s),(1,I i),(4,.p (100000,0) 0 0),(7,.p (100000,1) 0 0),(8,I e),(13,I n)],[((100000,0),5,[.a [I 0,S [],I 0,I 0,B false]]),((100000,1),5,[.a [I 6,S x,I 0,I i,B false]])]⟩=some (.exit 3,⟨[(0,S s),(1,I i),(4,.p (100000,0) 0 0),(7,.p (100000,1) 0 0),(8,I e),(13,I ((n+pre q6 (s.drop n):Nat):Int))],[((100000,0),5,[.a [I 0,S [],I 0,I 0,B false]]),((100000,1),5,[.a [I 6,S x,I 0,I i,B false]])]⟩):=by
 induction m with
 |zero=>
  intro n hn
  rw [List.drop_eq_nil_of_le (by omega),qn]
  have h: ¬ (n:Int) < s.length:=by omega
  simp only [go_sem,qa,qb,qc,qd,qe,qf,reduceCtorEq,qaj,h,pre]
 |succ m ih=>
  intro n hn
  have h:(n:Int) < s.length:=by omega
  obtain ⟨c,hc⟩:=yh (l:=s) (i:=n) (by omega)
  have ix:=z8 (l:=s) (i:=(n:Int)) (c:=c) (by omega) (by simpa using hc)
  have w:=qge c
  have e1:w64 ((n:Int)+1)=((n+1:Nat):Int):=by rw [qj]<;>omega
  rw [kE hc,qn,pre]
  cases hw:q6 c with
  |true=>
   rw [hw]at w
   have i1:=ih (n+1) (by omega)
   rw [if_pos rfl,show n+(pre q6 (s.drop (n+1))+1)=n+1+pre q6 (s.drop (n+1))by omega]
   simp only [go_sem,qa,qb,qc,qd,qe,qf,reduceCtorEq,qaj,h,ix,w,e1]
   exact i1
  |false=>
   rw [hw]at w
   rw [if_neg (by decide)]
   simp only [go_sem,qa,qb,qc,qd,qe,qf,reduceCtorEq,qaj,h,ix,w,e1]
theorem qtR(s:Str) (hl:s.length≤2^61) (i:Nat) (e:Nat) (x:Str) (m:Nat): ∀ (n:Nat) (a:Int),n+m=s.length→0≤a→a≤9999999999→
 lw qg JU ⟨[(0,S s),(1,I i),(4,.p (100000,0) 0 0),(7,.p (100000,1) 0 0),(8,I e),(10,I n),(11,I a)],[((100000,0),5,[.a [I 0,S [],I 0,I 0,B false]]),((100000,1),5,[.a [I 6,S x,I 0,I i,B false]])]⟩=some (.exit 1,⟨[(1,I i),(4,.p (100000,0) 0 0),(7,.p (100000,1) 0 0),(8,I e),(10,I ((n+nk (s.drop n) a:Nat):Int)),(11,I (nf (s.drop n) a))],[((100000,0),5,[.a [I 0,S [],I 0,I 0,B false]]),((100000,1),5,[.a [I 6,S x,I 0,I i,B false]])]⟩):=by
 induction m with
 |zero=>
  intro n a hn h0 h1
  rw [List.drop_eq_nil_of_le (by omega),qn]
  have h: ¬ (n:Int) < s.length:=by omega
  simp only [go_sem,qa,qb,qc,qd,qe,qf,reduceCtorEq,XS,h,nf,nk]
 |succ m ih=>
  intro n a hn h0 h1
  have h:(n:Int) < s.length:=by omega
  obtain ⟨c,hc⟩:=yh (l:=s) (i:=n) (by omega)
  have ix:=z8 (l:=s) (i:=(n:Int)) (c:=c) (by omega) (by simpa using hc)
  have w:=qe1 c
  have e1:w64 ((n:Int)+1)=((n+1:Nat):Int):=by rw [qj]<;>omega
  rw [kE hc,qn,nf,nk]
  cases hw:inB 48 57 c with
  |true=>
   rw [hw]at w
   have hb:=hw
   simp only [inB,Bool.and_eq_true,decide_eq_true_eq]at hb
   by_cases ha:a≤999999999
   ·have da:decide (a≤999999999)=true:=decide_eq_true ha
    have i1:=ih (n+1) (10*a+c.toNat - 48) (by omega) (by omega) (by omega)
    have e3:w64 (10*a)=10*a:=by rw [qj]<;>omega
    have e4:w64 (c.toNat:Int)=c.toNat:=by rw [qj]<;>omega
    have e5:w64 (10*a+c.toNat)=10*a+c.toNat:=by rw [qj]<;>omega
    have e6:w64 (10*a+c.toNat - 48)=10*a+c.toNat - 48:=by rw [qj]<;>omega
    rw [da,Bool.and_self,if_pos rfl,if_pos rfl,show n+(nk (s.drop (n+1)) (10*a+c.toNat - 48)+1)=n+1+nk (s.drop (n+1)) (10*a+c.toNat - 48)by omega]
    simp only [go_sem,qa,qb,qc,qd,qe,qf,reduceCtorEq,XS,h,ix,w,e1,da,ha,e3,e4,e5,e6]
    exact i1
   ·have da:decide (a≤999999999)=false:=decide_eq_false ha
    rw [da,Bool.and_false,if_neg (by decide),if_neg (by decide)]
    simp only [go_sem,qa,qb,qc,qd,qe,qf,reduceCtorEq,XS,h,ix,w,e1,da,ha,Nat.add_zero]
  |false=>
   rw [hw]at w
   rw [Bool.false_and,if_neg (by decide),if_neg (by decide)]
   simp only [go_sem,qa,qb,qc,qd,qe,qf,reduceCtorEq,XS,h,ix,w,e1,Nat.add_zero]
end Go.Vm
namespace Go.Vm
open Go.Lib (indexByte)
theorem qgl {s:Str} {i:Nat} {c:UInt8} (hc:s[i]? =some c):zk s i (i+1)=[c]:=by
 unfold zk
 rw [List.drop_take,kE hc,Nat.add_sub_cancel_left]
 rfl
theorem qgk {s:Str} {i n:Nat} (h:i+n≤s.length):(zk s i (i+n)).length=n:=by
 unfold zk;simp only [List.length_drop,List.length_take];omega
theorem xK {n:Nat} {c:UInt8} (h:isB n c=true):c=UInt8.ofNat n:=by
 unfold isB at h
 have h1:(c.toNat:Int)=n:=of_decide_eq_true h
 have h2:c.toNat=n:=by omega
 rw [← h2];simp
theorem qlC {c:UInt8} (h:q6 c=true):(inB 97 122 c||yr c)=false∧inB 48 57 c=false∧isB 39 c=false∧(isB 33 c||isB 59 c)=false∧(isB 40 c||isB 41 c||isB 91 c||isB 93 c||isB 44 c||isB 124 c)=false:=by
 unfold q6 at h
 have h1:c ∈ xV:=of_decide_eq_true h
 have h2:xV.all (fun c=> !(inB 97 122 c||yr c)&& !inB 48 57 c&& !isB 39 c&& !(isB 33 c||isB 59 c)&& !(isB 40 c||isB 41 c||isB 91 c||isB 93 c||isB 44 c||isB 124 c))=true:=by decide
 have h3:=List.all_eq_true.1 h2 c h1
 simp only [Bool.and_eq_true,Bool.not_eq_true']at h3
 exact ⟨h3.1.1.1.1,h3.1.1.1.2,h3.1.1.2,h3.1.2,h3.2⟩
theorem qmW {s:Str} {i:Nat} {c:UInt8} (h:jE s i c=true):c=46∧q6 c=true:=by
 unfold jE at h
 simp only [Bool.and_eq_true]at h
 have:c=46:=xK (n:=46) h.1
 subst this
 exact ⟨rfl,by decide⟩
def qf8(s:Str) (i:Nat) (c:UInt8):Sg × Nat:=
 if jE s i c=true then (⟨5,[46],0,i,false⟩,i+1)
 else if (inB 97 122 c||yr c)=true then
  if pre zy (s.drop i)≤20 then (⟨if yr c=true then 2 else 1,zk s i (i+pre zy (s.drop i)),0,i,false⟩,i+pre zy (s.drop i))else bad s i
 else if inB 48 57 c=true then
  if nf (s.drop i) 0≤999999999 then (⟨3,[],nf (s.drop i) 0,i,false⟩,i+pre (inB 48 57) (s.drop i))else bad s i
 else if q6 c=true then
  if pre q6 (s.drop i)≤20 then (⟨1,zk s i (i+pre q6 (s.drop i)),0,i,false⟩,i+pre q6 (s.drop i))else bad s i
 else if (isB 33 c||isB 59 c)=true then (⟨1,zk s i (i+1),0,i,false⟩,i+1)
 else if (isB 40 c||isB 41 c||isB 91 c||isB 93 c||isB 44 c||isB 124 c)=true then (⟨4,zk s i (i+1),0,i,false⟩,i+1)
 else if isB 39 c=true then
  match Qn (s.drop (i+1))with
  |some m=>(⟨1,zk s (i+1) (i+1+m),0,i,false⟩,i+1+m+1)
  |none=>bad s i
 else bad s i
theorem qtV {s:Str} {i:Nat} {c:UInt8} (hc:s[i]? =some c):sgn s i c=qf8 s i c:=by
 unfold sgn qf8
 by_cases hE:jE s i c=true
 ·obtain ⟨h46,hs⟩:=qmW hE
  obtain ⟨h1,h2,h3,h4,h5⟩:=qlC hs
  rw [h1,h2,h3,h4,h5,if_pos hE,if_pos hE,qgl hc,h46]
  rfl
 rw [if_neg hE,if_neg hE]
 by_cases hY:q6 c=true
 ·obtain ⟨h1,h2,h3,h4,h5⟩:=qlC hY
  rw [h1,h2,h3,h4,h5,if_pos hY,if_pos hY]
  rfl
 rw [if_neg hY,if_neg hY]
 by_cases h1:(inB 97 122 c||yr c)=true
 ·rw [if_pos h1,if_pos h1]
 rw [if_neg h1,if_neg h1]
 by_cases h2:inB 48 57 c=true
 ·rw [if_pos h2,if_pos h2]
 rw [if_neg h2,if_neg h2]
 by_cases h3:isB 39 c=true
 ·have:=xK (n:=39) h3
  subst this
  rw [if_pos (show isB 39 (UInt8.ofNat 39)=true by decide)]
  rfl
 ·rw [if_neg h3,if_neg h3]
theorem qkd: ∀ (r:Str),r[pre zL r]? =some 39→kJ r=some (pre zL r)∧xP (r.take (pre zL r))=true
 |[],h=>by simp at h
 |c::r,h=>by
  simp only [pre]at h ⊢
  by_cases hc:zL c=true
  ·rw [if_pos hc]at h ⊢
   rw [List.getElem?_cons_succ]at h
   obtain ⟨h1,h2⟩:=qkd r h
   have h3:isB 39 c=false:=by
    cases hi:isB 39 c with
    |false=>rfl
    |true=>have:=xK (n:=39) hi;subst this;cases hc
   refine ⟨by simp only [kJ,h3,h1,Bool.false_eq_true,if_false,Option.map_some], ?_⟩
   unfold xP at h2 ⊢
   rw [List.take_succ_cons,List.all_cons,hc,h2];rfl
  ·rw [if_neg hc]at h ⊢
   simp only [List.getElem?_cons_zero,Option.some.injEq]at h
   subst h
   exact ⟨rfl,rfl⟩
theorem qj5: ∀ (r:Str) (k:Nat),kJ r=some k→xP (r.take k)=true→pre zL r=k∧r[k]? =some 39
 |[],k,h,_=>by cases h
 |c::r,k,h,h2=>by
  simp only [kJ]at h
  split at h
  ·rename_i h3
   cases h
   have:=xK (n:=39) h3
   subst this
   exact ⟨rfl,rfl⟩
  ·rw [Option.map_eq_some_iff]at h
   obtain ⟨m,hm,rfl⟩:=h
   unfold xP at h2
   rw [List.take_succ_cons,List.all_cons,Bool.and_eq_true]at h2
   obtain ⟨h4,h5⟩:=qj5 r m hm h2.2
   refine ⟨by simp only [pre,h2.1,if_true,h4],by rw [List.getElem?_cons_succ];exact h5⟩
theorem qsB(r:Str):Qn r=if r[pre zL r]? =some 39∧1≤pre zL r∧pre zL r≤20 then some (pre zL r)else none:=by
 have hl: ∀ k,k < r.length→(r.take k).length=k:=fun k h=>by rw [List.length_take];omega
 unfold Qn
 by_cases h:r[pre zL r]? =some 39
 ·obtain ⟨h1,h2⟩:=qkd r h
  have h3:=hl _ (qfy h1)
  rw [h1]
  simp only [xj,h2,Bool.true_and,decide_eq_true_eq,h3,h,true_and]
 ·rw [if_neg fun h'=>h h'.1]
  split
  ·rename_i k hk
   split
   ·rename_i hn
    unfold xj at hn
    rw [Bool.and_eq_true]at hn
    obtain ⟨h4,h5⟩:=qj5 r k hk hn.1
    rw [h4]at h
    exact absurd h5 h
   ·rfl
  ·rfl
theorem qqB(c:UInt8):decide (0≤indexByte [40,41,91,93,44,124] c)=(isB 40 c||isB 41 c||isB 91 c||isB 93 c||isB 44 c||isB 124 c):=by
 have h:=qeU [40,41,91,93,44,124] c
 have e: ∀ n:Nat,n < 256→(isB n c=true↔c=UInt8.ofNat n):=fun n hn=>⟨xK,by
  rintro rfl
  unfold isB
  refine decide_eq_true ?_
  rw [UInt8.toNat_ofNat']
  omega⟩
 have e40:=e 40 (by decide)
 have e41:=e 41 (by decide)
 have e91:=e 91 (by decide)
 have e93:=e 93 (by decide)
 have e44:=e 44 (by decide)
 have e124:=e 124 (by decide)
 rw [Bool.eq_iff_iff,decide_eq_true_iff,h]
 simp only [Bool.or_eq_true]
 simp only [Int.cast_ofNat_Int]at e40 e41 e91 e93 e44 e124
 rw [e40,e41,e91,e93,e44,e124]
 simp only [List.mem_cons,List.not_mem_nil,or_false,or_assoc]
 rfl
theorem qqw {c:UInt8} (h:inB 97 122 c=true):yr c=false:=by
 unfold inB at h
 simp only [Bool.and_eq_true,decide_eq_true_eq]at h
 unfold yr inB isB
 simp only [Bool.or_eq_false_iff,Bool.and_eq_false_iff,decide_eq_false_iff_not]
 omega
end Go.Vm
namespace Go.Vm
theorem qpD(s:Str) (hl:s.length≤2^61) (i:Nat) (c:UInt8) (hc:s[i]? =some c):
 cr qg qd1 [S s,I i]=some (.t [(sgn s i c).1.v,I (sgn s i c).2]):=by
 have hi:i < s.length:=(List.getElem?_eq_some_iff.1 hc).1
 have ix:=z8 (l:=s) (i:=(i:Int)) (c:=c) (by omega) (by simpa using hc)
 have e1:w64 ((i:Int)+1)=((i+1:Nat):Int):=by rw [qj]<;>omega
 have sl:=Qr s i (i+1) (by omega) (by omega)
 have cS:=qiC c
 have cG:=qiB c
 have cF:=qe1 c
 have cY:=qge c
 have cE:=qpy s hl i c hc
 rw [qv qr9 rfl]
 by_cases hw:(inB 97 122 c||yr c)=true
 ·have hr:=qpC s hl i (by omega)
  have hp:=jf (p:=zy) (s:=s) (i:=i) (by omega)
  have e2:w64 (((i+pre zy (s.drop i):Nat):Int) - i)=(pre zy (s.drop i):Nat):=by rw [qj]<;>omega
  have sl2:=Qr s i (i+pre zy (s.drop i)) (by omega) hp
  unfold sgn
  rw [if_pos hw]
  by_cases h20:pre zy (s.drop i)≤20
  ·have h20':((pre zy (s.drop i):Nat):Int)≤20:=by omega
   rw [if_pos h20]
   cases hS:inB 97 122 c<;>cases hG:yr c<;>rw [hS]at cS<;>rw [hG]at cG<;>rw [hS,hG]at hw
   ·cases hw
   all_goals simp only [go_sem,qa,qb,qc,qd,qe,qf,reduceCtorEq,yd,ix,e1,sl,cS,cG,hr,e2,h20',sl2,Sg.v]
  ·have h20': ¬ ((pre zy (s.drop i):Nat):Int)≤20:=by omega
   rw [if_neg h20]
   cases hS:inB 97 122 c<;>cases hG:yr c<;>rw [hS]at cS<;>rw [hG]at cG<;>rw [hS,hG]at hw
   ·cases hw
   all_goals simp only [go_sem,qa,qb,qc,qd,qe,qf,reduceCtorEq,yd,ix,e1,sl,cS,cG,hr,e2,h20',sl2,Sg.v,bad]
 have hw':=hw
 simp only [Bool.not_eq_true,Bool.or_eq_false_iff]at hw'
 rw [hw'.1]at cS
 rw [hw'.2]at cG
 unfold sgn
 rw [if_neg hw]
 by_cases hF:inB 48 57 c=true
 ·rw [hF]at cF
  rw [if_pos hF]
  have h:=qtR s hl i (i+1) (zk s i (i+1)) (s.length - i) i 0 (by omega) (by decide) (by decide)
  by_cases hn:nf (s.drop i) 0≤999999999
  ·have hk:=qjo (s.drop i) 0 (by decide) hn
   rw [if_pos hn]
   rw [hk]at h
   simp only [go_sem,qa,qb,qc,qd,qe,qf,reduceCtorEq,yd,ix,e1,sl,cS,cG,cF,h,hn,Sg.v]
  ·rw [if_neg hn]
   simp only [go_sem,qa,qb,qc,qd,qe,qf,reduceCtorEq,yd,ix,e1,sl,cS,cG,cF,h,hn,Sg.v,bad]
 have hF':inB 48 57 c=false:=by simpa using hF
 rw [hF']at cF
 rw [if_neg hF]
 by_cases h39:isB 39 c=true
 ·have d39:decide ((c.toNat:Int)=39)=true:=h39
  rw [if_pos h39]
  have hq:=qpA s hl i hi
  unfold qfA at hq
  cases hk:Qn (s.drop (i+1))with
  |none=>
   rw [hk]at hq
   simp only [go_sem,qa,qb,qc,qd,qe,qf,reduceCtorEq,yd,ix,e1,sl,cS,cG,cF,d39,hq,Sg.v,bad]
  |some k=>
   rw [hk]at hq
   have hlt:=(qke hk).1
   rw [List.length_drop]at hlt
   have e2:w64 (((i+1+k+1:Nat):Int) - 1)=((i+1+k:Nat):Int):=by rw [qj]<;>omega
   have sl2:=Qr s (i+1) (i+1+k) (by omega) (by omega)
   have h0:(0:Int) < ((i+1+k+1:Nat):Int):=by omega
   simp only [go_sem,qa,qb,qc,qd,qe,qf,reduceCtorEq,yd,ix,e1,sl,cS,cG,cF,d39,hq,e2,sl2,h0,Sg.v]
 have d39:decide ((c.toNat:Int)=39)=false:=by simpa [isB]using h39
 rw [if_neg h39]
 by_cases hA:(isB 33 c||isB 59 c)=true
 ·rw [if_pos hA]
  cases h33:decide ((c.toNat:Int)=33)with
  |true=>simp only [go_sem,qa,qb,qc,qd,qe,qf,reduceCtorEq,yd,ix,e1,sl,cS,cG,cF,d39,h33,Sg.v]
  |false=>
   have h59:decide ((c.toNat:Int)=59)=true:=by unfold isB at hA;rw [h33]at hA;exact hA
   simp only [go_sem,qa,qb,qc,qd,qe,qf,reduceCtorEq,yd,ix,e1,sl,cS,cG,cF,d39,h33,h59,Sg.v]
 have hA':=hA
 unfold isB at hA'
 simp only [Bool.not_eq_true,Bool.or_eq_false_iff]at hA'
 have h33:=hA'.1
 have h59:=hA'.2
 rw [if_neg hA]
 by_cases hM:(isB 40 c||isB 41 c||isB 91 c||isB 93 c||isB 44 c||isB 124 c)=true
 ·rw [if_pos hM]
  unfold isB at hM
  cases h40:decide ((c.toNat:Int)=40)with
  |true=>simp only [go_sem,qa,qb,qc,qd,qe,qf,reduceCtorEq,yd,ix,e1,sl,cS,cG,cF,d39,h33,h59,h40,Sg.v]
  |false=>
  cases h41:decide ((c.toNat:Int)=41)with
  |true=>simp only [go_sem,qa,qb,qc,qd,qe,qf,reduceCtorEq,yd,ix,e1,sl,cS,cG,cF,d39,h33,h59,h40,h41,Sg.v]
  |false=>
  cases h91:decide ((c.toNat:Int)=91)with
  |true=>simp only [go_sem,qa,qb,qc,qd,qe,qf,reduceCtorEq,yd,ix,e1,sl,cS,cG,cF,d39,h33,h59,h40,h41,h91,Sg.v]
  |false=>
  cases h93:decide ((c.toNat:Int)=93)with
  |true=>simp only [go_sem,qa,qb,qc,qd,qe,qf,reduceCtorEq,yd,ix,e1,sl,cS,cG,cF,d39,h33,h59,h40,h41,h91,h93,Sg.v]
  |false=>
  cases h44:decide ((c.toNat:Int)=44)with
  |true=>simp only [go_sem,qa,qb,qc,qd,qe,qf,reduceCtorEq,yd,ix,e1,sl,cS,cG,cF,d39,h33,h59,h40,h41,h91,h93,h44,Sg.v]
  |false=>
   have h124:decide ((c.toNat:Int)=124)=true:=by rw [h40,h41,h91,h93,h44]at hM;exact hM
   simp only [go_sem,qa,qb,qc,qd,qe,qf,reduceCtorEq,yd,ix,e1,sl,cS,cG,cF,d39,h33,h59,h40,h41,h91,h93,h44,h124,Sg.v]
 have hM':=hM
 unfold isB at hM'
 simp only [Bool.not_eq_true,Bool.or_eq_false_iff]at hM'
 obtain ⟨⟨⟨⟨⟨h40,h41⟩,h91⟩,h93⟩,h44⟩,h124⟩:=hM'
 rw [if_neg hM]
 cases hE:jE s i c with
 |true=>
  rw [hE]at cE
  rw [if_pos rfl]
  simp only [go_sem,qa,qb,qc,qd,qe,qf,reduceCtorEq,yd,ix,e1,sl,cS,cG,cF,d39,h33,h59,h40,h41,h91,h93,h44,h124,cE,Sg.v]
 |false=>
 rw [hE]at cE
 rw [if_neg (by decide)]
 cases hY:q6 c with
 |false=>
  rw [hY]at cY
  rw [if_neg (by decide)]
  simp only [go_sem,qa,qb,qc,qd,qe,qf,reduceCtorEq,yd,ix,e1,sl,cS,cG,cF,d39,h33,h59,h40,h41,h91,h93,h44,h124,cE,cY,Sg.v,bad]
 |true=>
 rw [hY]at cY
 rw [if_pos rfl]
 have h:=qtS s hl i (i+1) (zk s i (i+1)) (s.length - i) i (by omega)
 have hp:=jf (p:=q6) (s:=s) (i:=i) (by omega)
 have e2:w64 (((i+pre q6 (s.drop i):Nat):Int) - i)=(pre q6 (s.drop i):Nat):=by rw [qj]<;>omega
 have sl2:=Qr s i (i+pre q6 (s.drop i)) (by omega) hp
 by_cases h20:pre q6 (s.drop i)≤20
 ·have h20':((pre q6 (s.drop i):Nat):Int)≤20:=by omega
  rw [if_pos h20]
  simp only [go_sem,qa,qb,qc,qd,qe,qf,reduceCtorEq,yd,ix,e1,sl,cS,cG,cF,d39,h33,h59,h40,h41,h91,h93,h44,h124,cE,cY,h,e2,h20',sl2,Sg.v]
 ·have h20': ¬ ((pre q6 (s.drop i):Nat):Int)≤20:=by omega
  rw [if_neg h20]
  simp only [go_sem,qa,qb,qc,qd,qe,qf,reduceCtorEq,yd,ix,e1,sl,cS,cG,cF,d39,h33,h59,h40,h41,h91,h93,h44,h124,cE,cY,h,e2,h20',sl2,Sg.v,bad]
end Go.Vm
namespace Go.Vm
open Go.Lib (indexByte)
theorem qne(s:Str) (hl:s.length≤2^61) (i:Nat) (e:Nat) (he:e≤s.length) (m:Nat): ∀ (n:Nat) (a:Int),n+m=e→n+pre (inB 48 57) (s.drop n)=e→0≤a→a≤9999999999→
 lw qg JC ⟨[(0,S s),(1,I i),(4,.p (100000,0) 0 0),(7,.p (100000,1) 0 0),(8,I e),(9,I a),(10,I n)],[((100000,0),5,[.a [I 0,S [],I 0,I 0,B false]]),((100000,1),5,[.a [I 0,S [],I 0,I i,B false]])]⟩=some (.exit 1,⟨[(0,S s),(1,I i),(4,.p (100000,0) 0 0),(7,.p (100000,1) 0 0),(8,I e),(9,I (nf (s.drop n) a))],[((100000,0),5,[.a [I 0,S [],I 0,I 0,B false]]),((100000,1),5,[.a [I 0,S [],I 0,I i,B false]])]⟩):=by
 induction m with
 |zero=>
  intro n a hn hp h0 h1
  have h: ¬ (n:Int) < e:=by omega
  have hz:pre (inB 48 57) (s.drop n)=0:=by omega
  have hnf:nf (s.drop n) a=a:=by
   cases hd:s.drop n with
   |nil=>rfl
   |cons c r=>
    rw [hd,pre]at hz
    have hc:inB 48 57 c=false:=by
     cases hc:inB 48 57 c with
     |false=>rfl
     |true=>rw [hc,if_pos rfl]at hz;omega
    rw [nf,hc,Bool.false_and,if_neg (by decide)]
  rw [hnf,qn]
  simp only [go_sem,qa,qb,qc,qd,qe,qf,reduceCtorEq,J0,h]
 |succ m ih=>
  intro n a hn hp h0 h1
  have h:(n:Int) < e:=by omega
  obtain ⟨c,hc⟩:=yh (l:=s) (i:=n) (by omega)
  have ix:=z8 (l:=s) (i:=(n:Int)) (c:=c) (by omega) (by simpa using hc)
  have e1:w64 ((n:Int)+1)=((n+1:Nat):Int):=by rw [qj]<;>omega
  rw [kE hc,pre]at hp
  have hw:inB 48 57 c=true:=by
   cases hw:inB 48 57 c with
   |true=>rfl
   |false=>rw [hw,if_neg (by decide)]at hp;omega
  rw [hw,if_pos rfl]at hp
  rw [kE hc,qn,nf,hw]
  simp only [inB,Bool.and_eq_true,decide_eq_true_eq]at hw
  by_cases ha:a≤999999999
  ·have da:decide (a≤999999999)=true:=decide_eq_true ha
   have i1:=ih (n+1) (10*a+c.toNat - 48) (by omega) (by omega) (by omega) (by omega)
   have e3:w64 (10*a)=10*a:=by rw [qj]<;>omega
   have e4:IntKind.u8.wrap ((c.toNat:Int) - 48)=c.toNat - 48:=by
    have:((c.toNat:Int) - 48) % 256=c.toNat - 48:=by omega
    exact this
   have e5:w64 ((c.toNat:Int) - 48)=c.toNat - 48:=by rw [qj]<;>omega
   have e6:w64 (10*a+((c.toNat:Int) - 48))=10*a+c.toNat - 48:=by rw [qj]<;>omega
   have u8s:zw .sub (U8 c.toNat) (U8 48)=some (U8 (IntKind.u8.wrap ((c.toNat:Int) - 48))):=rfl
   rw [da,Bool.and_self,if_pos rfl]
   simp only [go_sem,qa,qb,qc,qd,qe,qf,reduceCtorEq,J0,h,ix,e1,da,ha,u8s,e3,e4,e5,e6]
   exact i1
  ·have da:decide (a≤999999999)=false:=decide_eq_false ha
   rw [da,Bool.and_false,if_neg (by decide)]
   simp only [go_sem,qa,qb,qc,qd,qe,qf,reduceCtorEq,J0,h,ix,e1,da,ha]
theorem qqI(c:UInt8):cr qg qbs [U8 c.toNat]=some (B (zL c)):=by
 have hc:=UInt8.toNat_lt c
 have hw:w64 (c.toNat:Int)=c.toNat:=by rw [qj]<;>omega
 have hin:=jp c.toNat 33 126
 rw [qv qrg rfl]
 rcases qfh c with ⟨h0,h1,h2,h3,h4⟩|⟨h0,h1|⟨h1,h2|⟨h2,h3|⟨h3,h4⟩⟩⟩⟩
 ·rw [decide_eq_true (show (33:Int)≤c.toNat∧(c.toNat:Int)≤126 by omega)]at hin
  simp only [go_sem,qa,qb,qc,qd,qe,qf,reduceCtorEq,jP,hw,hin,h3,h4,h0]
 ·rw [decide_eq_false (show ¬ ((33:Int)≤c.toNat∧(c.toNat:Int)≤126)by omega)]at hin
  simp only [go_sem,qa,qb,qc,qd,qe,qf,reduceCtorEq,jP,hw,hin,h0]
 ·rw [decide_eq_false (show ¬ ((33:Int)≤c.toNat∧(c.toNat:Int)≤126)by omega)]at hin
  simp only [go_sem,qa,qb,qc,qd,qe,qf,reduceCtorEq,jP,hw,hin,h0]
 ·rw [decide_eq_true (show (33:Int)≤c.toNat∧(c.toNat:Int)≤126 by omega)]at hin
  simp only [go_sem,qa,qb,qc,qd,qe,qf,reduceCtorEq,jP,hw,hin,h3,h0]
 ·rw [decide_eq_true (show (33:Int)≤c.toNat∧(c.toNat:Int)≤126 by omega)]at hin
  simp only [go_sem,qa,qb,qc,qd,qe,qf,reduceCtorEq,jP,hw,hin,h3,h4,h0]
theorem qqJ(s:Str) (hl:s.length≤2^61) (i:Nat) (c:UInt8) (hc:s[i]? =some c):
 cr qg qdI [S s,I i]=some (.t [(sgn s i c).1.v,I (sgn s i c).2]):=by
 have hi:i < s.length:=(List.getElem?_eq_some_iff.1 hc).1
 have ix:=z8 (l:=s) (i:=(i:Int)) (c:=c) (by omega) (by simpa using hc)
 have e1:w64 ((i:Int)+1)=((i+1:Nat):Int):=by rw [qj]<;>omega
 have sl:=Qr s i (i+1) (by omega) (by omega)
 have ln:((zk s i (i+1)).length:Int)=1:=by rw [qgk (by omega)];rfl
 have cS:=qik c
 have cG:=qip c
 have cF:=qeP c
 have cY:=qeO c
 have cE:=qmX s hl i c hc
 have cX:=qcd [40,41,91,93,44,124] c
 have cM:=qqB c
 rw [qtV hc,qv qrf rfl]
 unfold qf8
 cases hE:jE s i c with
 |true=>
  rw [hE]at cE
  rw [if_pos rfl]
  simp only [go_sem,qa,qb,qc,qd,qe,qf,reduceCtorEq,z6,ix,e1,cE,Int.reduceEq,Int.reduceLT,Int.reduceNe,decide_true,decide_false,Sg.v]
 |false=>
 rw [hE]at cE
 rw [if_neg (by decide)]
 by_cases hw:(inB 97 122 c||yr c)=true
 ·have hr:=qba zy qbw qny s hl i (by omega)
  have hp:=jf (p:=zy) (s:=s) (i:=i) (by omega)
  have sl2:=Qr s i (i+pre zy (s.drop i)) (by omega) hp
  have ln2:=qgk (s:=s) (i:=i) (n:=pre zy (s.drop i)) hp
  rw [if_pos hw]
  by_cases h20:pre zy (s.drop i)≤20
  ·have h20': ¬ (20:Int) < ((pre zy (s.drop i):Nat):Int):=by omega
   rw [if_pos h20]
   cases hS:inB 97 122 c with
   |true=>
    rw [hS]at cS
    rw [qqw hS]
    simp only [go_sem,qa,qb,qc,qd,qe,qf,reduceCtorEq,z6,ix,e1,cE,cS,hr,sl2,ln2,h20',Int.reduceEq,Int.reduceLT,Int.reduceNe,decide_true,decide_false,Sg.v]
   |false=>
    rw [hS]at cS
    rw [hS,Bool.false_or]at hw
    rw [hw]
    unfold yr isB at hw
    cases hU:inB 65 90 c with
    |true=>rw [hU]at cG;simp only [go_sem,qa,qb,qc,qd,qe,qf,reduceCtorEq,z6,ix,e1,cE,cS,cG,hr,sl2,ln2,h20',Int.reduceEq,Int.reduceLT,Int.reduceNe,decide_true,decide_false,Sg.v]
    |false=>
     rw [hU]at cG
     rw [hU,Bool.false_or]at hw
     simp only [go_sem,qa,qb,qc,qd,qe,qf,reduceCtorEq,z6,ix,e1,cE,cS,cG,hw,hr,sl2,ln2,h20',Int.reduceEq,Int.reduceLT,Int.reduceNe,decide_true,decide_false,Sg.v]
  ·have h20':(20:Int) < ((pre zy (s.drop i):Nat):Int):=by omega
   rw [if_neg h20]
   cases hS:inB 97 122 c with
   |true=>
    rw [hS]at cS
    simp only [go_sem,qa,qb,qc,qd,qe,qf,reduceCtorEq,z6,ix,e1,cE,cS,hr,sl,sl2,ln2,h20',Int.reduceEq,Int.reduceLT,Int.reduceNe,decide_true,decide_false,Sg.v,bad]
   |false=>
    rw [hS]at cS
    rw [hS,Bool.false_or]at hw
    unfold yr isB at hw
    cases hU:inB 65 90 c with
    |true=>rw [hU]at cG;simp only [go_sem,qa,qb,qc,qd,qe,qf,reduceCtorEq,z6,ix,e1,cE,cS,cG,hr,sl,sl2,ln2,h20',Int.reduceEq,Int.reduceLT,Int.reduceNe,decide_true,decide_false,Sg.v,bad]
    |false=>
     rw [hU]at cG
     rw [hU,Bool.false_or]at hw
     simp only [go_sem,qa,qb,qc,qd,qe,qf,reduceCtorEq,z6,ix,e1,cE,cS,cG,hw,hr,sl,sl2,ln2,h20',Int.reduceEq,Int.reduceLT,Int.reduceNe,decide_true,decide_false,Sg.v,bad]
 have hw':=hw
 unfold yr isB at hw'
 simp only [Bool.not_eq_true,Bool.or_eq_false_iff]at hw'
 obtain ⟨hS,hU,h95⟩:=hw'
 rw [hS]at cS
 rw [hU]at cG
 rw [if_neg hw]
 by_cases hF:inB 48 57 c=true
 ·rw [hF]at cF
  rw [if_pos hF]
  have hr:=qba (inB 48 57) XB qeP s hl i (by omega)
  have hp:=jf (p:=inB 48 57) (s:=s) (i:=i) (by omega)
  have sl2:=Qr s i (i+pre (inB 48 57) (s.drop i)) (by omega) hp
  have h:=qne s hl i (i+pre (inB 48 57) (s.drop i)) hp (pre (inB 48 57) (s.drop i)) i 0 (by omega) rfl (by decide) (by decide)
  by_cases hn:nf (s.drop i) 0≤999999999
  ·rw [if_pos hn]
   simp only [go_sem,qa,qb,qc,qd,qe,qf,reduceCtorEq,z6,ix,e1,cE,cS,cG,h95,cF,hr,h,hn,Int.reduceEq,Int.reduceLT,Int.reduceNe,decide_true,decide_false,Sg.v]
  ·rw [if_neg hn]
   simp only [go_sem,qa,qb,qc,qd,qe,qf,reduceCtorEq,z6,ix,e1,sl,cE,cS,cG,h95,cF,hr,h,hn,sl2,Int.reduceEq,Int.reduceLT,Int.reduceNe,decide_true,decide_false,Sg.v,bad]
 have hF':inB 48 57 c=false:=by simpa using hF
 rw [hF']at cF
 rw [if_neg hF]
 cases hY:q6 c with
 |true=>
  rw [hY]at cY
  rw [if_pos rfl]
  have hr:=qba q6 Xz qeO s hl i (by omega)
  have hp:=jf (p:=q6) (s:=s) (i:=i) (by omega)
  have sl2:=Qr s i (i+pre q6 (s.drop i)) (by omega) hp
  have ln2:=qgk (s:=s) (i:=i) (n:=pre q6 (s.drop i)) hp
  by_cases h20:pre q6 (s.drop i)≤20
  ·have h20': ¬ (20:Int) < ((pre q6 (s.drop i):Nat):Int):=by omega
   rw [if_pos h20]
   simp only [go_sem,qa,qb,qc,qd,qe,qf,reduceCtorEq,z6,ix,e1,cE,cS,cG,h95,cF,cY,hr,sl2,ln2,h20',Int.reduceEq,Int.reduceLT,Int.reduceNe,decide_true,decide_false,Sg.v]
  ·have h20':(20:Int) < ((pre q6 (s.drop i):Nat):Int):=by omega
   rw [if_neg h20]
   simp only [go_sem,qa,qb,qc,qd,qe,qf,reduceCtorEq,z6,ix,e1,cE,cS,cG,h95,cF,cY,hr,sl,sl2,ln2,h20',Int.reduceEq,Int.reduceLT,Int.reduceNe,decide_true,decide_false,Sg.v,bad]
 |false=>
 rw [hY]at cY
 rw [if_neg (by decide)]
 by_cases hA:(isB 33 c||isB 59 c)=true
 ·rw [if_pos hA]
  cases h33:decide ((c.toNat:Int)=33)with
  |true=>simp only [go_sem,qa,qb,qc,qd,qe,qf,reduceCtorEq,z6,ix,e1,cE,cS,cG,h95,cF,cY,h33,sl,ln,Int.reduceEq,Int.reduceLT,Int.reduceNe,decide_true,decide_false,Sg.v]
  |false=>
   have h59:decide ((c.toNat:Int)=59)=true:=by unfold isB at hA;rw [h33]at hA;exact hA
   simp only [go_sem,qa,qb,qc,qd,qe,qf,reduceCtorEq,z6,ix,e1,cE,cS,cG,h95,cF,cY,h33,h59,sl,ln,Int.reduceEq,Int.reduceLT,Int.reduceNe,decide_true,decide_false,Sg.v]
 have hA':=hA
 unfold isB at hA'
 simp only [Bool.not_eq_true,Bool.or_eq_false_iff]at hA'
 have h33:=hA'.1
 have h59:=hA'.2
 rw [if_neg hA]
 cases hM:(isB 40 c||isB 41 c||isB 91 c||isB 93 c||isB 44 c||isB 124 c)with
 |true=>
  rw [hM]at cM
  rw [if_pos rfl]
  simp only [go_sem,qa,qb,qc,qd,qe,qf,reduceCtorEq,z6,ix,e1,cE,cS,cG,h95,cF,cY,h33,h59,cX,cM,sl,ln,Int.reduceEq,Int.reduceLT,Int.reduceNe,decide_true,decide_false,Sg.v]
 |false=>
 rw [hM]at cM
 rw [if_neg (by decide)]
 cases h39:isB 39 c with
 |false=>
  unfold isB at h39
  rw [if_neg (by decide)]
  simp only [go_sem,qa,qb,qc,qd,qe,qf,reduceCtorEq,z6,ix,e1,cE,cS,cG,h95,cF,cY,h33,h59,cX,cM,h39,sl,ln,Int.reduceEq,Int.reduceLT,Int.reduceNe,decide_true,decide_false,Sg.v,bad]
 |true=>
 unfold isB at h39
 rw [if_pos rfl]
 have hr:=qba zL qbs qqI s hl (i+1) (by omega)
 have hp:=jf (p:=zL) (s:=s) (i:=i+1) (by omega)
 have hin:=jp (pre zL (s.drop (i+1)):Nat) 1 20
 have e2:w64 (((i+1+pre zL (s.drop (i+1)):Nat):Int) - i)=((1+pre zL (s.drop (i+1)):Nat):Int):=by rw [qj]<;>omega
 have e3:w64 (((1+pre zL (s.drop (i+1)):Nat):Int) - 1)=((pre zL (s.drop (i+1)):Nat):Int):=by rw [qj]<;>omega
 have e4:w64 (((i+1+pre zL (s.drop (i+1)):Nat):Int)+1)=((i+1+pre zL (s.drop (i+1))+1:Nat):Int):=by rw [qj]<;>omega
 have sl2:=Qr s (i+1) (i+1+pre zL (s.drop (i+1))) (by omega) hp
 rw [qsB]
 have hget:(s.drop (i+1))[pre zL (s.drop (i+1))]? =s[i+1+pre zL (s.drop (i+1))]? :=by rw [List.getElem?_drop]
 rw [hget]
 generalize hm:pre zL (s.drop (i+1))=m at*
 by_cases hlt:i+1+m < s.length
 ·have hlt':((i+1+m:Nat):Int) < s.length:=by omega
  obtain ⟨d,hd⟩:=yh (l:=s) (i:=i+1+m) hlt
  have ix2:=z8 (l:=s) (i:=((i+1+m:Nat):Int)) (c:=d) (by omega) (by rw [Int.toNat_natCast];exact hd)
  rw [hd]
  cases hd39:isB 39 d with
  |true=>
   have hdd:=xK (n:=39) hd39
   unfold isB at hd39
   have hsm:(some d=some (39:UInt8))=True:=eq_true (by rw [hdd];rfl)
   simp only [hsm,true_and]
   by_cases hk:1≤m∧m≤20
   ·rw [decide_eq_true (show (1:Int)≤(m:Int)∧(m:Int)≤20 by omega)]at hin
    rw [if_pos hk]
    simp only [go_sem,qa,qb,qc,qd,qe,qf,reduceCtorEq,z6,ix,e1,cE,cS,cG,h95,cF,cY,h33,h59,cX,cM,h39,hr,hlt',ix2,hd39,e2,e3,hin,sl2,e4,Int.reduceEq,Int.reduceLT,Int.reduceNe,decide_true,decide_false,Sg.v]
   ·rw [decide_eq_false (show ¬ ((1:Int)≤(m:Int)∧(m:Int)≤20)by omega)]at hin
    rw [if_neg hk]
    simp only [go_sem,qa,qb,qc,qd,qe,qf,reduceCtorEq,z6,ix,e1,cE,cS,cG,h95,cF,cY,h33,h59,cX,cM,h39,hr,hlt',ix2,hd39,e2,e3,hin,sl,ln,Int.reduceEq,Int.reduceLT,Int.reduceNe,decide_true,decide_false,Sg.v,bad]
  |false=>
   have hne: ¬ (some d=some (39:UInt8)):=by
    intro e
    cases e
    cases hd39
   unfold isB at hd39
   rw [if_neg fun h=>hne h.1]
   simp only [go_sem,qa,qb,qc,qd,qe,qf,reduceCtorEq,z6,ix,e1,cE,cS,cG,h95,cF,cY,h33,h59,cX,cM,h39,hr,hlt',ix2,hd39,sl,ln,Int.reduceEq,Int.reduceLT,Int.reduceNe,decide_true,decide_false,Sg.v,bad]
 ·have hlt': ¬ ((i+1+m:Nat):Int) < s.length:=by omega
  have hno:s[i+1+m]? =none:=List.getElem?_eq_none (by omega)
  rw [hno,if_neg (by rintro ⟨h,-⟩;cases h)]
  simp only [go_sem,qa,qb,qc,qd,qe,qf,reduceCtorEq,z6,ix,e1,cE,cS,cG,h95,cF,cY,h33,h59,cX,cM,h39,hr,hlt',sl,ln,Int.reduceEq,Int.reduceLT,Int.reduceNe,decide_true,decide_false,Sg.v,bad]
end Go.Vm
namespace Go.Vm
section
variable {l:List Sg} {τ:Bool}
@[go_sem] theorem qhn:qE (l.map Sg.v)=true:=Qc (fun _=>rfl) l
@[go_sem] theorem qFa(d:Nat):qG d (l.map Sg.v)=l.map Sg.v:=ZF (fun _=>rfl) d l
@[go_sem] theorem qB6:q9 τ (l.map Sg.v)=l.map Sg.v:=QK (fun _=>rfl) l
@[go_sem] theorem qHl:zo (l.map Sg.v)=true:=ki (fun _=>rfl) l
@[go_sem] theorem qF1(m:Nat) (T:Mem):qA (zh m) T (l.map Sg.v)=(l.map Sg.v,T):=jK m T _ qhn
@[go_sem] theorem qJW(k:Key) (ob:Ob):zB k ob (l.map Sg.v)=none:=ZM k ob _ qhn
@[go_sem] theorem qKD {a n p:Int} {t:Str} {b:Bool}:l.map Sg.v++[.a [I a,S t,I n,I p,B b]]=(l++[Sg.mk a t n p b]).map Sg.v:=by simp [Sg.v]
end
theorem qud(s:Str) (hl:s.length≤3000) (acc:List Sg) (m:Nat): ∀ i,i+m=s.length→
 lw qg JP ⟨[(0,S s),(4,.s (100000,0) 0 acc.length),(5,I i)],[((100000,0),5,acc.map Sg.v)]⟩=
  some (.exit 2,⟨[(0,S s),(4,.s (100000,0) 0 acc.length),(5,I ((i+pre (fun d=> !isB 10 d) (s.drop i):Nat):Int))],[((100000,0),5,acc.map Sg.v)]⟩):=by
 induction m with
 |zero=>
  intro i hi
  rw [List.drop_eq_nil_of_le (by omega),qn]
  have h: ¬ (i:Int) < s.length:=by omega
  simp only [go_sem,qa,qb,qc,qd,qe,qf,reduceCtorEq,qae,h,pre]
 |succ m ih=>
  intro i hi
  have h:(i:Int) < s.length:=by omega
  obtain ⟨c,hc⟩:=yh (l:=s) (i:=i) (by omega)
  have ix:=z8 (l:=s) (i:=(i:Int)) (c:=c) (by omega) (by simpa using hc)
  have e1:w64 ((i:Int)+1)=((i+1:Nat):Int):=by rw [qj]<;>omega
  rw [kE hc,qn,pre]
  cases hw:isB 10 c with
  |false=>
   unfold isB at hw
   have i1:=ih (i+1) (by omega)
   rw [if_pos (by rfl),show i+(pre (fun d=> !isB 10 d) (s.drop (i+1))+1)=i+1+pre (fun d=> !isB 10 d) (s.drop (i+1))by omega]
   simp only [go_sem,qa,qb,qc,qd,qe,qf,reduceCtorEq,qae,h,ix,hw,e1]
   exact i1
  |true=>
   unfold isB at hw
   rw [if_neg (by decide)]
   simp only [go_sem,qa,qb,qc,qd,qe,qf,reduceCtorEq,qae,h,ix,hw,e1,Nat.add_zero]
theorem qmc(c:UInt8):cr qg qbp [U8 c.toNat]=some (B (!isB 10 c)):=by
 rw [qv qq5 rfl]
 unfold isB
 cases h:decide ((c.toNat:Int)=10)<;>simp only [go_sem,qa,qb,qc,qd,qe,qf,reduceCtorEq,Y2,h]
theorem qji {s:Str} {e:Nat} (h:e < s.length) (hl:s.length≤3000): ∃ d,ixV (S s) (I e)=some (U8 (d:UInt8).toNat)∧decide ((d.toNat:Int)=40)=decide (s[e]? =some 40):=by
 obtain ⟨d,hd⟩:=yh (l:=s) (i:=e) h
 refine ⟨d,z8 (by omega) (by simpa using hd), ?_⟩
 rw [hd]
 refine decide_eq_decide.2 ?_
 have:=XZ (c:=d) (d:=40)
 rw [show (((40:UInt8).toNat:Nat):Int)=40 from rfl]at this
 rw [this]
 simp
theorem qub(s:Str) (hl:s.length≤3000): ∀ n i (acc:List Sg),s.length≤i+n→i≤s.length→acc.length≤i→
 lw qg JQ ⟨[(0,S s),(4,.s (100000,0) 0 acc.length),(5,I i)],[((100000,0),5,acc.map Sg.v)]⟩=
  some (.exit 0,⟨[(4,.s (100000,0) 0 (acc.length+(sgs s n i).length))],[((100000,0),5,(acc++sgs s n i).map Sg.v)]⟩):=by
 intro n
 induction n with
 |zero=>
  intro i acc h1 h2 h3
  have h: ¬ (i:Int) < s.length:=by omega
  rw [sgs,List.append_nil,List.length_nil,Nat.add_zero,qn]
  simp only [go_sem,qa,qb,qc,qd,qe,qf,reduceCtorEq,Zq,h]
 |succ n ih=>
  intro i acc h1 h2 h3
  rw [qn]
  by_cases hlt:i < s.length
  ·have h:(i:Int) < s.length:=by omega
   obtain ⟨c,hc⟩:=yh (l:=s) (i:=i) hlt
   have ix:=z8 (l:=s) (i:=(i:Int)) (c:=c) (by omega) (by simpa using hc)
   have e1:w64 ((i:Int)+1)=((i+1:Nat):Int):=by rw [qj]<;>omega
   have bl:=qe0 c
   simp only [sgs,hc]
   cases hb:kC c with
   |true=>
    rw [hb]at bl
    have i1:=ih (i+1) acc (by omega) (by omega) (by omega)
    rw [if_pos rfl]
    simp only [go_sem,qa,qb,qc,qd,qe,qf,reduceCtorEq,Zq,h,ix,bl,e1]
    exact i1
   |false=>
   rw [hb]at bl
   rw [if_neg (by decide)]
   cases h37:isB 37 c with
   |true=>
    have hp:=jf (p:=fun d=> !isB 10 d) (s:=s) (i:=i) (by omega)
    have hp1:1≤pre (fun d=> !isB 10 d) (s.drop i):=Kn hc (by have:=xK (n:=37) h37;subst this;rfl)
    have i1:=ih (i+pre (fun d=> !isB 10 d) (s.drop i)) acc (by omega) (by omega) (by omega)
    have cm:=qud s hl acc (s.length - i) i (by omega)
    unfold isB at h37
    rw [if_pos rfl]
    simp only [go_sem,qa,qb,qc,qd,qe,qf,reduceCtorEq,Zq,h,ix,bl,h37,cm]
    exact i1
   |false=>
   unfold isB at h37
   rw [if_neg (by decide)]
   have sg:=qpD s (by omega) i c hc
   obtain ⟨g1,g2⟩:=qf9 s i c hc
   have i1:=ih (sgn s i c).2 (acc++[(sgn s i c).1.near' (decide (s[(sgn s i c).2]? =some 40))]) (by omega) g2 (by simp only [List.length_append,List.length_cons,List.length_nil];omega)
   have l1:decide ((acc.length+1)*48≤lim)=true:=decide_eq_true (by rw [qW];omega)
   have l2:decide (acc.length+1≤lim)=true:=decide_eq_true (by rw [qW];omega)
   have ea:acc.length+((sgs s n (sgn s i c).2).length+1)=acc.length+1+(sgs s n (sgn s i c).2).length:=by omega
   rw [List.append_assoc,List.singleton_append]at i1
   unfold Sg.near' at i1
   rw [Sg.v]at sg
   by_cases hn:(sgn s i c).2 < s.length
   ·have hn':(((sgn s i c).2:Nat):Int) < s.length:=by omega
    obtain ⟨d,ix2,hd⟩:=qji hn hl
    rw [← hd]at i1 ⊢
    simp only [go_sem,qa,qb,qc,qd,qe,qf,reduceCtorEq,Zq,h,ix,bl,h37,sg,hn',ix2,l1,l2,List.length_cons,List.length_nil,ea,Sg.near']at i1 ⊢
    exact i1
   ·have hn': ¬ (((sgn s i c).2:Nat):Int) < s.length:=by omega
    have hno:s[(sgn s i c).2]? =none:=List.getElem?_eq_none (by omega)
    have hf:decide (s[(sgn s i c).2]? =some 40)=false:=by rw [hno];rfl
    rw [hf]at i1 ⊢
    simp only [go_sem,qa,qb,qc,qd,qe,qf,reduceCtorEq,Zq,h,ix,bl,h37,sg,hn',l1,l2,List.length_cons,List.length_nil,ea,Sg.near']at i1 ⊢
    exact i1
  ·have h: ¬ (i:Int) < s.length:=by omega
   rw [qlh s _ i (by omega),List.append_nil,List.length_nil,Nat.add_zero]
   simp only [go_sem,qa,qb,qc,qd,qe,qf,reduceCtorEq,Zq,h]
theorem qni(s:Str) (hl:s.length≤3000): ∀ n i (acc:List Sg),s.length≤i+n→i≤s.length→acc.length≤i→
 lw qg JB ⟨[(0,S s),(4,.s (100000,0) 0 acc.length),(5,I i)],[((100000,0),5,acc.map Sg.v)]⟩=
  some (.exit 0,⟨[(4,.s (100000,0) 0 (acc.length+(sgs s n i).length))],[((100000,0),5,(acc++sgs s n i).map Sg.v)]⟩):=by
 intro n
 induction n with
 |zero=>
  intro i acc h1 h2 h3
  have h: ¬ (i:Int) < s.length:=by omega
  rw [sgs,List.append_nil,List.length_nil,Nat.add_zero,qn]
  simp only [go_sem,qa,qb,qc,qd,qe,qf,reduceCtorEq,j6,h]
 |succ n ih=>
  intro i acc h1 h2 h3
  rw [qn]
  by_cases hlt:i < s.length
  ·have h:(i:Int) < s.length:=by omega
   obtain ⟨c,hc⟩:=yh (l:=s) (i:=i) hlt
   have ix:=z8 (l:=s) (i:=(i:Int)) (c:=c) (by omega) (by simpa using hc)
   have e1:w64 ((i:Int)+1)=((i+1:Nat):Int):=by rw [qj]<;>omega
   simp only [sgs,hc]
   by_cases hb:kC c=true
   ·have i1:=ih (i+1) acc (by omega) (by omega) (by omega)
    rw [if_pos hb]
    unfold kC isB at hb
    cases d32:decide ((c.toNat:Int)=32)with
    |true=>simp only [go_sem,qa,qb,qc,qd,qe,qf,reduceCtorEq,j6,h,ix,d32,e1];exact i1
    |false=>
    cases d9:decide ((c.toNat:Int)=9)with
    |true=>simp only [go_sem,qa,qb,qc,qd,qe,qf,reduceCtorEq,j6,h,ix,d32,d9,e1];exact i1
    |false=>
    rw [d32,d9]at hb
    have d10:decide ((c.toNat:Int)=10)=true:=hb
    simp only [go_sem,qa,qb,qc,qd,qe,qf,reduceCtorEq,j6,h,ix,d32,d9,d10,e1];exact i1
   rw [if_neg hb]
   unfold kC isB at hb
   simp only [Bool.not_eq_true,Bool.or_eq_false_iff]at hb
   obtain ⟨⟨d32,d9⟩,d10⟩:=hb
   cases h37:isB 37 c with
   |true=>
    have hp:=jf (p:=fun d=> !isB 10 d) (s:=s) (i:=i) (by omega)
    have hp1:1≤pre (fun d=> !isB 10 d) (s.drop i):=Kn hc (by have:=xK (n:=37) h37;subst this;rfl)
    have i1:=ih (i+pre (fun d=> !isB 10 d) (s.drop i)) acc (by omega) (by omega) (by omega)
    have cm:=qba (fun d=> !isB 10 d) qbp qmc s (by omega) i (by omega)
    unfold isB at h37
    rw [if_pos rfl]
    simp only [go_sem,qa,qb,qc,qd,qe,qf,reduceCtorEq,j6,h,ix,d32,d9,d10,h37,cm]
    exact i1
   |false=>
   unfold isB at h37
   rw [if_neg (by decide)]
   have sg:=qqJ s (by omega) i c hc
   obtain ⟨g1,g2⟩:=qf9 s i c hc
   have i1:=ih (sgn s i c).2 (acc++[(sgn s i c).1.near' (decide (s[(sgn s i c).2]? =some 40))]) (by omega) g2 (by simp only [List.length_append,List.length_cons,List.length_nil];omega)
   have l1:decide ((acc.length+1)*48≤lim)=true:=decide_eq_true (by rw [qW];omega)
   have l2:decide (acc.length+1≤lim)=true:=decide_eq_true (by rw [qW];omega)
   have ea:acc.length+((sgs s n (sgn s i c).2).length+1)=acc.length+1+(sgs s n (sgn s i c).2).length:=by omega
   rw [List.append_assoc,List.singleton_append]at i1
   unfold Sg.near' at i1
   rw [Sg.v]at sg
   by_cases hn:(sgn s i c).2 < s.length
   ·have hn':(((sgn s i c).2:Nat):Int) < s.length:=by omega
    obtain ⟨d,ix2,hd⟩:=qji hn hl
    rw [← hd]at i1 ⊢
    simp only [go_sem,qa,qb,qc,qd,qe,qf,reduceCtorEq,j6,h,ix,d32,d9,d10,h37,sg,hn',ix2,l1,l2,List.length_cons,List.length_nil,ea,Sg.near']at i1 ⊢
    exact i1
   ·have hn': ¬ (((sgn s i c).2:Nat):Int) < s.length:=by omega
    have hno:s[(sgn s i c).2]? =none:=List.getElem?_eq_none (by omega)
    have hf:decide (s[(sgn s i c).2]? =some 40)=false:=by rw [hno];rfl
    rw [hf]at i1 ⊢
    simp only [go_sem,qa,qb,qc,qd,qe,qf,reduceCtorEq,j6,h,ix,d32,d9,d10,h37,sg,hn',l1,l2,List.length_cons,List.length_nil,ea,Sg.near']at i1 ⊢
    exact i1
  ·have h: ¬ (i:Int) < s.length:=by omega
   rw [qlh s _ i (by omega),List.append_nil,List.length_nil,Nat.add_zero]
   simp only [go_sem,qa,qb,qc,qd,qe,qf,reduceCtorEq,j6,h]
def Ky(s:Str):V:=if s.length≤3000 then .t [.o 5 ((xB s).map Sg.v),B true]else .t [.o 5 [],B false]
theorem quc(s:Str):cr qg qdV [S s]=some (Ky s):=by
 rw [qv qrQ rfl]
 unfold Ky
 by_cases h:s.length≤3000
 ·have h': ¬ (3000:Int) < s.length:=by omega
  have hlp:=qub s h s.length 0 [] (by omega) (by omega) (Nat.le_refl _)
  simp only [List.nil_append,List.length_nil,List.map_nil,Int.natCast_zero,Nat.zero_add]at hlp
  rw [if_pos h]
  unfold xB
  simp only [go_sem,qa,qb,qc,qd,qe,qf,reduceCtorEq,Z8,h',hlp]
 ·have h':(3000:Int) < s.length:=by omega
  rw [if_neg h]
  simp only [go_sem,qa,qb,qc,qd,qe,qf,reduceCtorEq,Z8,h']
theorem qnj(s:Str):cr qg qdF [S s]=some (Ky s):=by
 rw [qv qq4 rfl]
 unfold Ky
 by_cases h:s.length≤3000
 ·have h': ¬ (3000:Int) < s.length:=by omega
  have hlp:=qni s h s.length 0 [] (by omega) (by omega) (Nat.le_refl _)
  simp only [List.nil_append,List.length_nil,List.map_nil,Int.natCast_zero,Nat.zero_add]at hlp
  rw [if_pos h]
  unfold xB
  simp only [go_sem,qa,qb,qc,qd,qe,qf,reduceCtorEq,ZU,h',hlp]
 ·have h':(3000:Int) < s.length:=by omega
  rw [if_neg h]
  simp only [go_sem,qa,qb,qc,qd,qe,qf,reduceCtorEq,ZU,h']
end Go.Vm
namespace Go.Vm
@[go_sem] theorem qHy(x:Sg):ze x.v=true:=(rfl)
@[go_sem] theorem qCe(τ:Bool) (x:Sg):zd τ x.v=x.v:=(rfl)
theorem k8(s:Str):cr qg qdD [S s]=some (yw s):=by
 rw [qv qq2 rfl]
 by_cases h1:s=[58,45]
 ·subst h1;simp (decide:=true) only [go_sem,qa,qb,qc,qd,qe,qf,reduceCtorEq,Qu];rfl
 by_cases h2:s=[92,43]
 ·subst h2;simp (decide:=true) only [go_sem,qa,qb,qc,qd,qe,qf,reduceCtorEq,Qu];rfl
 by_cases h3:s=[45]
 ·subst h3;simp (decide:=true) only [go_sem,qa,qb,qc,qd,qe,qf,reduceCtorEq,Qu];rfl
 simp only [go_sem,qa,qb,qc,qd,qe,qf,reduceCtorEq,Qu,h1,h2,h3]
 simp [yw,qT,h1,h2,h3]
theorem Kz(s:Str):cr qg qdT [S s]=some (yw s):=by
 rw [qv qrO rfl]
 by_cases h1:s=[58,45]
 ·subst h1;simp (decide:=true) only [go_sem,qa,qb,qc,qd,qe,qf,reduceCtorEq,Qw];rfl
 by_cases h2:s=[92,43]
 ·subst h2;simp (decide:=true) only [go_sem,qa,qb,qc,qd,qe,qf,reduceCtorEq,Qw];rfl
 by_cases h3:s=[45]
 ·subst h3;simp (decide:=true) only [go_sem,qa,qb,qc,qd,qe,qf,reduceCtorEq,Qw];rfl
 simp only [go_sem,qa,qb,qc,qd,qe,qf,reduceCtorEq,Qw,h1,h2,h3]
 simp [yw,qT,h1,h2,h3]
def jb(t:Tm) (s:Str) (n:Int):Bool:=decide (t.kind=4)&&(decide (t.name=s)&&decide ((t.kids.length:Int)=n))
def qE2(t:Tm) (s:Str):Bool:=decide (t.kind=2)&&decide (t.name=s)
theorem qij(t:Tm) (v:V) (hb:BT t v) (s:Str) (n:Int):cr qg qbq [v,S s,I n]=some (B (jb t s n)):=by
 obtain ⟨τ,vs,rfl,hv⟩:=kN hb
 have hl:=yp hv
 rw [qv qrc rfl]
 unfold jb
 cases h1:decide (t.kind=4)<;>cases h2:decide (t.name=s)<;>simp only [go_sem,qa,qb,qc,qd,qe,qf,reduceCtorEq,Y5,h1,h2,hl,Bool.true_and,Bool.false_and]
theorem qiy(t:Tm) (v:V) (hb:BT t v) (s:Str) (n:Int):cr qg qbE [v,S s,I n]=some (B (jb t s n)):=by
 obtain ⟨τ,vs,rfl,hv⟩:=kN hb
 have hl:=yp hv
 rw [qv qrW rfl]
 unfold jb
 cases h1:decide (t.kind=4)<;>cases h2:decide (t.name=s)<;>simp only [go_sem,qa,qb,qc,qd,qe,qf,reduceCtorEq,Xq,h1,h2,hl,Bool.true_and,Bool.false_and]
end Go.Vm
namespace Go.Vm
def sg0:Sg:=⟨0,[],0,0,false⟩
def sgD(l:List Sg) (i:Nat):Sg:=l.getD i sg0
def isM(l:List Sg) (i:Nat) (t:Str):Bool:=decide ((sgD l i).kind=4)&&decide ((sgD l i).text=t)
def yk:Tm:= .mk 2 [91,93] 0 []
def zA:List Tm→Tm→Tm
 |[],r=>r
 |t::ts,r=> .mk 4 [46] 0 [t,zA ts r]
def xX(nm:List Str) (s:Str):Tm × List Str:=
 if s ∈ nm∧s ≠ [95]then (.mk 1 [] (zE s 0 nm) [],nm)else (.mk 1 [] nm.length [],nm++[s])
def k7(s:Sg) (most q:Int):Bool:=
 decide ((qF s.text).prio ≠ 0)&&((decide (s.kind=4)||(decide (s.kind=1)&& !s.near))&&(decide ((qF s.text).prio≤most)&&decide (q≤(qF s.text).left)))
mutual
def pT(l:List Sg):Nat→Nat→List Str→Nat→Int→Option (Tm × Nat × List Str)
 |0,_,_,_,_=>none
 |n+1,i,nm,d,most=>if 130≤d then none else match pP l n i nm (d+1) most with
  |none=>none
  |some (t,q,i',nm')=>pL l n i' nm' (d+1) most t q
def pL(l:List Sg):Nat→Nat→List Str→Nat→Int→Tm→Int→Option (Tm × Nat × List Str)
 |0,_,_,_,_,_,_=>none
 |n+1,i,nm,d,most,t,q=>if k7 (sgD l i) most q=true then
  match pT l n (i+1) nm d (qF (sgD l i).text).right with
  |none=>none
  |some (y,i',nm')=>pL l n i' nm' d most (.mk 4 (sgD l i).text 0 [t,y]) (qF (sgD l i).text).prio
  else some (t,i,nm)
def pP(l:List Sg):Nat→Nat→List Str→Nat→Int→Option (Tm × Int × Nat × List Str)
 |0,_,_,_,_=>none
 |n+1,i,nm,d,most=>
  if (sgD l i).kind=1∧(sgD l i).near=true then
   match pA l n (i+2) nm d with
   |none=>none
   |some (ks,i',nm')=>if isM l i' [41]=true∧ks.length≤5 then some (.mk 4 (sgD l i).text 0 ks,0,i'+1,nm')else none
  else if isM l i [40]=true then
   if (sgD l (i+1)).kind=1∧isM l (i+2) [41]=true then some (.mk 2 (sgD l (i+1)).text 0 [],0,i+3,nm)
   else match pT l n (i+1) nm d 1200 with
    |none=>none
    |some (t,i',nm')=>if isM l i' [41]=true then some (t,0,i'+1,nm')else none
  else if isM l i [91]=true then
   if isM l (i+1) [93]=true then some (yk,0,i+2,nm)
   else match pA l n (i+1) nm d with
    |none=>none
    |some (ks,i',nm')=>
     if isM l i' [124]=true then
      match pT l n (i'+1) nm' d 999 with
      |none=>none
      |some (r,i2,nm2)=>if isM l i2 [93]=true then some (zA ks r,0,i2+1,nm2)else none
     else if isM l i' [93]=true then some (zA ks yk,0,i'+1,nm')else none
  else if (sgD l i).kind=3 then some (.mk 3 [] (sgD l i).num [],0,i+1,nm)
  else if (sgD l i).kind=2 then some ((xX nm (sgD l i).text).1,0,i+1,(xX nm (sgD l i).text).2)
  else if (sgD l i).kind=1∧(sgD l i).text=[45]∧(sgD l (i+1)).kind=3∧(sgD l (i+1)).at_=(sgD l i).at_+1 then some (.mk 3 [] (0 - (sgD l (i+1)).num) [],0,i+2,nm)
  else if (sgD l i).kind=1∧(qT (sgD l i).text).prio ≠ 0∧(qT (sgD l i).text).prio≤most then
   match pT l n (i+1) nm d (qT (sgD l i).text).right with
   |none=>none
   |some (x,i',nm')=>some (.mk 4 (sgD l i).text 0 [x],(qT (sgD l i).text).prio,i',nm')
  else if (sgD l i).kind=1∧(qT (sgD l i).text).prio=0∧(qF (sgD l i).text).prio=0 then some (.mk 2 (sgD l i).text 0 [],0,i+1,nm)
  else none
def pA(l:List Sg):Nat→Nat→List Str→Nat→Option (List Tm × Nat × List Str)
 |0,_,_,_=>none
 |n+1,i,nm,d=>match pT l n i nm d 999 with
  |none=>none
  |some (t,i',nm')=>pB l n i' nm' d [t]
def pB(l:List Sg):Nat→Nat→List Str→Nat→List Tm→Option (List Tm × Nat × List Str)
 |0,_,_,_,_=>none
 |n+1,i,nm,d,acc=>if isM l i [44]=true then
  match pT l n (i+1) nm d 999 with
  |none=>none
  |some (t,i',nm')=>pB l n i' nm' d (acc++[t])
  else some (acc,i,nm)
end
structure GoodL (l:List Sg):Prop where
 len:l.length≤3000
 mark: ∀ i,(sgD l i).kind=4→(sgD l i).text=[40]∨(sgD l i).text=[41]∨(sgD l i).text=[91]∨(sgD l i).text=[93]∨(sgD l i).text=[44]∨(sgD l i).text=[124]
 near: ∀ i,(sgD l i).near=true→isM l (i+1) [40]=true
 text: ∀ i,(sgD l i).text.length≤3000
 num: ∀ i,0≤(sgD l i).num∧(sgD l i).num≤9999999999
 at_: ∀ i,0≤(sgD l i).at_∧(sgD l i).at_≤3000
theorem yx {l:List Sg} {i:Nat} (h:(sgD l i).kind ≠ 0):i < l.length:=by
 by_cases hl:i < l.length
 ·exact hl
 ·exfalso;apply h
  unfold sgD
  rw [List.getD_eq_getElem?_getD,List.getElem?_eq_none (by omega)]
  rfl
theorem zn {l:List Sg} {i:Nat} {t:Str} (h:isM l i t=true):i < l.length∧(sgD l i).kind=4∧(sgD l i).text=t:=by
 unfold isM at h
 simp only [Bool.and_eq_true,decide_eq_true_eq]at h
 exact ⟨yx (by rw [h.1];decide),h.1,h.2⟩
theorem qcj {l:List Sg} {i:Nat} {m q:Int} (h:k7 (sgD l i) m q=true):i < l.length:=by
 unfold k7 at h
 simp only [Bool.and_eq_true,Bool.or_eq_true,decide_eq_true_eq]at h
 rcases h.2.1 with h1|h1
 ·exact yx (by rw [h1];decide)
 ·exact yx (by rw [h1.1];decide)
theorem zY(l:List Sg): ∀ n:Nat,
 (∀ i nm d most t i' nm',pT l n i nm d most=some (t,i',nm')→i < i'∧i'≤l.length)∧
 (∀ i nm d most t q t' i' nm',i≤l.length→pL l n i nm d most t q=some (t',i',nm')→i≤i'∧i'≤l.length)∧
 (∀ i nm d most t q i' nm',pP l n i nm d most=some (t,q,i',nm')→i < i'∧i'≤l.length)∧
 (∀ i nm d ks i' nm',pA l n i nm d=some (ks,i',nm')→i < i'∧i'≤l.length)∧
 (∀ i nm d acc ks i' nm',i≤l.length→pB l n i nm d acc=some (ks,i',nm')→i≤i'∧i'≤l.length):=by
 intro n
 induction n with
 |zero=>refine ⟨?_, ?_, ?_, ?_, ?_⟩<;>intros<;>simp_all [pT,pL,pP,pA,pB]
 |succ n ih=>
  obtain ⟨hT,hL,hP,hA,hB⟩:=ih
  refine ⟨?_, ?_, ?_, ?_, ?_⟩
  ·intro i nm d most t i' nm' h
   simp only [pT]at h
   split at h
   ·cases h
   split at h
   ·cases h
   ·rename_i t1 q1 i1 nm1 h1
    have a:=hP _ _ _ _ _ _ _ _ h1
    have b:=hL _ _ _ _ _ _ _ _ _ a.2 h
    omega
  ·intro i nm d most t q t' i' nm' hi h
   simp only [pL]at h
   split at h
   ·rename_i hg
    have:=qcj hg
    split at h
    ·cases h
    ·rename_i y i1 nm1 h1
     have a:=hT _ _ _ _ _ _ _ h1
     have b:=hL _ _ _ _ _ _ _ _ _ a.2 h
     omega
   ·cases h;omega
  ·intro i nm d most t q i' nm' h
   simp only [pP]at h
   split at h
   ·rename_i hk
    split at h
    ·cases h
    ·rename_i ks i1 nm1 h1
     have a:=hA _ _ _ _ _ _ h1
     split at h
     ·rename_i hm
      have:=zn hm.1
      cases h;omega
     ·cases h
   split at h
   ·rename_i hk
    have:=zn hk
    split at h
    ·rename_i hk2
     have:=zn hk2.2
     cases h;omega
    ·split at h
     ·cases h
     ·rename_i t1 i1 nm1 h1
      have a:=hT _ _ _ _ _ _ _ h1
      split at h
      ·rename_i hm
       have:=zn hm
       cases h;omega
      ·cases h
   split at h
   ·rename_i hk
    have:=zn hk
    split at h
    ·rename_i hk2
     have:=zn hk2
     cases h;omega
    ·split at h
     ·cases h
     ·rename_i ks i1 nm1 h1
      have a:=hA _ _ _ _ _ _ h1
      split at h
      ·split at h
       ·cases h
       ·rename_i r i2 nm2 h2
        have b:=hT _ _ _ _ _ _ _ h2
        split at h
        ·rename_i hm
         have:=zn hm
         cases h;omega
        ·cases h
      ·split at h
       ·rename_i hm
        have:=zn hm
        cases h;omega
       ·cases h
   split at h
   ·rename_i hk
    have:=yx (l:=l) (i:=i) (by rw [hk];decide)
    cases h;omega
   split at h
   ·rename_i hk
    have:=yx (l:=l) (i:=i) (by rw [hk];decide)
    cases h;omega
   split at h
   ·rename_i hk
    have:=yx (l:=l) (i:=i+1) (by rw [hk.2.2.1];decide)
    cases h;omega
   split at h
   ·rename_i hk
    split at h
    ·cases h
    ·rename_i x i1 nm1 h1
     have a:=hT _ _ _ _ _ _ _ h1
     cases h;omega
   split at h
   ·rename_i hk
    have:=yx (l:=l) (i:=i) (by rw [hk.1];decide)
    cases h;omega
   ·cases h
  ·intro i nm d ks i' nm' h
   simp only [pA]at h
   split at h
   ·cases h
   ·rename_i t i1 nm1 h1
    have a:=hT _ _ _ _ _ _ _ h1
    have b:=hB _ _ _ _ _ _ _ a.2 h
    omega
  ·intro i nm d acc ks i' nm' hi h
   simp only [pB]at h
   split at h
   ·rename_i hm
    have:=zn hm
    split at h
    ·cases h
    ·rename_i t i1 nm1 h1
     have a:=hT _ _ _ _ _ _ _ h1
     have b:=hB _ _ _ _ _ _ _ a.2 h
     omega
   ·cases h;omega
theorem y6(l:List Sg): ∀ n:Nat,
 (∀ i nm d most t i' nm',pT l n i nm d most=some (t,i',nm')→nm'.length+i≤nm.length+i')∧
 (∀ i nm d most t q t' i' nm',pL l n i nm d most t q=some (t',i',nm')→nm'.length+i≤nm.length+i')∧
 (∀ i nm d most t q i' nm',pP l n i nm d most=some (t,q,i',nm')→nm'.length+i≤nm.length+i')∧
 (∀ i nm d ks i' nm',pA l n i nm d=some (ks,i',nm')→nm'.length+i≤nm.length+i')∧
 (∀ i nm d acc ks i' nm',pB l n i nm d acc=some (ks,i',nm')→nm'.length+i≤nm.length+i'):=by
 intro n
 induction n with
 |zero=>refine ⟨?_, ?_, ?_, ?_, ?_⟩<;>intros<;>simp_all [pT,pL,pP,pA,pB]
 |succ n ih=>
  obtain ⟨hT,hL,hP,hA,hB⟩:=ih
  refine ⟨?_, ?_, ?_, ?_, ?_⟩
  ·intro i nm d most t i' nm' h
   simp only [pT]at h
   split at h
   ·cases h
   split at h
   ·cases h
   ·rename_i t1 q1 i1 nm1 h1
    have a:=hP _ _ _ _ _ _ _ _ h1
    have b:=hL _ _ _ _ _ _ _ _ _ h
    omega
  ·intro i nm d most t q t' i' nm' h
   simp only [pL]at h
   split at h
   ·split at h
    ·cases h
    ·rename_i y i1 nm1 h1
     have a:=hT _ _ _ _ _ _ _ h1
     have b:=hL _ _ _ _ _ _ _ _ _ h
     omega
   ·cases h;omega
  ·intro i nm d most t q i' nm' h
   simp only [pP]at h
   split at h
   ·split at h
    ·cases h
    ·rename_i ks i1 nm1 h1
     have a:=hA _ _ _ _ _ _ h1
     split at h
     ·cases h;omega
     ·cases h
   split at h
   ·split at h
    ·cases h;omega
    ·split at h
     ·cases h
     ·rename_i t1 i1 nm1 h1
      have a:=hT _ _ _ _ _ _ _ h1
      split at h
      ·cases h;omega
      ·cases h
   split at h
   ·split at h
    ·cases h;omega
    ·split at h
     ·cases h
     ·rename_i ks i1 nm1 h1
      have a:=hA _ _ _ _ _ _ h1
      split at h
      ·split at h
       ·cases h
       ·rename_i r i2 nm2 h2
        have b:=hT _ _ _ _ _ _ _ h2
        split at h
        ·cases h;omega
        ·cases h
      ·split at h
       ·cases h;omega
       ·cases h
   split at h
   ·cases h;omega
   split at h
   ·cases h
    unfold xX
    split
    ·simp only;omega
    ·simp only [List.length_append,List.length_cons,List.length_nil];omega
   split at h
   ·cases h;omega
   split at h
   ·split at h
    ·cases h
    ·rename_i x i1 nm1 h1
     have a:=hT _ _ _ _ _ _ _ h1
     cases h;omega
   split at h
   ·cases h;omega
   ·cases h
  ·intro i nm d ks i' nm' h
   simp only [pA]at h
   split at h
   ·cases h
   ·rename_i t i1 nm1 h1
    have a:=hT _ _ _ _ _ _ _ h1
    have b:=hB _ _ _ _ _ _ _ h
    omega
  ·intro i nm d acc ks i' nm' h
   simp only [pB]at h
   split at h
   ·split at h
    ·cases h
    ·rename_i t i1 nm1 h1
     have a:=hT _ _ _ _ _ _ _ h1
     have b:=hB _ _ _ _ _ _ _ h
     omega
   ·cases h;omega
end Go.Vm
namespace Go.Vm
structure SgP (x:Sg):Prop where
 mark:x.kind=4→x.text=[40]∨x.text=[41]∨x.text=[91]∨x.text=[93]∨x.text=[44]∨x.text=[124]
 text:x.text.length≤3000
 num:0≤x.num∧x.num≤9999999999
 at_:0≤x.at_∧x.at_≤3000
theorem quB(s:Str) (i j:Nat):(zk s i j).length≤s.length:=by
 unfold zk;simp only [List.length_drop,List.length_take];omega
theorem qtU {s:Str} (hl:s.length≤3000) {i:Nat} {c:UInt8} (hc:s[i]? =some c):SgP (sgn s i c).1∧(sgn s i c).1.near=false:=by
 have hi:i < s.length:=(List.getElem?_eq_some_iff.1 hc).1
 have hs: ∀ a b,(zk s a b).length≤3000:=fun a b=>Nat.le_trans (quB s a b) hl
 have mk: ∀ (k:Int) (t:Str) (n:Int),k ≠ 4→t.length≤3000→0≤n→n≤9999999999→SgP ⟨k,t,n,i,false⟩:=fun k t n h1 h2 h3 h4=>
  ⟨fun e=>absurd e h1,h2,⟨h3,h4⟩,by show 0≤(i:Int)∧(i:Int)≤3000;omega⟩
 have hb:SgP (bad s i).1∧(bad s i).1.near=false:=⟨mk 6 _ 0 (by decide) (hs _ _) (by decide) (by decide),rfl⟩
 unfold sgn
 split
 ·split
  ·refine ⟨mk _ _ 0 ?_ (hs _ _) (by decide) (by decide),rfl⟩
   split<;>decide
  ·exact hb
 split
 ·split
  ·have:=qjj (s.drop i) 0 (by decide) (by decide)
   exact ⟨mk 3 [] _ (by decide) (by simp) this.1 this.2,rfl⟩
  ·exact hb
 split
 ·split
  ·exact ⟨mk 1 _ 0 (by decide) (hs _ _) (by decide) (by decide),rfl⟩
  ·exact hb
 split
 ·exact ⟨mk 1 _ 0 (by decide) (hs _ _) (by decide) (by decide),rfl⟩
 split
 ·rename_i h
  refine ⟨⟨fun _=> ?_,hs _ _,⟨Int.le_refl 0,by show (0:Int)≤9999999999;decide⟩,by show 0≤(i:Int)∧(i:Int)≤3000;omega⟩,rfl⟩
  show zk s i (i+1)=[40]∨zk s i (i+1)=[41]∨zk s i (i+1)=[91]∨zk s i (i+1)=[93]∨zk s i (i+1)=[44]∨zk s i (i+1)=[124]
  rw [qgl hc]
  simp only [Bool.or_eq_true]at h
  rcases h with ((((h|h)|h)|h)|h)|h
  ·rw [xK (n:=40) h];left;rfl
  ·rw [xK (n:=41) h];right;left;rfl
  ·rw [xK (n:=91) h];right;right;left;rfl
  ·rw [xK (n:=93) h];right;right;right;left;rfl
  ·rw [xK (n:=44) h];right;right;right;right;left;rfl
  ·rw [xK (n:=124) h];right;right;right;right;right;rfl
 split
 ·exact ⟨mk 5 _ 0 (by decide) (hs _ _) (by decide) (by decide),rfl⟩
 split
 ·split
  ·exact ⟨mk 1 _ 0 (by decide) (hs _ _) (by decide) (by decide),rfl⟩
  ·exact hb
 ·exact hb
theorem qf7(x:Sg) (l:List Sg) (k:Nat):sgD (x::l) (k+1)=sgD l k:=by
 unfold sgD;simp [List.getD_eq_getElem?_getD]
theorem qlg(x:Sg) (l:List Sg):sgD (x::l) 0=x:=rfl
theorem qde {s:Str} (hl:s.length≤3000): ∀ (n i:Nat),∀ x ∈ sgs s n i,SgP x
 |0,i,x,h=>by simp [sgs]at h
 |n+1,i,x,h=>by
  simp only [sgs]at h
  split at h
  ·cases h
  ·rename_i c hc
   split at h
   ·exact qde hl n _ x h
   split at h
   ·exact qde hl n _ x h
   ·rcases List.mem_cons.1 h with h|h
    ·subst h
     have:=(qtU hl hc).1
     exact ⟨this.mark,this.text,this.num,this.at_⟩
    ·exact qde hl n _ x h
theorem qtT {s:Str} {e:Nat} (h:s[e]? =some 40):(sgn s e 40).1=⟨4,[40],0,e,false⟩:=by
 have h1:(inB 97 122 40||yr 40)=false:=by decide
 have h2:inB 48 57 40=false:=by decide
 have h3:isB 39 40=false:=by decide
 have h4:(isB 33 40||isB 59 40)=false:=by decide
 have h5:(isB 40 40||isB 41 40||isB 91 40||isB 93 40||isB 44 40||isB 124 40)=true:=by decide
 unfold sgn
 rw [h1,h2,h3,h4,h5,qgl h]
 rfl
theorem qdg {s:Str} (hl:s.length≤3000): ∀ (n i:Nat),s.length≤i+n→i≤s.length→ ∀ k,(sgD (sgs s n i) k).near=true→isM (sgs s n i) (k+1) [40]=true
 |0,i,hn,hi,k,h=>by simp [sgs,sgD,sg0]at h
 |n+1,i,hn,hi,k,h=>by
  simp only [sgs]at h ⊢
  split at h
  ·simp [sgD,sg0]at h
  ·rename_i c hc
   have hlt:i < s.length:=(List.getElem?_eq_some_iff.1 hc).1
   split at h
   ·rename_i hb
    rw [if_pos hb]
    exact qdg hl n (i+1) (by omega) (by omega) k h
   rename_i hb
   rw [if_neg hb]
   split at h
   ·rename_i h37
    have hp:=jf (p:=fun d=> !isB 10 d) (s:=s) (i:=i) (by omega)
    have hp1:1≤pre (fun d=> !isB 10 d) (s.drop i):=Kn hc (by have:=xK (n:=37) h37;subst this;rfl)
    rw [if_pos h37]
    exact qdg hl n _ (by omega) hp k h
   ·rename_i h37
    rw [if_neg h37]
    obtain ⟨g1,g2⟩:=qf9 s i c hc
    cases k with
    |zero=>
     rw [qlg]at h
     have h40:s[(sgn s i c).2]? =some 40:=of_decide_eq_true h
     have hlt2:(sgn s i c).2 < s.length:=(List.getElem?_eq_some_iff.1 h40).1
     cases n with
     |zero=>omega
     |succ n=>
      unfold isM
      rw [qf7]
      have b1:kC 40=false:=by decide
      have b2:isB 37 40=false:=by decide
      simp only [sgs,h40,b1,b2,Bool.false_eq_true,if_false,qlg,Sg.near',qtT h40]
      decide
    |succ k=>
     rw [qf7]at h
     have:=qdg hl n (sgn s i c).2 (by omega) g2 k h
     unfold isM at this ⊢
     rw [qf7]
     exact this
theorem qnb {s:Str} (hl:s.length≤3000):GoodL (xB s):=by
 have hP: ∀ i,SgP (sgD (xB s) i):=by
  intro i
  unfold sgD
  rw [List.getD_eq_getElem?_getD]
  cases h:(xB s)[i]? with
  |none=>exact ⟨fun e=>absurd e (by decide),by simp [sg0],⟨by decide,by decide⟩,⟨by decide,by decide⟩⟩
  |some x=>exact qde hl _ _ x (List.mem_of_getElem? h)
 exact ⟨Nat.le_trans (qdf s _ _) hl,fun i=>(hP i).mark,fun i h=>qdg hl s.length 0 (by omega) (by omega) i h,fun i=>(hP i).text,fun i=>(hP i).num,fun i=>(hP i).at_⟩
end Go.Vm
namespace Go.Vm
theorem y9 {l:List Sg} {i:Nat} (h:i < l.length):l[i]? =some (sgD l i):=by
 unfold sgD;rw [List.getD_eq_getElem?_getD,List.getElem?_eq_getElem h];rfl
theorem qdd {l:List Sg} {i:Nat} (h:l.length≤i):sgD l i=sg0:=by
 unfold sgD;rw [List.getD_eq_getElem?_getD,List.getElem?_eq_none h];rfl
theorem zF(l:List Sg) (τ:Bool) (hl:l.length≤3000) (a k:Nat) (ha:a≤2^40) (hk:k≤2) (nv:V) (d:Int) (b:Bool):
 cr qg Yh [.q true [.a [.i τ (l.map Sg.v),I a,nv,I d,B b]] 0 0,I k]=some (sgD l (a+k)).v:=by
 have e1:w64 ((a:Int)+k)=((a+k:Nat):Int):=by rw [qj]<;>omega
 rw [qv qrk rfl]
 by_cases h:l.length≤a+k
 ·have h':(l.length:Int)≤((a+k:Nat):Int):=by omega
  rw [qdd h]
  simp only [go_sem,qa,qb,qc,qd,qe,qf,reduceCtorEq,Z0,e1,h',List.length_map,sg0,Sg.v]
 ·have h': ¬ (l.length:Int)≤((a+k:Nat):Int):=by omega
  have hg:=y9 (l:=l) (i:=a+k) (by omega)
  have g:=q7 (f:=Sg.v) hg
  have a1:=fun T=>q8 (τ:=τ) (T:=T) (e:=5) g rfl
  rw [Sg.v]at g
  simp only [go_sem,qa,qb,qc,qd,qe,qf,reduceCtorEq,Z0,e1,h',List.length_map,a1,g,Sg.v]
theorem qZ(l:List Sg) (τ:Bool) (hl:l.length≤3000) (a k:Nat) (ha:a≤2^40) (hk:k≤2) (nv:V) (d:Int) (b:Bool) (t:Str):
 cr qg jV [.q true [.a [.i τ (l.map Sg.v),I a,nv,I d,B b]] 0 0,I k,S t]=some (B (isM l (a+k) t)):=by
 have s:=zF l τ hl a k ha hk nv d b
 rw [Sg.v]at s
 rw [qv qri rfl]
 unfold isM
 cases h1:decide ((sgD l (a+k)).kind=4)with
 |false=>simp only [go_sem,qa,qb,qc,qd,qe,qf,reduceCtorEq,ZY,s,h1,Bool.false_and]
 |true=>simp only [go_sem,qa,qb,qc,qd,qe,qf,reduceCtorEq,ZY,s,h1,Bool.true_and]
theorem YC(l:List Sg) (τ:Bool) (hl:l.length≤3000) (a:Nat) (ha:a≤2^40) (nm:List Str) (d:Int) (b:Bool) (t:Str):
 cw qg Yg [.b (.a [.i τ (l.map Sg.v),I a,.o 1 (List.map S nm),I d,B b]),S t]=some (.t [],[.b (.a [.i τ (l.map Sg.v),I ((a+1:Nat):Int),.o 1 (List.map S nm),I d,B (b|| !isM l a t)]),S t]):=by
 have s:=qZ l τ hl a 0 ha (by decide) (.i true (nm.map S)) d b t
 have e1:w64 ((a:Int)+1)=((a+1:Nat):Int):=by rw [qj]<;>omega
 simp only [Nat.add_zero,Int.natCast_zero]at s
 rw [qI qrj rfl]
 cases hm:isM l a t with
 |true=>
  rw [hm]at s
  simp only [go_sem,qa,qb,qc,qd,qe,qf,reduceCtorEq,ZZ,qt,s,e1,Bool.or_false,Bool.not_true]
 |false=>
  rw [hm]at s
  simp only [go_sem,qa,qb,qc,qd,qe,qf,reduceCtorEq,ZZ,qt,s,e1,Bool.or_true,Bool.not_false]
theorem qid(s:Str) (nm:List Str):(s ∈ nm→0≤zE s 0 nm)∧(s ∉ nm→zE s 0 nm= -1):=by
 obtain ⟨h1,h2⟩:=qaH s nm 0
 exact ⟨fun h=>by have:=h1 h;omega,h2⟩
theorem qnp(l:List Sg) (τ:Bool) (a:Int) (nm:List Str) (hn:nm.length≤2^30) (d:Int) (b:Bool) (s:Str):
 cw qg qdJ [.b (.a [.i τ (l.map Sg.v),I a,.o 1 (List.map S nm),I d,B b]),S s]=some (oT (xX nm s).1,[.b (.a [.i τ (l.map Sg.v),I a,.o 1 (List.map S ((xX nm s).2)),I d,B b]),S s]):=by
 have ix:=qgx true nm s (by omega)
 have vk:=fun n=>qnx n
 simp only [qK]at vk
 have l1:decide ((nm.length+1)*16≤lim)=true:=decide_eq_true (by rw [qW];omega)
 have l2:decide (nm.length+1≤lim)=true:=decide_eq_true (by rw [qW];omega)
 have tk:((nm++[s]).map S).take (nm.length+1)=(nm++[s]).map S:=List.take_of_length_le (by simp)
 rw [qI qrm rfl]
 unfold xX
 by_cases hm:s ∈ nm
 ·have h0: ¬ zE s 0 nm < 0:=by have:=(qid s nm).1 hm;omega
  by_cases h95:s=[95]
  ·have d95:decide (s=[95])=true:=decide_eq_true h95
   rw [if_neg fun h=>h.2 h95]
   simp only [go_sem,qa,qb,qc,qd,qe,qf,reduceCtorEq,Q2,qt,ix,h0,d95,vk,l1,l2,tk,qK,List.length_cons,List.length_nil]
  ·have d95:decide (s=[95])=false:=decide_eq_false h95
   rw [if_pos ⟨hm,h95⟩]
   simp only [go_sem,qa,qb,qc,qd,qe,qf,reduceCtorEq,Q2,qt,ix,h0,d95,vk,qK]
 ·have h0:zE s 0 nm < 0:=by rw [(qid s nm).2 hm];decide
  rw [if_neg fun h=>hm h.1]
  simp only [go_sem,qa,qb,qc,qd,qe,qf,reduceCtorEq,Q2,qt,ix,h0,vk,l1,l2,tk,qK,List.length_cons,List.length_nil]
end Go.Vm
