import Derived.Test.YtcaejgdpplbcbaaGreatDoorT03
import Derived.Test.YtcaejgdpplbcbaaGreatDoorT04
import Derived.Lib.ItoaNum
open Nat renaming reduceAdd → qa, reduceSub → qb, reduceMul → qc, reduceEqDiff → qd, reduceLeDiff → qe, reduceBEq → qf
set_option autoImplicit false
set_option maxRecDepth 100000
set_option linter.unusedSimpArgs false
set_option linter.unusedVariables false
namespace Go.Vm
end Go.Vm
namespace Go.Vm
end Go.Vm
namespace Go.Vm
theorem yb {α:Type} {f:α→V} {l:List α} {i:Nat} {x:α} (h:l[i]? =some x):(l.map f)[i]? =some (f x):=by simp [h]
end Go.Vm
namespace Go.Vm
end Go.Vm
namespace Go.Vm
def qlD(n:Int):Nat→List Int→Int
 |_,[]=> -1
 |i,x::xs=>if n=x then (i:Int)else qlD n (i+1) xs
end Go.Vm
namespace Go.Vm
mutual
def qbw(l:List Int):Tm→List Int
 | .mk k _ n ks=>qbx (if k=1∧n ∉ l then l++[n]else l) ks
def qbx(l:List Int):List Tm→List Int
 |[]=>l
 |t::ts=>qbx (qbw l t) ts
end
def qAm(t:Tm):List Int:=qbw [] t
mutual
theorem qpY: ∀ (t:Tm) (l:List Int),(qbw l t).length≤l.length+nT t
 | .mk k s n ks,l=>by
   simp only [qbw,nT]
   have:=qkc ks (if k=1∧n ∉ l then l++[n]else l)
   have h2:(if k=1∧n ∉ l then l++[n]else l).length≤l.length+1:=by split<;>simp
   omega
theorem qkc: ∀ (ts:List Tm) (l:List Int),(qbx l ts).length≤l.length+nTs ts
 |[],l=>by simp [qbx,nTs]
 |t::ts,l=>by
  simp only [qbx,nTs]
  have:=qpY t l
  have:=qkc ts (qbw l t)
  omega
end
end Go.Vm
namespace Go.Vm
def jN(caps:List V):Prop:= ∀ c ∈ caps,∃ xs i o,c= .q true xs i o
theorem qiG {caps:List V} (h:jN caps) (m:Nat) (T:Mem):qB (qA (m+1)) T caps=(caps,T):=by
 induction caps with
 |nil=>rfl
 |cons c cs ih=>
  obtain ⟨xs,i,o,rfl⟩:=h c (by simp)
  simp only [qB,qkY,ih fun u hu=>h u (by simp [hu])]
theorem qiH {caps:List V} (h:jN caps) (τ:Bool):qU τ caps=caps:=by
 induction caps with
 |nil=>rfl
 |cons c cs ih=>
  obtain ⟨xs,i,o,rfl⟩:=h c (by simp)
  simp only [qU,zg,ih fun u hu=>h u (by simp [hu])]
theorem qiN {caps:List V} (h:jN caps):yk caps=true:=by
 induction caps with
 |nil=>rfl
 |cons c cs ih=>
  obtain ⟨xs,i,o,rfl⟩:=h c (by simp)
  simp only [yk,zf,ih fun u hu=>h u (by simp [hu]),Bool.and_self]
theorem qiJ {caps:List V} (h:jN caps) (d:Nat):qE d caps=caps:=by
 induction caps with
 |nil=>rfl
 |cons c cs ih=>
  obtain ⟨xs,i,o,rfl⟩:=h c (by simp)
  simp only [qE,qO,ih fun u hu=>h u (by simp [hu])]
theorem qiI {caps:List V} (h:jN caps):Ye caps=[]:=by
 induction caps with
 |nil=>rfl
 |cons c cs ih=>
  obtain ⟨xs,i,o,rfl⟩:=h c (by simp)
  simp only [Ye,xj,ih fun u hu=>h u (by simp [hu]),List.append_nil]
theorem qiK {caps:List V} (h:jN caps) (d i:Nat) (nm:Bool):zP d i nm caps=caps:=by
 induction caps generalizing i with
 |nil=>rfl
 |cons c cs ih=>
  obtain ⟨xs,a,o,rfl⟩:=h c (by simp)
  simp only [zP,qvN,ih (fun u hu=>h u (by simp [hu]))]
theorem qiM {caps:List V} (h:jN caps) (tb:List Key):zX tb caps=caps:=by
 induction caps with
 |nil=>rfl
 |cons c cs ih=>
  obtain ⟨xs,i,o,rfl⟩:=h c (by simp)
  simp only [zX,qyq,ih fun u hu=>h u (by simp [hu])]
theorem qiL {caps:List V} (h:jN caps) (d j:Nat):zt d j caps=(caps,j,[]):=by
 induction caps generalizing j with
 |nil=>rfl
 |cons c cs ih=>
  obtain ⟨xs,i,o,rfl⟩:=h c (by simp)
  simp only [zt,qvV,ih (fun u hu=>h u (by simp [hu])),List.append_nil]
theorem qoy {caps:List V} (h:jN caps) (T:Mem):kK T caps=caps:=by
 induction caps with
 |nil=>rfl
 |cons c cs ih=>
  obtain ⟨xs,i,o,rfl⟩:=h c (by simp)
  simp only [kK,qkY,zg,ih fun u hu=>h u (by simp [hu])]
@[go_sem] theorem qVa {α β:Type} {f:α→β} {g:β→V} {l:List α}:((l.map f).map g).take l.length=(l.map f).map g:=by
 apply List.take_of_length_le;simp
mutual
def rnm(φ:Int→Int):Tm→Tm
 | .mk k s n ks=> .mk k s (if k=1 then φ n else n) (qfn φ ks)
def qfn(φ:Int→Int):List Tm→List Tm
 |[]=>[]
 |t::ts=>rnm φ t::qfn φ ts
end
theorem qis(φ:Int→Int): ∀ (ts:List Tm),qfn φ ts=ts.map (rnm φ)
 |[]=>rfl
 |t::ts=>by simp only [qfn,List.map_cons,qis φ ts]
theorem qyv(φ:Int→Int) (t:Tm):rnm φ t= .mk t.kind t.name (if t.kind=1 then φ t.num else t.num) (t.kids.map (rnm φ)):=by
 cases t;simp only [rnm,qis];rfl
theorem qmn {α β:Type} (f:α→β) {ts:List α} {i:Nat} {t:α} (h:ts[i]? =some t):(ts.take i).map f++[f t]=(ts.take (i+1)).map f:=by
 rw [List.take_succ_eq_append_getElem (List.getElem?_eq_some_iff.1 h).1]
 simp [(List.getElem?_eq_some_iff.1 h).2]
theorem qyr(g:Nat) (caps:List V) (hs:jN caps) (φ:Int→Int) (τ:Bool) (vs:List V) (ts:List Tm) (hv:RL BT ts vs) (hlim:ts.length≤Lm) (k num:Int) (s:Str)
 (hc: ∀ t ∈ ts,∀ v,BT t v→cr qg Y0 [v,.f (.func g) [] caps]=some (oT (rnm φ t))):
 lw qg KQ ⟨[(1,.f (.func g) [] caps),(4,.p (100000,0) 0 0),(5,.p (100000,1) 0 0),(19,.i τ vs),(20,I ts.length),(21,I 0)],
  [((100000,0),4,[.a [I 0,S [],I 0,.s (100000,2) 0 0]]),((100000,1),4,[.a [I k,S s,I num,.s (100000,3) 0 0]]),((100000,2),4,[]),((100000,3),4,[])]⟩=
  some (.exit 0,⟨[(4,.p (100000,0) 0 0),(5,.p (100000,1) 0 0)],
   [((100000,0),4,[.a [I 0,S [],I 0,.s (100000,2) 0 0]]),((100000,1),4,[.a [I k,S s,I num,.s (100000,3) 0 ts.length]]),((100000,2),4,[]),((100000,3),4,(ts.map (rnm φ)).map oT)]⟩):=by
 unfold Lm at hlim
 refine Xg ts (fun i r=> ∀ acc:List Tm,acc.length=i→lw qg KQ ⟨[(1,.f (.func g) [] caps),(4,.p (100000,0) 0 0),(5,.p (100000,1) 0 0),(19,.i τ vs),(20,I ts.length),(21,I i)],
  [((100000,0),4,[.a [I 0,S [],I 0,.s (100000,2) 0 0]]),((100000,1),4,[.a [I k,S s,I num,.s (100000,3) 0 acc.length]]),((100000,2),4,[]),((100000,3),4,acc.map oT)]⟩=
  some (.exit 0,⟨[(4,.p (100000,0) 0 0),(5,.p (100000,1) 0 0)],
   [((100000,0),4,[.a [I 0,S [],I 0,.s (100000,2) 0 0]]),((100000,1),4,[.a [I k,S s,I num,.s (100000,3) 0 ts.length]]),((100000,2),4,[]),((100000,3),4,(acc++r.map (rnm φ)).map oT)]⟩)) (by omega) ?_ ?_ [] rfl
 ·intro acc ha
  rw [qr]
  simp only [go_sem,qa,qb,qc,qd,qe,qf,reduceCtorEq,qef,ha,List.map_nil]
 ·intro i t r ht hi hlt e1 hir hm hr ih acc ha
  obtain ⟨v,gv,hbt⟩:=xZ hv ht
  have hcc:=hc t hm v hbt
  have a1:=fun T=>zy (τ:=τ) (T:=T) gv (kw hbt)
  have i1:=ih (acc++[rnm φ t]) (by simp;omega)
  obtain ⟨σ1,ks,rfl,-⟩:=qy hbt
  rw [qv]at hcc
  have b1:(acc.length+1)*56≤lim:=by rw [ze];omega
  have b2:acc.length+1≤lim:=by rw [ze];omega
  have rp:=fun k ob (y:V) (ys:List V)=>j0 k ob (acc.map oT) (y::ys) (QE _)
  simp only [List.length_append,List.length_cons,List.length_nil,Nat.zero_add]at i1
  rw [qr]
  simp only [go_sem,qa,qb,qc,qd,qe,qf,reduceCtorEq,qef,hlt,a1,gv,rp,hcc,e1,qiG hs,qiH hs,qiN hs,qiJ hs,qiI hs,qiK hs,qiM hs,qiL hs,b1,b2,List.map_cons]
  rw [i1]
  simp
theorem qys(g:Nat) (caps:List V) (hs:jN caps) (φ:Int→Int) (hg: ∀ n,cr qg g ([I n]++caps)=some (I (φ n))):
 ∀ (t:Tm),WT t→ ∀ v,BT t v→cr qg Y0 [v,.f (.func g) [] caps]=some (oT (rnm φ t)):=by
 refine Z4 ?_
 intro k s n ks ih hw v hbt
 obtain ⟨τ,vs,rfl,hv⟩:=qy hbt
 rw [qn qwq rfl,qyv,qv]
 have hlp:=fun num=>qyr g caps hs φ τ vs ks hv (Qw hw) k num s (fun t ht v hb=>ih t ht (zp hw t ht) v hb)
 have hg':=hg n
 simp only [List.cons_append,List.nil_append]at hg'
 by_cases h1:k=1
 ·subst h1
  have h:=hlp (φ n)
  simp only [go_sem,qa,qb,qc,qd,qe,qf,reduceCtorEq,YD,zk hv,h,hg',qiG hs,qiH hs,qiN hs,qiJ hs,qiI hs,qiK hs,qiM hs,qiL hs,qoy hs]
 ·have h:=hlp n
  simp only [go_sem,qa,qb,qc,qd,qe,qf,reduceCtorEq,YD,zk hv,h,h1,qiG hs,qiH hs,qiN hs,qiJ hs,qiI hs,qiK hs,qiM hs,qiL hs,qoy hs]
end Go.Vm
namespace Go.Vm
theorem qmp {α:Type} {f:α→α}: ∀ {l:List α},(∀ x ∈ l,f x=x)→l.map f=l
 |[],_=>rfl
 |x::l,h=>by rw [List.map_cons,h x (by simp),qmp fun u hu=>h u (by simp [hu])]
theorem qyu: ∀ (t:Tm),rnm (fun n=>n) t=t:=by
 refine Z4 ?_
 intro k s n ks ih
 simp only [rnm,qis,qmp ih,ite_self]
theorem qqA(n:Int):cr qg qaq [I n]=some (I n):=by
 rw [qn qwb rfl]
 simp only [go_sem,qa,qb,qc,qd,qe,qf,reduceCtorEq,XQ]
theorem qk7(t:Tm) (hw:WT t) (v:V) (hb:BT t v):cr qg qdo [v]=some (oT t):=by
 have h:=qys qaq [] (fun _ h=>by cases h) (fun n=>n) (fun n=>qqA n) t hw v hb
 rw [qyu]at h
 have h':cr qg Y0 [v,Fc qaq]=some (oT t):=h
 obtain ⟨τ,vs,rfl,hv⟩:=qy hb
 rw [qn qwa rfl,qv]
 rw [qv]at h'
 simp only [go_sem,qa,qb,qc,qd,qe,qf,reduceCtorEq,XP,h']
def qqX(fr:Int) (l:List Int):Int→Int:=fun n=>w64 (fr+qlD n 0 l)
def yK(c:Cl):Tm:= .mk 4 [58,45] 0 [c.head,c.body]
theorem qz4(s:Str) (xs:List V) (hc:qF xs=true):cw qg Y2 [S s,.o 4 xs]=some (.a [I 4,S s,I 0,.o 4 xs],[S s,.d]):=by
 rw [qK qwu rfl]
 have hk: ∀ d,qE d xs=xs:=fun d=>Zp d xs hc
 simp only [go_sem,qa,qb,qc,qd,qe,qf,reduceCtorEq,XZ,qC,hc,hk]
theorem qq7(c:Cl) (hw:wCl c) (v:V) (h:bCl c v):cr qg qdj [v]=some (oT (yK c)):=by
 obtain ⟨τ0,vs0,τ1,vs1,rfl,h0,h1⟩:=h
 have e1:=qk7 c.head hw.1.1 _ (yH (τ:=τ0) h0)
 have e2:=qk7 c.body hw.2.1.1 _ (yH (τ:=τ1) h1)
 rw [qv]at e1 e2
 rw [qn qvY rfl]
 have e3:=qz4 [58,45] [oT c.head,oT c.body] (by simp only [qF,Ja,Bool.and_self])
 rw [qv c.head,qv c.body]at e3
 simp only [go_sem,qa,qb,qc,qd,qe,qf,reduceCtorEq,XK,e1,e2,e3]
 rw [qv (yK c)]
 simp only [yK,yq,yr,yC,z8,List.map_cons,List.map_nil,qv c.head,qv c.body]
def qvH(φ:Int→Int) (c:Cl):Cl:=⟨rnm φ c.head,rnm φ c.body,c.file⟩
def qQL(c:Cl):Cl:=qvH (qqX 0 (qAm (yK c))) c
theorem qg0(c:Cl) (hw:wCl c):WT (yK c)∧nT (yK c)≤2^32:=by
 refine ⟨xH ⟨by decide,by decide⟩ (by decide) ⟨by decide,by decide⟩ (by show 2≤Lm;decide) ?_, ?_⟩
 ·intro u hu
  simp only [List.mem_cons,List.not_mem_nil,or_false]at hu
  rcases hu with rfl|rfl
  ·exact hw.1.1
  ·exact hw.2.1.1
 ·have h1:=hw.1.2
  have h2:=hw.2.1.2
  unfold Lm at h1 h2
  simp only [yK,nT,nTs]
  omega
end Go.Vm
namespace Go.Vm
theorem qvn(τ:Bool) (vs:List V) (ts:List Tm) (n:Nat) (hl:ts.length=n) (hv:RL BT ts vs) (hlim:n≤Lm)
 (hc: ∀ t ∈ ts,∀ v,BT t v→cr qg ZY [v]=some (oT t)) (m:Nat): ∀ i,i+m=n→
 lw qg qbb ⟨[(0,.i τ vs),(3,.s (100000,0) 0 i),(4,I i)],[((100000,0),4,(ts.take i).map oT)]⟩=
  some (.exit 0,⟨[(3,.s (100000,0) 0 n)],[((100000,0),4,ts.map oT)]⟩):=by
 unfold Lm at hlim
 have hn:=zk hv
 rw [hl]at hn
 induction m with
 |zero=>
  intro i hi
  obtain rfl:i=n:=by omega
  rw [qr]
  have h1: ¬ (i:Int) < (i:Int):=by omega
  rw [List.take_of_length_le (Nat.le_of_eq hl)]
  simp only [go_sem,qa,qb,qc,qd,qe,qf,reduceCtorEq,qeq,hn,h1]
 |succ m ih=>
  intro i hi
  rw [qr]
  have hlt:(i:Int) < (n:Int):=by omega
  obtain ⟨t,ht⟩:=zm (l:=ts) (i:=i) (by omega)
  obtain ⟨v,gv,hbt⟩:=xZ hv ht
  have hcc:=hc t (List.mem_of_getElem? ht) v hbt
  have a1:=fun T=>zy (τ:=τ) (T:=T) gv (kw hbt)
  have e1:w64 ((i:Int)+1)=((i+1:Nat):Int):=by rw [qp]<;>omega
  have i1:=ih (i+1) (by omega)
  obtain ⟨σ1,ks,rfl,-⟩:=qy hbt
  rw [qv]at hcc
  have b1:(i+1)*56≤lim:=by rw [ze];omega
  have b2:i+1≤lim:=by rw [ze];omega
  have ln:(ts.take i).length=i:=by simp;omega
  have tk:(ts.take i).map oT=((ts.take i).map oT).take i:=
   (List.take_of_length_le (l:=(ts.take i).map oT) (by rw [List.length_map,ln];exact Nat.le_refl _)).symm
  have r4:(ts.take i).map oT++[oT t]=(ts.take (i+1)).map oT:=qmn oT ht
  rw [qv t]at r4
  simp only [go_sem,qa,qb,qc,qd,qe,qf,reduceCtorEq,qeq,hn,hlt,a1,gv,hcc,e1, ← tk,r4,b1,b2,ln]
  exact i1
theorem qvo(τ:Bool) (vs:List V) (ts:List Tm) (hv:RL BT ts vs) (hlim:ts.length≤Lm)
 (hc: ∀ t ∈ ts,∀ v,BT t v→cr qg ZY [v]=some (oT t)):cr qg qgH [.i τ vs]=some (.o 4 (ts.map oT)):=by
 rw [qn qxN rfl]
 have h:=qvn τ vs ts ts.length rfl hv hlim hc ts.length 0 (by omega)
 simp only [Int.natCast_zero,List.take_zero,List.map_nil]at h
 simp only [go_sem,qa,qb,qc,qd,qe,qf,reduceCtorEq,KD,h]
theorem qhF: ∀ (t:Tm),WT t→ ∀ v,BT t v→cr qg ZY [v]=some (oT t):=by
 refine Z4 ?_
 intro k s n ks ih hw v hb
 obtain ⟨τ,vs,rfl,hv⟩:=qy hb
 have h:=qvo τ vs ks hv (Qw hw) (fun t ht=>ih t ht (zp hw t ht))
 rw [qn qxM rfl,qv]
 simp only [go_sem,qa,qb,qc,qd,qe,qf,reduceCtorEq,KC,h]
theorem quS(s:Str) (a b:Tm) (va vb:List V) (ha:RL BT a.kids va) (hb:RL BT b.kids vb) (na:qJ va=true) (nb:qJ vb=true):
 cr qg Ze [S s,.a [I a.kind,S a.name,I a.num,.i false va],.a [I b.kind,S b.name,I b.num,.i false vb]]=
  some (.a [I 4,S s,I 0,.o 4 [.a [I a.kind,S a.name,I a.num,.i false va],.a [I b.kind,S b.name,I b.num,.i false vb]]]):=by
 rw [qn qm3 rfl]
 simp only [go_sem,qa,qb,qc,qd,qe,qf,reduceCtorEq,YS,na,nb]
theorem qzA(c:Cl) (va vb:List V) (ha:RL BT c.head.kids va) (hb:RL BT c.body.kids vb) (na:qJ va=true) (nb:qJ vb=true):
 cr qg qgz [.a [I c.head.kind,S c.head.name,I c.head.num,.i false va,I c.body.kind,S c.body.name,I c.body.num,.i false vb,S c.file]]=
  some (.a [I 4,S [58,45],I 0,.o 4 [.a [I c.head.kind,S c.head.name,I c.head.num,.i false va],.a [I c.body.kind,S c.body.name,I c.body.num,.i false vb]]]):=by
 have h:=quS [58,45] c.head c.body va vb ha hb na nb
 rw [qn qxz rfl]
 simp only [go_sem,qa,qb,qc,qd,qe,qf,reduceCtorEq,Kt,h,na,nb]
end Go.Vm
namespace Go.Vm
theorem qzB(c:Cl) (hw:wCl c) (v:V) (h:bCl c v) (hn:qW v=true):cr qg qdD [v]=some (oT (yK c)):=by
 obtain ⟨w1,w2⟩:=qg0 c hw
 obtain ⟨τ0,va,τ1,vb,rfl,h0,h1⟩:=h
 simp only [qW,qJ,qhN,qhO,Bool.true_and,Bool.and_true,Bool.and_eq_true,Bool.not_eq_true']at hn
 obtain ⟨⟨rfl,na⟩,⟨rfl,nb⟩⟩:=hn
 have e1:=qzA c va vb h0 h1 na nb
 have e2:=qhF (yK c) w1 (.a [I 4,S [58,45],I 0,.i true [.a [I c.head.kind,S c.head.name,I c.head.num,.i false va],.a [I c.body.kind,S c.body.name,I c.body.num,.i false vb]]])
  (KE.2 ⟨true,_,rfl,_,_,rfl,yH h0,_,_,rfl,yH h1,rfl⟩)
 rw [qv (yK c)]at e2 ⊢
 rw [qn qwE rfl]
 simp only [go_sem,qa,qb,qc,qd,qe,qf,reduceCtorEq,X3,e1,e2,na,nb]
end Go.Vm
namespace Go.Vm
theorem Zq(x lo hi:Int):cr qg Y4 [I x,I lo,I hi]=some (B (decide (lo≤x∧x≤hi))):=by
 rw [qn qw1 rfl]
 by_cases h1:lo≤x<;>by_cases h2:x≤hi<;>simp only [go_sem,qa,qb,qc,qd,qe,qf,reduceCtorEq,Kc,h1,h2]
theorem XI(x lo hi:Int):cr qg Qm [I x,I lo,I hi]=some (B (decide (lo≤x∧x≤hi))):=by
 rw [qn qww rfl]
 by_cases h1:lo≤x<;>by_cases h2:x≤hi<;>simp only [go_sem,qa,qb,qc,qd,qe,qf,reduceCtorEq,X0,h1,h2]
def zW(c:UInt8):Bool:=decide (33≤c.toNat∧c.toNat≤126∧c.toNat ≠ 39∧c.toNat ≠ 34)
def kg(s:Str):Bool:=s.all zW
def y5(s:Str):Bool:=kg s&&decide (1≤s.length∧s.length≤20)
theorem qhU(c:UInt8):(zW c=true∧ ¬ (c.toNat:Int) < 33∧ ¬ (126:Int) < c.toNat∧decide ((c.toNat:Int)=39)=false∧decide ((c.toNat:Int)=34)=false)∨(zW c=false∧((c.toNat:Int) < 33∨ ¬ (c.toNat:Int) < 33∧((126:Int) < c.toNat∨ ¬ (126:Int) < c.toNat∧(decide ((c.toNat:Int)=39)=true∨decide ((c.toNat:Int)=39)=false∧decide ((c.toNat:Int)=34)=true)))):=by
 unfold zW
 by_cases h:33≤c.toNat∧c.toNat≤126∧c.toNat ≠ 39∧c.toNat ≠ 34
 ·left;exact ⟨decide_eq_true h,by omega,by omega,decide_eq_false (by omega),decide_eq_false (by omega)⟩
 ·right;refine ⟨decide_eq_false h, ?_⟩
  simp only [decide_eq_true_eq,decide_eq_false_iff_not]
  omega
theorem quO(s:Str) (hl:s.length≤2^61):
 lw qg KT ⟨[(0,S s),(3,I 0)],[]⟩=if kg s=true then some (.exit 0,⟨[(0,S s)],[]⟩)else some (.ret,⟨[(2,B false)],[]⟩):=by
 refine Xg s (fun i r=>lw qg KT ⟨[(0,S s),(3,I i)],[]⟩=if kg r=true then some (.exit 0,⟨[(0,S s)],[]⟩)else some (.ret,⟨[(2,B false)],[]⟩)) (by omega) ?_ ?_
 ·rw [qr]
  simp only [go_sem,qa,qb,qc,qd,qe,qf,reduceCtorEq,Z1,kg,List.all_nil]
 ·intro i c r ht hi hlt e1 hir hm hr ih
  have ix:=yn (l:=s) (i:=(i:Int)) (c:=c) (by omega) (by simpa using ht)
  rw [qr]
  unfold kg at ih ⊢
  rcases qhU c with ⟨h0,h1,h2,h3,h4⟩|⟨h0,h1|⟨h1,h2|⟨h2,h3|⟨h3,h4⟩⟩⟩⟩
  ·rw [List.all_cons,h0,Bool.true_and, ← ih]
   simp only [go_sem,qa,qb,qc,qd,qe,qf,reduceCtorEq,Z1,hlt,ix,e1,h1,h2,h3,h4]
  ·simp only [go_sem,qa,qb,qc,qd,qe,qf,reduceCtorEq,Z1,hlt,ix,e1,h1,List.all_cons,h0]
  ·simp only [go_sem,qa,qb,qc,qd,qe,qf,reduceCtorEq,Z1,hlt,ix,e1,h1,h2,List.all_cons,h0]
  ·simp only [go_sem,qa,qb,qc,qd,qe,qf,reduceCtorEq,Z1,hlt,ix,e1,h1,h2,h3,List.all_cons,h0]
  ·simp only [go_sem,qa,qb,qc,qd,qe,qf,reduceCtorEq,Z1,hlt,ix,e1,h1,h2,h3,h4,List.all_cons,h0]
theorem ql6(s:Str) (hl:s.length≤2^61):cr qg qaB [S s]=some (B (y5 s)):=by
 rw [qn qw9 rfl]
 have h:=quO s hl
 have h2:=Zq s.length 1 20
 have h3:decide ((1:Int)≤s.length∧(s.length:Int)≤20)=decide (1≤s.length∧s.length≤20):=decide_eq_decide.2 (by omega)
 rw [h3]at h2
 unfold y5
 cases hb:kg s with
 |true=>rw [hb,if_pos rfl]at h;simp only [go_sem,qa,qb,qc,qd,qe,qf,reduceCtorEq,YQ,h,h2]
 |false=>rw [hb]at h;simp only [go_sem,qa,qb,qc,qd,qe,qf,reduceCtorEq,YQ,h]
theorem qre(s:Str) (hl:s.length≤2^61):
 lw qg KM ⟨[(0,S s),(3,I 0)],[]⟩=if kg s=true then some (.exit 0,⟨[(0,S s)],[]⟩)else some (.ret,⟨[(2,B false)],[]⟩):=by
 refine Xg s (fun i r=>lw qg KM ⟨[(0,S s),(3,I i)],[]⟩=if kg r=true then some (.exit 0,⟨[(0,S s)],[]⟩)else some (.ret,⟨[(2,B false)],[]⟩)) (by omega) ?_ ?_
 ·rw [qr]
  simp only [go_sem,qa,qb,qc,qd,qe,qf,reduceCtorEq,ZZ,kg,List.all_nil]
 ·intro i c r ht hi hlt e1 hir hm hr ih
  have ix:=yn (l:=s) (i:=(i:Int)) (c:=c) (by omega) (by simpa using ht)
  have hc:=UInt8.toNat_lt c
  have hw:w64 (c.toNat:Int)=c.toNat:=by rw [qp]<;>omega
  have hin:=XI c.toNat 33 126
  rw [qr]
  unfold kg at ih ⊢
  rcases qhU c with ⟨h0,h1,h2,h3,h4⟩|⟨h0,h1|⟨h1,h2|⟨h2,h3|⟨h3,h4⟩⟩⟩⟩
  ·rw [decide_eq_true (show (33:Int)≤c.toNat∧(c.toNat:Int)≤126 by first|omega|(simp only [decide_eq_true_eq,decide_eq_false_iff_not]at*;omega))]at hin
   rw [List.all_cons,h0,Bool.true_and, ← ih]
   simp only [go_sem,qa,qb,qc,qd,qe,qf,reduceCtorEq,ZZ,hlt,ix,e1,hw,hin,h1,h2,h3,h4]
  ·rw [decide_eq_false (show ¬ ((33:Int)≤c.toNat∧(c.toNat:Int)≤126)by omega)]at hin
   simp only [go_sem,qa,qb,qc,qd,qe,qf,reduceCtorEq,ZZ,hlt,ix,e1,hw,hin,List.all_cons,h0]
  ·rw [decide_eq_false (show ¬ ((33:Int)≤c.toNat∧(c.toNat:Int)≤126)by omega)]at hin
   simp only [go_sem,qa,qb,qc,qd,qe,qf,reduceCtorEq,ZZ,hlt,ix,e1,hw,hin,List.all_cons,h0]
  ·rw [decide_eq_true (show (33:Int)≤c.toNat∧(c.toNat:Int)≤126 by first|omega|(simp only [decide_eq_true_eq,decide_eq_false_iff_not]at*;omega))]at hin
   simp only [go_sem,qa,qb,qc,qd,qe,qf,reduceCtorEq,ZZ,hlt,ix,e1,hw,hin,h3,List.all_cons,h0]
  ·rw [decide_eq_true (show (33:Int)≤c.toNat∧(c.toNat:Int)≤126 by first|omega|(simp only [decide_eq_true_eq,decide_eq_false_iff_not]at*;omega))]at hin
   simp only [go_sem,qa,qb,qc,qd,qe,qf,reduceCtorEq,ZZ,hlt,ix,e1,hw,hin,h3,h4,List.all_cons,h0]
theorem qrf(s:Str) (hl:s.length≤2^61):cr qg qds [S s]=some (B (y5 s)):=by
 rw [qn qwk rfl]
 have h:=qre s hl
 have h2:=XI s.length 1 20
 have h3:decide ((1:Int)≤s.length∧(s.length:Int)≤20)=decide (1≤s.length∧s.length≤20):=decide_eq_decide.2 (by omega)
 rw [h3]at h2
 unfold y5
 cases hb:kg s with
 |true=>rw [hb,if_pos rfl]at h;simp only [go_sem,qa,qb,qc,qd,qe,qf,reduceCtorEq,YC,h,h2]
 |false=>rw [hb]at h;simp only [go_sem,qa,qb,qc,qd,qe,qf,reduceCtorEq,YC,h]
end Go.Vm
namespace Go.Vm
def bkP(k:Key) (i o n:Nat) (x:V) (ob:Option Ob):Mem:=
 match ob with
 |some ob=>if i=0∧o=0∧ob.1=n then [(k,n,[x])]else []
 |none=>[]
@[go_sem] theorem qJS {T:Mem} {k:Key} {i o:Nat} {x:V}:xu T (.p k i o) (.b x)=bkP k i o x.cells.length x (qu T k):=by simp only [xu,bkP];cases qu T k<;>rfl
@[go_sem] theorem qKR {k:Key} {i o n:Nat} {x:V} {e:Nat} {zs:List V}:bkP k i o n x (some (e,zs))=if i=0∧o=0∧e=n then [(k,n,[x])]else []:=(rfl)
end Go.Vm
set_option maxHeartbeats 16000000
namespace Go.Vm
theorem qkv(a n:Int) (hn:0≤n): ∃ x,qo .shr (I a) (.v (.int .u64 n))=some (I x):=by
 refine ⟨a.fdiv (2 ^ (min n.toNat IntKind.i64.bits)), ?_⟩
 have:(Op.shift .shr .i64 a .u64 n).val? =some (.int .i64 (a.fdiv (2 ^ (min n.toNat IntKind.i64.bits)))):=by
  simp only [Op.shift,if_neg (show ¬ n < 0 by omega)];rfl
 exact congrArg (Option.map V.v) this
theorem qqc(a b:Int): ∃ x,qo .xor (I a) (I b)=some (I x):=⟨_,rfl⟩
theorem qqa(a b:Int): ∃ x,qo .and (I a) (I b)=some (I x):=⟨_,rfl⟩
theorem qku(a:Int): ∃ x:Int,qo .and (I a) (I 255)=some (I x)∧0≤x∧x≤255:=by
 refine ⟨_,rfl, ?_⟩
 have h:(BitVec.ofInt 64 a&&& BitVec.ofInt 64 255).toNat≤255:=by
  rw [BitVec.toNat_and]
  exact Nat.le_trans Nat.and_le_right (by decide)
 show 0≤IntKind.i64.wrap ((BitVec.ofInt 64 a&&& BitVec.ofInt 64 255).toNat:Int)∧IntKind.i64.wrap ((BitVec.ofInt 64 a&&& BitVec.ofInt 64 255).toNat:Int)≤255
 generalize (BitVec.ofInt 64 a&&& BitVec.ofInt 64 255).toNat=m at h
 have:IntKind.i64.wrap (m:Int)=m:=qp (by omega) (by omega)
 rw [this];omega
@[go_sem] theorem qLQ(l:List UInt8):qF (l.map qY)=true:=jl (fun _=>rfl) l
@[go_sem] theorem qPG(d:Nat) (l:List UInt8):qE d (l.map qY)=l.map qY:=Zo (fun _=>rfl) d l
@[go_sem] theorem qMH(τ:Bool) (l:List UInt8):qU τ (l.map qY)=l.map qY:=jS (fun _=>rfl) l
@[go_sem] theorem qRS(l:List UInt8):qJ (l.map qY)=true:=kd (fun _=>rfl) l
def CU(bs:List UInt8) (i:Nat) (h:Int):V:= .b (.a [.i false (bs.map qY),I i,I h])
theorem qlv {bs:List UInt8} {i:Nat} {c:UInt8} (h:bs[i]? =some c):(bs.map qY)[i]? =some (U8 c.toNat):=by
 rw [List.getElem?_map,h];rfl
theorem quJ(bs:List UInt8) (hl:bs.length≤2^40) (m:Nat): ∀ (i:Nat) (h:Int),i+m=min bs.length 4000→
 ∃ h',lw qg qaX ⟨[(0,.i false (bs.map qY)),(3,I h),(4,I i)],[]⟩=some (.exit 0,⟨[(0,.i false (bs.map qY)),(3,I h')],[]⟩):=by
 induction m with
 |zero=>
  intro i h hi
  refine ⟨h, ?_⟩
  rw [qr]
  by_cases h1:(i:Int) < (bs.length:Int)
  ·have h2: ¬ (i:Int) < 4000:=by omega
   simp only [go_sem,qa,qb,qc,qd,qe,qf,reduceCtorEq,qbi,h1,h2,List.length_map]
  ·simp only [go_sem,qa,qb,qc,qd,qe,qf,reduceCtorEq,qbi,h1,List.length_map]
 |succ m ih=>
  intro i h hi
  have h1:(i:Int) < (bs.length:Int):=by omega
  have h2:(i:Int) < 4000:=by omega
  obtain ⟨c,hc⟩:=zm (l:=bs) (i:=i) (by omega)
  have g:=qlv hc
  have a1:=fun T=>zy (τ:=false) (T:=T) (e:=1) g rfl
  have e1:w64 ((i:Int)+1)=((i+1:Nat):Int):=by rw [qp]<;>omega
  obtain ⟨x,hx⟩:=qqa (w64 (w64 (w64 (h*131)+w64 c.toNat)+7)) 1073741823
  obtain ⟨h',hh⟩:=ih (i+1) x (by omega)
  refine ⟨h', ?_⟩
  rw [← hh,qr]
  simp only [go_sem,qa,qb,qc,qd,qe,qf,reduceCtorEq,qbi,h1,h2,g,a1,e1,hx,List.length_map]
theorem Jm(bs:List UInt8) (hl:bs.length≤2^40): ∃ h,cr qg ZW [.i false (bs.map qY)]=some (CU bs 0 h):=by
 obtain ⟨h',lp⟩:=quJ bs hl (min bs.length 4000) 0 (w64 (95101+(bs.length:Int))) (by omega)
 simp only [Int.natCast_zero]at lp
 refine ⟨h', ?_⟩
 rw [qn qw2 rfl]
 unfold CU
 simp only [go_sem,qa,qb,qc,qd,qe,qf,reduceCtorEq,Ke,lp,List.length_map]
theorem quH(bs:List UInt8) (hl:bs.length≤2^40) (i:Nat) (h:Int) (hi:i≤bs.length):
 ∃ (i':Nat) (h' x:Int),cw qg Y3 [CU bs i h]=some (I x,[CU bs i' h'])∧i'≤bs.length∧0≤x∧x≤255:=by
 obtain ⟨s1,h1⟩:=qkv (w64 (w64 (h*6364136223846793005)+1442695040888963407)) 33 (by decide)
 obtain ⟨s2,h2⟩:=qkv (w64 (w64 (h*6364136223846793005)+1442695040888963407)) 45 (by decide)
 obtain ⟨s3,h3⟩:=qqc s1 s2
 obtain ⟨x,h4,h5,h6⟩:=qku s3
 by_cases hlt:(i:Int) < (bs.length:Int)
 ·obtain ⟨c,hc⟩:=zm (l:=bs) (i:=i) (by omega)
  have g:=qlv hc
  have a1:=fun T=>zy (τ:=false) (T:=T) (e:=1) g rfl
  have e1:w64 ((i:Int)+1)=((i+1:Nat):Int):=by rw [qp]<;>omega
  obtain ⟨y,k1,k2,k3⟩:=qku (w64 (x+w64 c.toNat))
  refine ⟨i+1,w64 (w64 (h*6364136223846793005)+1442695040888963407),y, ?_,by omega,k2,k3⟩
  rw [qK qm1 rfl]
  unfold CU
  simp only [go_sem,qa,qb,qc,qd,qe,qf,reduceCtorEq,YP,qC,h1,h2,h3,h4,hlt,g,a1,e1,k1,List.length_map]
 ·refine ⟨i,w64 (w64 (h*6364136223846793005)+1442695040888963407),x, ?_,hi,h5,h6⟩
  rw [qK qm1 rfl]
  unfold CU
  simp only [go_sem,qa,qb,qc,qd,qe,qf,reduceCtorEq,YP,qC,h1,h2,h3,h4,hlt,List.length_map]
end Go.Vm
namespace Go.Vm
theorem qiZ(a n:Int) (ha:0≤a) (hn:0 < n):0≤a.tmod n∧a.tmod n < n:=⟨Int.tmod_nonneg n ha,Int.tmod_lt_of_pos a hn⟩
theorem xN(bs:List UInt8) (hl:bs.length≤2^40) (i:Nat) (h:Int) (hi:i≤bs.length) (n:Int) (hn:0 < n) (hn2:n≤256):
 ∃ (i':Nat) (h' x:Int),cw qg xF [CU bs i h,I n]=some (I x,[CU bs i' h',I n])∧i'≤bs.length∧0≤x∧x < n:=by
 obtain ⟨i1,h1,x1,b1,hi1,p1,q1⟩:=quH bs hl i h hi
 obtain ⟨m1,m2⟩:=qiZ x1 n p1 hn
 have br:=Z8 (a:=x1) (b:=n) (by omega)
 have n0: ¬ n≤0:=by omega
 refine ⟨i1,h1,x1.tmod n, ?_,hi1,m1,m2⟩
 rw [qK qwZ rfl]
 unfold CU at b1 ⊢
 simp only [go_sem,qa,qb,qc,qd,qe,qf,reduceCtorEq,Ka,qC,n0,hn2,b1,br]
theorem qeM(bs:List UInt8) (hl:bs.length≤2^40) (i:Nat) (h:Int) (hi:i≤bs.length) (n:Int) (hn:0 < n) (hn2:n≤256):
 ∃ (i':Nat) (h':Int) (b:Bool),cw qg KK [CU bs i h,I n]=some (B b,[CU bs i' h',I n])∧i'≤bs.length:=by
 obtain ⟨i1,h1,x1,b1,hi1,p1,q1⟩:=xN bs hl i h hi n hn hn2
 refine ⟨i1,h1,decide (x1=0), ?_,hi1⟩
 rw [qK qw3 rfl]
 unfold CU at b1 ⊢
 simp only [go_sem,qa,qb,qc,qd,qe,qf,reduceCtorEq,Kf,qC,b1]
theorem Xn(bs:List UInt8) (hl:bs.length≤2^40) (i:Nat) (h:Int) (hi:i≤bs.length) (e:Nat) (ls:List Str) (h0:0 < ls.length) (h1:ls.length≤256):
 ∃ (i':Nat) (h':Int) (s:Str),cw qg jK [CU bs i h,.o 1 (ls.map S)]=some (S s,[CU bs i' h',.o 1 (ls.map S)])∧i'≤bs.length∧s ∈ ls:=by
 obtain ⟨i1,h1',x1,b1,hi1,p1,q1⟩:=xN bs hl i h hi ls.length (by omega) (by omega)
 obtain ⟨k,rfl⟩: ∃ k:Nat,x1=k:=⟨x1.toNat,by omega⟩
 obtain ⟨s,hs⟩:=zm (l:=ls) (i:=k) (by omega)
 have g:=yb (f:=S) hs
 have ix:=jq (k:=(1,0)) (e:=1) (xs:=ls.map S) (i:=k) (len:=ls.length) (by omega) (by simp)
 have tk:(ls.map S).take ls.length=ls.map S:=List.take_of_length_le (by simp)
 refine ⟨i1,h1',s, ?_,hi1,List.mem_of_getElem? hs⟩
 rw [qK qw4 rfl]
 unfold CU at b1 ⊢
 simp only [go_sem,qa,qb,qc,qd,qe,qf,reduceCtorEq,Kg,qC,b1,ix,g,tk,List.length_map]
end Go.Vm
namespace Go.Vm
def yO:List Str:=[[112,40,97,41],[112,40,98,41],[112,40,99,41],[113,40,88,41,32,58,45,32,112,40,88,41],[113,40,122,41],[114,40,88,44,32,89,41,32,58,45,32,112,40,88,41,44,32,113,40,89,41],[97,112,112,40,91,93,44,32,76,44,32,76,41],[97,112,112,40,91,72,124,84,93,44,32,76,44,32,91,72,124,82,93,41,32,58,45,32,97,112,112,40,84,44,32,76,44,32,82,41],[108,101,110,40,91,93,44,32,48,41],[108,101,110,40,91,95,124,84,93,44,32,78,41,32,58,45,32,108,101,110,40,84,44,32,77,41,44,32,78,32,105,115,32,77,32,43,32,49],[115,40,88,41,32,58,45,32,112,40,88,41,44,32,33],[115,40,122,41],[116,40,88,41,32,58,45,32,40,112,40,88,41,32,45,62,32,116,114,117,101,32,59,32,88,32,61,32,110,111,110,101,41],[117,40,88,41,32,58,45,32,92,43,32,112,40,88,41],[119,40,88,41,32,58,45,32,112,40,88,41,44,32,119,114,105,116,101,40,88,41],[99,40,88,41,32,58,45,32,99,97,116,99,104,40,112,40,88,41,44,32,95,44,32,116,114,117,101,41],[101,40,88,41,32,58,45,32,99,97,116,99,104,40,116,104,114,111,119,40,88,41,44,32,89,44,32,119,114,105,116,101,40,89,41,41],[110,40,88,41,32,58,45,32,88,32,105,115,32,51,32,47,47,32,48],[109,40,88,41,32,58,45,32,99,97,116,99,104,40,110,40,88,41,44,32,101,114,114,111,114,40,69,44,32,95,41,44,32,40,88,32,61,32,69,41,41],[97,100,100,40,88,41,32,58,45,32,97,115,115,101,114,116,122,40,112,40,88,41,41],[100,101,108,40,88,41,32,58,45,32,114,101,116,114,97,99,116,40,112,40,88,41,41],[108,111,111,112,32,58,45,32,108,111,111,112],[118,40,88,41,32,58,45,32,99,97,108,108,40,112,44,32,88,41],[100,40,88,44,32,89,41,32,58,45,32,88,32,61,32,89,32,59,32,89,32,61,32,98],[103,40,102,40,88,41,44,32,88,41],[103,40,104,40,88,41,44,32,88,41],[103,40,49,44,32,111,110,101,41],[107,40,88,41,32,58,45,32,117,110,107,110,111,119,110,40,88,41],[121,40,88,41,32,58,45,32,112,40,88,41,44,32,97,115,115,101,114,116,122,40,112,40,100,41,41,44,32,88,32,61,32,98]]
def qJM:List Str:=[[112,40,88,41],[113,40,88,41],[114,40,88,44,32,89,41],[97,112,112,40,88,44,32,89,44,32,91,97,44,32,98,93,41],[108,101,110,40,91,97,44,32,98,93,44,32,78,41],[115,40,88,41],[116,40,88,41],[117,40,122,41],[119,40,88,41,44,32,102,97,105,108],[99,40,88,41],[101,40,98,97,108,108,41],[110,40,88,41],[109,40,88,41],[97,100,100,40,101,41,44,32,112,40,88,41],[100,101,108,40,88,41,44,32,112,40,89,41],[108,111,111,112],[118,40,88,41],[100,40,88,44,32,89,41],[103,40,104,40,97,41,44,32,89,41],[103,40,88,44,32,89,41],[107,40,49,41],[121,40,88,41],[88,32,61,32,102,40,88,41],[99,97,116,99,104,40,102,97,105,108,44,32,95,44,32,116,114,117,101,41],[40,112,40,88,41,44,32,33,32,59,32,113,40,88,41,41],[92,43,32,112,40,122,41],[119,114,105,116,101,40,88,41,44,32,88,32,61,32,49],[88],[51],[116,104,114,111,119,40,102,40,88,41,41],[99,97,116,99,104,40,112,40,88,41,44,32,95,44,32,116,114,117,101,41,44,32,116,104,114,111,119,40,120,41],[40,112,40,88,41,32,45,62,32,113,40,89,41,32,59,32,116,114,117,101,41],[99,97,108,108,40,97,112,112,40,91,97,93,41,44,32,88,44,32,89,41],[112,40,88,41,44,32,97,115,115,101,114,116,122,40,40,112,50,40,89,41,32,58,45,32,112,40,89,41,41,41,44,32,112,50,40,90,41],[97,116,111,109,40,88,41],[114,101,116,114,97,99,116,40,40,113,40,88,41,32,58,45,32,112,40,88,41,41,41],[88,32,61,61,32,88,44,32,88,32,92,61,32,97],[112,40,88,41,44,32,88,32,61,61,32,98],[97,112,112,40,88,44,32,91,99,124,89,93,44,32,90,41]]
theorem qmb:cr qg qaI []=some (.o 1 (yO.map S)):=by
 rw [qn qxC rfl]
 simp only [go_sem,qa,qb,qc,qd,qe,qf,reduceCtorEq,Kv]
 rfl
theorem qmh: ∀ s ∈ yO,s.length≤60:=by decide
end Go.Vm
set_option maxHeartbeats 8000000
namespace Go.Vm
theorem za(k:Int) (s:Str) (n:Int):oT (.mk k s n [])= .a [I k,S s,I n,.o 4 []]:=rfl
theorem qcm(n:Int):cr qg qaE [I n]=some (oT (.mk 1 [] n [])):=by
 rw [qn qxd rfl,za]
 simp only [go_sem,qa,qb,qc,qd,qe,qf,reduceCtorEq,Km]
theorem qfx(n:Int):cr qg qaC [I n]=some (oT (.mk 3 [] n [])):=by
 rw [qn qxa rfl,za]
 simp only [go_sem,qa,qb,qc,qd,qe,qf,reduceCtorEq,Kl]
theorem Yt(s:Str):cr qg Zd [S s]=some (oT (.mk 2 s 0 [])):=by
 rw [qn qw6 rfl,za]
 simp only [go_sem,qa,qb,qc,qd,qe,qf,reduceCtorEq,Ki]
theorem Zt(s:Str) (ks:List Tm):oT (.mk 4 s 0 ks)= .a [I 4,S s,I 0,.o 4 (ks.map oT)]:=by rw [qv];rfl
def dT(t:Tm):V:= .a [I t.kind,S t.name,I t.num,.d]
theorem qbT(s:Str) (a b:Tm):cw qg Ze [S s,oT a,oT b]=some (oT (.mk 4 s 0 [a,b]),[S s,dT a,dT b]):=by
 rw [qK qm3 rfl,Zt,List.map_cons,List.map_cons,List.map_nil,qv a,qv b,dT,dT]
 simp only [go_sem,qa,qb,qc,qd,qe,qf,reduceCtorEq,YS,qC]
end Go.Vm
namespace Go.Vm
def jX(t:Tm):Bool:=
 if t.kind=1 then decide (0≤t.num∧t.num≤99999)&&(decide (t.name=[])&&decide ((t.kids.length:Int)=0))
 else if t.kind=2 then y5 t.name&&(decide (t.num=0)&&decide ((t.kids.length:Int)=0))
 else if t.kind=3 then decide (-999999999≤t.num∧t.num≤999999999)&&(decide (t.name=[])&&decide ((t.kids.length:Int)=0))
 else if t.kind=4 then y5 t.name&&(decide (t.num=0)&&decide (1≤(t.kids.length:Int)∧(t.kids.length:Int)≤5))
 else false
mutual
def xo:Int→Tm→Bool
 |d,.mk k s n ks=>decide (d≤40)&&(jX (.mk k s n ks)&&yz (d+1) ks)
def yz:Int→List Tm→Bool
 |_,[]=>true
 |d,t::ts=>xo d t&&yz d ts
end
def zb(t:Tm):Bool:=decide (nT t≤400)&&xo 1 t
theorem quP(t:Tm) (hn:t.name.length≤2^61) (v:V) (hb:BT t v):cr qg qgj [v]=some (B (jX t)):=by
 obtain ⟨τ,vs,rfl,hv⟩:=qy hb
 have hl:=zk hv
 rw [qn qxb rfl]
 have i1:=Zq t.num 0 99999
 have i2:=Zq t.num (-999999999) 999999999
 have i3:=Zq t.kids.length 1 5
 have nm:=ql6 t.name hn
 unfold jX
 by_cases k1:t.kind=1
 ·have d1:decide (t.kind=1)=true:=decide_eq_true k1
  rw [if_pos k1]
  cases c1:decide (0≤t.num∧t.num≤99999)with
  |false=>rw [c1]at i1;simp only [go_sem,qa,qb,qc,qd,qe,qf,reduceCtorEq,xc,d1,i1]
  |true=>
   rw [c1]at i1
   cases c2:decide (t.name=[])with
   |false=>simp only [go_sem,qa,qb,qc,qd,qe,qf,reduceCtorEq,xc,d1,i1,c2]
   |true=>simp only [go_sem,qa,qb,qc,qd,qe,qf,reduceCtorEq,xc,d1,i1,c2,hl]
 rw [if_neg k1]
 have d1:decide (t.kind=1)=false:=decide_eq_false k1
 by_cases k2:t.kind=2
 ·have d2:decide (t.kind=2)=true:=decide_eq_true k2
  rw [if_pos k2]
  cases c1:y5 t.name with
  |false=>rw [c1]at nm;simp only [go_sem,qa,qb,qc,qd,qe,qf,reduceCtorEq,xc,d1,d2,nm]
  |true=>
   rw [c1]at nm
   cases c2:decide (t.num=0)with
   |false=>simp only [go_sem,qa,qb,qc,qd,qe,qf,reduceCtorEq,xc,d1,d2,nm,c2]
   |true=>simp only [go_sem,qa,qb,qc,qd,qe,qf,reduceCtorEq,xc,d1,d2,nm,c2,hl]
 rw [if_neg k2]
 have d2:decide (t.kind=2)=false:=decide_eq_false k2
 by_cases k3:t.kind=3
 ·have d3:decide (t.kind=3)=true:=decide_eq_true k3
  rw [if_pos k3]
  cases c1:decide (-999999999≤t.num∧t.num≤999999999)with
  |false=>rw [c1]at i2;simp only [go_sem,qa,qb,qc,qd,qe,qf,reduceCtorEq,xc,d1,d2,d3,i2]
  |true=>
   rw [c1]at i2
   cases c2:decide (t.name=[])with
   |false=>simp only [go_sem,qa,qb,qc,qd,qe,qf,reduceCtorEq,xc,d1,d2,d3,i2,c2]
   |true=>simp only [go_sem,qa,qb,qc,qd,qe,qf,reduceCtorEq,xc,d1,d2,d3,i2,c2,hl]
 rw [if_neg k3]
 have d3:decide (t.kind=3)=false:=decide_eq_false k3
 by_cases k4:t.kind=4
 ·have d4:decide (t.kind=4)=true:=decide_eq_true k4
  rw [if_pos k4]
  cases c1:y5 t.name with
  |false=>rw [c1]at nm;simp only [go_sem,qa,qb,qc,qd,qe,qf,reduceCtorEq,xc,d1,d2,d3,d4,nm]
  |true=>
   rw [c1]at nm
   cases c2:decide (t.num=0)with
   |false=>simp only [go_sem,qa,qb,qc,qd,qe,qf,reduceCtorEq,xc,d1,d2,d3,d4,nm,c2]
   |true=>simp only [go_sem,qa,qb,qc,qd,qe,qf,reduceCtorEq,xc,d1,d2,d3,d4,nm,c2,hl,i3]
 rw [if_neg k4]
 have d4:decide (t.kind=4)=false:=decide_eq_false k4
 simp only [go_sem,qa,qb,qc,qd,qe,qf,reduceCtorEq,xc,d1,d2,d3,d4]
mutual
def kA:Tm→Int→Int
 | .mk _ _ _ ks,r=>jR ks (r - 1)
def jR:List Tm→Int→Int
 |[],r=>r
 |t::ts,r=>if 0≤r then jR ts (kA t r)else r
end
mutual
theorem qg3: ∀ (t:Tm) (r:Int),0≤r→(nT t≤r→kA t r=r - nT t)∧(¬ (nT t:Int)≤r→kA t r < 0∧ -1≤kA t r)
 | .mk k s n ks,r,h=>by
   have:=qg4 ks (r - 1) (by omega)
   simp only [kA,nT]
   refine ⟨fun h1=> ?_,fun h1=> ?_⟩
   ·rw [this.1 (by omega)];omega
   ·exact this.2 (by omega)
theorem qg4: ∀ (ts:List Tm) (r:Int),-1≤r→(nTs ts≤r→jR ts r=r - nTs ts)∧(¬ (nTs ts:Int)≤r→jR ts r < 0∧ -1≤jR ts r)
 |[],r,h=>by simp only [jR,nTs];omega
 |t::ts,r,h=>by
  simp only [jR,nTs]
  by_cases h0:0≤r
  ·rw [if_pos h0]
   have h1:=qg3 t r h0
   have hp:=ye t
   by_cases h2:(nT t:Int)≤r
   ·rw [h1.1 h2]
    have h3:=qg4 ts (r - nT t) (by omega)
    refine ⟨fun h4=> ?_,fun h4=> ?_⟩
    ·rw [h3.1 (by omega)];omega
    ·exact h3.2 (by omega)
   ·have h3:=h1.2 h2
    have h4:=qg4 ts (kA t r) h3.2
    refine ⟨fun h5=>by omega,fun h5=> ?_⟩
    exact h4.2 (by omega)
  ·rw [if_neg h0]
   have:=ye t
   omega
end
theorem qqv(t:Tm) (r:Int) (h:0≤r): -1≤kA t r∧kA t r≤r:=by
 have h1:=qg3 t r h
 have:=ye t
 by_cases h2:(nT t:Int)≤r
 ·rw [h1.1 h2];omega
 ·have:=h1.2 h2;omega
theorem quL(t:Tm) (τ:Bool) (vs:List V) (hv:RL BT t.kids vs) (hlim:t.kids.length≤Lm)
 (hc: ∀ u ∈ t.kids,∀ v r,BT u v→0≤r→r≤2^40→cr qg qaA [v,I r]=some (I (kA u r))): ∀ r:Int,-1≤r→r≤2^40→
 lw qg KS ⟨[(1,I r),(2,.p (100000,0) 0 0),(5,I 0)],[((100000,0),4,[.a [I t.kind,S t.name,I t.num,.i τ vs]])]⟩=some (.exit 0,⟨[(1,I (jR t.kids r))],[((100000,0),4,[.a [I t.kind,S t.name,I t.num,.i τ vs]])]⟩):=by
 unfold Lm at hlim
 have hn:=zk hv
 refine Xg t.kids (fun i ks=> ∀ r:Int,-1≤r→r≤2^40→lw qg KS ⟨[(1,I r),(2,.p (100000,0) 0 0),(5,I i)],[((100000,0),4,[.a [I t.kind,S t.name,I t.num,.i τ vs]])]⟩=some (.exit 0,⟨[(1,I (jR ks r))],[((100000,0),4,[.a [I t.kind,S t.name,I t.num,.i τ vs]])]⟩)) (by omega) ?_ ?_
 ·intro r h1 h2
  rw [qr]
  simp only [go_sem,qa,qb,qc,qd,qe,qf,reduceCtorEq,qbj,hn,jR]
 ·intro i u ks ht hi hlt e1 hir hm hr ih r h1 h2
  obtain ⟨v,gv,hbt⟩:=xZ hv ht
  have a1:=fun T=>zy (τ:=τ) (T:=T) gv (kw hbt)
  rw [qr,jR]
  by_cases h0:0≤r
  ·have hcc:=hc u hm v r hbt h0 h2
   have hb:=qqv u r h0
   have i1:=ih (kA u r) hb.1 (by omega)
   obtain ⟨σ1,ws,rfl,-⟩:=qy hbt
   simp only [go_sem,qa,qb,qc,qd,qe,qf,reduceCtorEq,qbj,hn,hlt,h0,a1,gv,hcc,e1]
   exact i1
  ·simp only [go_sem,qa,qb,qc,qd,qe,qf,reduceCtorEq,qbj,hn,hlt,h0]
theorem quM: ∀ (t:Tm),WT t→ ∀ v r,BT t v→0≤r→r≤2^40→cr qg qaA [v,I r]=some (I (kA t r)):=by
 refine Z4 ?_
 intro k s n ks ih hw v r hb h0 h1
 obtain ⟨τ,vs,rfl,hv⟩:=qy hb
 have e1:w64 (r - 1)=r - 1:=by rw [qp]<;>omega
 have h:=quL (.mk k s n ks) τ vs hv (Qw hw) (fun u hu=>ih u hu (zp hw u hu)) (r - 1) (by omega) (by omega)
 simp only [yq,yr,yC,z8]at h
 rw [qn qw7 rfl,kA]
 simp only [go_sem,qa,qb,qc,qd,qe,qf,reduceCtorEq,Kj,e1,h]
theorem quQ(t:Tm) (τ:Bool) (vs:List V) (hv:RL BT t.kids vs) (hlim:t.kids.length≤Lm) (d:Int) (hd0:0≤d) (hd:d≤40)
 (hc: ∀ u ∈ t.kids,∀ v,BT u v→cr qg qaD [v,I (d+1)]=some (B (xo (d+1) u))):
 lw qg KU ⟨[(1,I d),(2,.p (100000,0) 0 0),(5,I 0)],[((100000,0),4,[.a [I t.kind,S t.name,I t.num,.i τ vs]])]⟩=if yz (d+1) t.kids=true then some (.exit 0,⟨[],[((100000,0),4,[.a [I t.kind,S t.name,I t.num,.i τ vs]])]⟩)else some (.ret,⟨[(4,B false)],[((100000,0),4,[.a [I t.kind,S t.name,I t.num,.i τ vs]])]⟩):=by
 unfold Lm at hlim
 have hn:=zk hv
 refine Xg t.kids (fun i ks=>lw qg KU ⟨[(1,I d),(2,.p (100000,0) 0 0),(5,I i)],[((100000,0),4,[.a [I t.kind,S t.name,I t.num,.i τ vs]])]⟩=if yz (d+1) ks=true then some (.exit 0,⟨[],[((100000,0),4,[.a [I t.kind,S t.name,I t.num,.i τ vs]])]⟩)else some (.ret,⟨[(4,B false)],[((100000,0),4,[.a [I t.kind,S t.name,I t.num,.i τ vs]])]⟩)) (by omega) ?_ ?_
 ·rw [qr]
  simp only [go_sem,qa,qb,qc,qd,qe,qf,reduceCtorEq,qbl,hn,yz]
 ·intro i u ks ht hi hlt e1 hir hm hr ih
  obtain ⟨v,gv,hbt⟩:=xZ hv ht
  have a1:=fun T=>zy (τ:=τ) (T:=T) gv (kw hbt)
  have hcc:=hc u hm v hbt
  have e2:w64 (d+1)=d+1:=by rw [qp]<;>omega
  obtain ⟨σ1,ws,rfl,-⟩:=qy hbt
  rw [qr,yz]
  cases hr:xo (d+1) u with
  |true=>
   rw [hr]at hcc
   rw [Bool.true_and, ← ih]
   simp only [go_sem,qa,qb,qc,qd,qe,qf,reduceCtorEq,qbl,hn,hlt,a1,gv,hcc,e1,e2]
  |false=>
   rw [hr]at hcc
   simp only [go_sem,qa,qb,qc,qd,qe,qf,reduceCtorEq,qbl,hn,hlt,a1,gv,hcc,e1,e2]
theorem quR: ∀ (t:Tm),WT t→ ∀ (d:Int) v,0≤d→d≤41→BT t v→cr qg qaD [v,I d]=some (B (xo d t)):=by
 refine Z4 ?_
 intro k s n ks ih hw d v h0 h1 hb
 have ho:=quP (.mk k s n ks) (by have:=qbv hw;unfold Lm at this;omega) v hb
 obtain ⟨τ,vs,rfl,hv⟩:=qy hb
 simp only [yq,yr,yC,z8]at ho
 rw [qn qxc rfl,xo]
 by_cases hd:40 < d
 ·have:decide (d≤40)=false:=decide_eq_false (by omega)
  simp only [go_sem,qa,qb,qc,qd,qe,qf,reduceCtorEq,Q3,hd,this]
 ·have hdt:decide (d≤40)=true:=decide_eq_true (by omega)
  cases h2:jX (.mk k s n ks)with
  |false=>
   rw [h2]at ho
   simp only [go_sem,qa,qb,qc,qd,qe,qf,reduceCtorEq,Q3,hd,hdt,ho]
  |true=>
   rw [h2]at ho
   have h:=quQ (.mk k s n ks) τ vs hv (Qw hw) d h0 (by omega) (fun u hu v hb=>ih u hu (zp hw u hu) (d+1) v (by omega) (by omega) hb)
   simp only [yq,yr,yC,z8]at h
   cases h3:yz (d+1) ks with
   |true=>rw [h3,if_pos rfl]at h;simp only [go_sem,qa,qb,qc,qd,qe,qf,reduceCtorEq,Q3,hd,hdt,ho,h]
   |false=>rw [h3]at h;simp only [go_sem,qa,qb,qc,qd,qe,qf,reduceCtorEq,Q3,hd,hdt,ho,h]
theorem k9(t:Tm) (hw:WT t) (v:V) (hb:BT t v):cr qg je [v]=some (B (zb t)):=by
 have h1:=quM t hw v 400 hb (by decide) (by decide)
 have h2:=quR t hw 1 v (by decide) (by decide) hb
 have hc:=qg3 t 400 (by decide)
 obtain ⟨τ,vs,rfl,hv⟩:=qy hb
 rw [qn qwW rfl]
 unfold zb
 by_cases h:nT t≤400
 ·have h3:0≤kA t 400:=by rw [hc.1 (by omega)];omega
  have h4:decide (nT t≤400)=true:=decide_eq_true h
  simp only [go_sem,qa,qb,qc,qd,qe,qf,reduceCtorEq,YM,h1,h2,h3,h4]
 ·have h3: ¬ 0≤kA t 400:=by have:=(hc.2 (by omega)).1;omega
  have h4:decide (nT t≤400)=false:=decide_eq_false h
  simp only [go_sem,qa,qb,qc,qd,qe,qf,reduceCtorEq,YM,h1,h3,h4]
end Go.Vm
set_option maxHeartbeats 4000000
namespace Go.Vm
def szI(d:Int) (t:Tm):Int:=if xo d t=true∧nT t≤400 then nT t else 401
theorem qoQ(d:Int) (t:Tm):1≤szI d t∧szI d t≤401:=by
 have:=ye t
 unfold szI
 split<;>omega
theorem qzv(t:Tm) (τ:Bool) (vs:List V) (hv:RL BT t.kids vs) (hlim:t.kids.length≤Lm) (d:Int) (hd0:0≤d) (hd:d≤40)
 (hc: ∀ u ∈ t.kids,∀ v,BT u v→cr qg qav [v,I (d+1)]=some (I (szI (d+1) u))): ∀ n:Int,0≤n→n≤400→
 (yz (d+1) t.kids=true∧n+(nTs t.kids:Int)≤400→lw qg Qq ⟨[(1,I d),(5,I n),(82,.i τ vs),(83,I t.kids.length),(84,I 0)],[]⟩=some (.exit 1,⟨[(5,I (n+(nTs t.kids:Int)))],[]⟩))∧(¬ (yz (d+1) t.kids=true∧n+(nTs t.kids:Int)≤400)→ ∃ T,lw qg Qq ⟨[(1,I d),(5,I n),(82,.i τ vs),(83,I t.kids.length),(84,I 0)],[]⟩=some (.ret,⟨[(4,I 401)],T⟩)):=by
 unfold Lm at hlim
 have hn:=zk hv
 refine Xg t.kids (fun i ks=> ∀ n:Int,0≤n→n≤400→(yz (d+1) ks=true∧n+(nTs ks:Int)≤400→lw qg Qq ⟨[(1,I d),(5,I n),(82,.i τ vs),(83,I t.kids.length),(84,I i)],[]⟩=some (.exit 1,⟨[(5,I (n+(nTs ks:Int)))],[]⟩))∧(¬ (yz (d+1) ks=true∧n+(nTs ks:Int)≤400)→ ∃ T,lw qg Qq ⟨[(1,I d),(5,I n),(82,.i τ vs),(83,I t.kids.length),(84,I i)],[]⟩=some (.ret,⟨[(4,I 401)],T⟩))) (by omega) ?_ ?_
 ·intro n h0 h1
  have e0:n+((nTs []:Nat):Int)=n:=by simp only [nTs];omega
  refine ⟨fun _=> ?_,fun hx=>absurd ⟨rfl,by rw [e0];exact h1⟩ hx⟩
  rw [qr,e0]
  simp only [go_sem,qa,qb,qc,qd,qe,qf,reduceCtorEq,qbe,hn]
 ·intro i u ks ht hi hlt e1 hir hm hr ih n h0 h1
  obtain ⟨v,gv,hbt⟩:=xZ hv ht
  have a1:=fun T=>zy (τ:=τ) (T:=T) gv (kw hbt)
  have hcc:=hc u hm v hbt
  have hb:=qoQ (d+1) u
  have e2:w64 (d+1)=d+1:=by rw [qp]<;>omega
  have e3:w64 (n+szI (d+1) u)=n+szI (d+1) u:=by rw [qp]<;>omega
  obtain ⟨σ1,ws,rfl,-⟩:=qy hbt
  have hp:=ye u
  have e4:((nTs (u::ks):Nat):Int)=(nT u:Int)+nTs ks:=by simp only [nTs];omega
  rw [e4]
  by_cases hbad:400 < n+szI (d+1) u
  ·refine ⟨fun hy=> ?_,fun _=>⟨[((7,0),4,[.a [I u.kind,S u.name,I u.num,.i σ1 ws]])], ?_⟩⟩
   ·simp only [yz,Bool.and_eq_true]at hy
    unfold szI at hbad
    rw [if_pos ⟨hy.1.1,by omega⟩]at hbad
    omega
   rw [qr]
   simp only [go_sem,qa,qb,qc,qd,qe,qf,reduceCtorEq,qbe,hn,hlt,a1,gv,hcc,e1,e2,e3,hbad]
  ·have hr:xo (d+1) u=true∧nT u≤400:=by
    apply Classical.byContradiction
    intro hx
    unfold szI at hbad
    rw [if_neg hx]at hbad
    omega
   have hs:szI (d+1) u=nT u:=by unfold szI;rw [if_pos hr]
   rw [hs]at hcc e3 hbad
   have i1:=ih (n+nT u) (by omega) (by omega)
   have e5:n+((nT u:Int)+nTs ks)=n+nT u+nTs ks:=by omega
   have e6:lw qg Qq ⟨[(1,I d),(5,I n),(82,.i τ vs),(83,I t.kids.length),(84,I i)],[]⟩=lw qg Qq ⟨[(1,I d),(5,I (n+nT u)),(82,.i τ vs),(83,I t.kids.length),(84,I (↑(i+1)))],[]⟩:=by
    rw [qr]
    simp only [go_sem,qa,qb,qc,qd,qe,qf,reduceCtorEq,qbe,hn,hlt,a1,gv,hcc,e1,e2,e3,hbad]
   rw [yz,hr.1,Bool.true_and,e5,e6]
   exact i1
theorem qri: ∀ (t:Tm),WT t→ ∀ (d:Int) v,0≤d→d≤41→BT t v→cr qg qav [v,I d]=some (I (szI d t)):=by
 refine Z4 ?_
 intro k s n ks ih hw d v h0 h1 hb
 have hnm:=qrf s (by have:=qbv hw;unfold Lm at this;exact Nat.le_trans this (by decide))
 have i1:=XI n 0 99999
 have i2:=XI n (-999999999) 999999999
 have i3:=XI ks.length 1 5
 have hlen:=Qw hw
 unfold Lm at hlen
 simp only [z8]at hlen
 obtain ⟨τ,vs,rfl,hv⟩:=qy hb
 have hn:=zk hv
 simp only [z8]at hn hv
 rw [qn qwt rfl]
 have hbad:jX (.mk k s n ks)=false∨ ¬ d≤40→szI d (.mk k s n ks)=401:=by
  intro h
  unfold szI
  rw [if_neg]
  simp only [xo,Bool.and_eq_true,decide_eq_true_eq]
  rcases h with h|h
  ·rw [h];simp
  ·omega
 by_cases hd:40 < d
 ·rw [hbad (.inr (by omega))]
  simp only [go_sem,qa,qb,qc,qd,qe,qf,reduceCtorEq,zZ,hd]
 have h:=qzv (.mk k s n ks) τ vs hv (Qw hw) d h0 (by omega) (fun u hu v hb=>ih u hu (zp hw u hu) (d+1) v (by omega) (by omega) hb) 1 (by decide) (by decide)
 simp only [yq,yr,yC,z8]at h
 have hgood:jX (.mk k s n ks)=true→szI d (.mk k s n ks)=if yz (d+1) ks=true∧(1:Int)+(nTs ks:Int)≤400 then 1+(nTs ks:Int)else 401:=by
  intro ho
  unfold szI
  have hdt:decide (d≤40)=true:=decide_eq_true (by omega)
  rw [xo,ho,hdt,Bool.true_and,Bool.true_and]
  have e:nT (.mk k s n ks)=nTs ks+1:=by simp only [nT]
  by_cases hx:yz (d+1) ks=true∧nT (.mk k s n ks)≤400
  ·rw [if_pos (show yz (d+1) ks=true∧(1:Int)+(nTs ks:Int)≤400 from ⟨hx.1,by omega⟩),if_pos hx];omega
  ·rw [if_neg (show ¬ (yz (d+1) ks=true∧(1:Int)+(nTs ks:Int)≤400)from fun hy=>hx ⟨hy.1,by omega⟩),if_neg hx]
 have hz: ¬ (0:Int) < ks.length→ks.length=0:=by omega
 have p0:(0:Int) < ks.length∨ ¬ (0:Int) < ks.length:=by omega
 unfold jX at hbad hgood
 simp only [yq,yr,yC,z8]at hbad hgood
 by_cases k1:k=1
 ·have d1:decide (k=1)=true:=decide_eq_true k1
  rw [if_pos k1]at hbad hgood
  cases c2:decide (s=[])with
  |false=>rw [hbad (.inl (by rw [c2];simp))];simp only [go_sem,qa,qb,qc,qd,qe,qf,reduceCtorEq,zZ,hd,d1,c2]
  |true=>
  cases c1:decide (0≤n∧n≤99999)with
  |false=>rw [hbad (.inl (by rw [c1];simp))];rw [c1]at i1;simp only [go_sem,qa,qb,qc,qd,qe,qf,reduceCtorEq,zZ,hd,d1,c2,i1]
  |true=>
  rw [c1]at i1
  by_cases c3:(0:Int) < ks.length
  ·rw [hbad (.inl (by rw [decide_eq_false (show ¬ (ks.length:Int)=0 by omega)];simp))];simp only [go_sem,qa,qb,qc,qd,qe,qf,reduceCtorEq,zZ,hd,d1,c2,i1,hn,c3]
  ·rw [hgood (by rw [c1,c2,decide_eq_true (show (ks.length:Int)=0 by omega)];rfl)]
   by_cases hx:yz (d+1) ks=true∧(1:Int)+(nTs ks:Int)≤400
   ·have h:=h.1 hx;rw [if_pos hx];simp only [go_sem,qa,qb,qc,qd,qe,qf,reduceCtorEq,zZ,hd,d1,c2,i1,hn,c3,h]
   ·obtain ⟨T,h⟩:=h.2 hx;rw [if_neg hx];simp only [go_sem,qa,qb,qc,qd,qe,qf,reduceCtorEq,zZ,hd,d1,c2,i1,hn,c3,h]
 rw [if_neg k1]at hbad hgood
 have d1:decide (k=1)=false:=decide_eq_false k1
 by_cases k2:k=2
 ·have d2:decide (k=2)=true:=decide_eq_true k2
  rw [if_pos k2]at hbad hgood
  cases c1:y5 s with
  |false=>rw [hbad (.inl (by rw [c1];simp))];rw [c1]at hnm;simp only [go_sem,qa,qb,qc,qd,qe,qf,reduceCtorEq,zZ,hd,d1,d2,hnm]
  |true=>
  rw [c1]at hnm
  cases c2:decide (n=0)with
  |false=>rw [hbad (.inl (by rw [c2];simp))];simp only [go_sem,qa,qb,qc,qd,qe,qf,reduceCtorEq,zZ,hd,d1,d2,hnm,c2]
  |true=>
  by_cases c3:(0:Int) < ks.length
  ·rw [hbad (.inl (by rw [decide_eq_false (show ¬ (ks.length:Int)=0 by omega)];simp))];simp only [go_sem,qa,qb,qc,qd,qe,qf,reduceCtorEq,zZ,hd,d1,d2,hnm,c2,hn,c3]
  ·rw [hgood (by rw [c1,c2,decide_eq_true (show (ks.length:Int)=0 by omega)];rfl)]
   by_cases hx:yz (d+1) ks=true∧(1:Int)+(nTs ks:Int)≤400
   ·have h:=h.1 hx;rw [if_pos hx];simp only [go_sem,qa,qb,qc,qd,qe,qf,reduceCtorEq,zZ,hd,d1,d2,hnm,c2,hn,c3,h]
   ·obtain ⟨T,h⟩:=h.2 hx;rw [if_neg hx];simp only [go_sem,qa,qb,qc,qd,qe,qf,reduceCtorEq,zZ,hd,d1,d2,hnm,c2,hn,c3,h]
 rw [if_neg k2]at hbad hgood
 have d2:decide (k=2)=false:=decide_eq_false k2
 by_cases k3:k=3
 ·have d3:decide (k=3)=true:=decide_eq_true k3
  rw [if_pos k3]at hbad hgood
  cases c2:decide (s=[])with
  |false=>rw [hbad (.inl (by rw [c2];simp))];simp only [go_sem,qa,qb,qc,qd,qe,qf,reduceCtorEq,zZ,hd,d1,d2,d3,c2]
  |true=>
  cases c1:decide (-999999999≤n∧n≤999999999)with
  |false=>rw [hbad (.inl (by rw [c1];simp))];rw [c1]at i2;simp only [go_sem,qa,qb,qc,qd,qe,qf,reduceCtorEq,zZ,hd,d1,d2,d3,c2,i2]
  |true=>
  rw [c1]at i2
  by_cases c3:(0:Int) < ks.length
  ·rw [hbad (.inl (by rw [decide_eq_false (show ¬ (ks.length:Int)=0 by omega)];simp))];simp only [go_sem,qa,qb,qc,qd,qe,qf,reduceCtorEq,zZ,hd,d1,d2,d3,c2,i2,hn,c3]
  ·rw [hgood (by rw [c1,c2,decide_eq_true (show (ks.length:Int)=0 by omega)];rfl)]
   by_cases hx:yz (d+1) ks=true∧(1:Int)+(nTs ks:Int)≤400
   ·have h:=h.1 hx;rw [if_pos hx];simp only [go_sem,qa,qb,qc,qd,qe,qf,reduceCtorEq,zZ,hd,d1,d2,d3,c2,i2,hn,c3,h]
   ·obtain ⟨T,h⟩:=h.2 hx;rw [if_neg hx];simp only [go_sem,qa,qb,qc,qd,qe,qf,reduceCtorEq,zZ,hd,d1,d2,d3,c2,i2,hn,c3,h]
 rw [if_neg k3]at hbad hgood
 have d3:decide (k=3)=false:=decide_eq_false k3
 by_cases k4:k=4
 ·have d4:decide (k=4)=true:=decide_eq_true k4
  rw [if_pos k4]at hbad hgood
  cases c1:y5 s with
  |false=>rw [hbad (.inl (by rw [c1];simp))];rw [c1]at hnm;simp only [go_sem,qa,qb,qc,qd,qe,qf,reduceCtorEq,zZ,hd,d1,d2,d3,d4,hnm]
  |true=>
  rw [c1]at hnm
  cases c2:decide (n=0)with
  |false=>rw [hbad (.inl (by rw [c2];simp))];simp only [go_sem,qa,qb,qc,qd,qe,qf,reduceCtorEq,zZ,hd,d1,d2,d3,d4,hnm,c2]
  |true=>
  cases c3:decide (1≤(ks.length:Int)∧(ks.length:Int)≤5)with
  |false=>rw [hbad (.inl (by rw [c3];simp))];rw [c3]at i3;simp only [go_sem,qa,qb,qc,qd,qe,qf,reduceCtorEq,zZ,hd,d1,d2,d3,d4,hnm,c2,hn,i3]
  |true=>
   rw [c3]at i3
   rw [hgood (by rw [c1,c2,c3];rfl)]
   by_cases hx:yz (d+1) ks=true∧(1:Int)+(nTs ks:Int)≤400
   ·have h:=h.1 hx;rw [if_pos hx];simp only [go_sem,qa,qb,qc,qd,qe,qf,reduceCtorEq,zZ,hd,d1,d2,d3,d4,hnm,c2,hn,i3,h]
   ·obtain ⟨T,h⟩:=h.2 hx;rw [if_neg hx];simp only [go_sem,qa,qb,qc,qd,qe,qf,reduceCtorEq,zZ,hd,d1,d2,d3,d4,hnm,c2,hn,i3,h]
 rw [if_neg k4]at hbad
 have d4:decide (k=4)=false:=decide_eq_false k4
 rw [hbad (.inl rfl)]
 simp only [go_sem,qa,qb,qc,qd,qe,qf,reduceCtorEq,zZ,hd,d1,d2,d3,d4]
theorem qhq(t:Tm) (hw:WT t) (v:V) (hb:BT t v):cr qg YZ [v]=some (B (zb t)):=by
 have h1:=qri t hw 1 v (by decide) (by decide) hb
 have hbd:=qoQ 1 t
 obtain ⟨τ,vs,rfl,hv⟩:=qy hb
 rw [qn qv7 rfl]
 by_cases h:xo 1 t=true∧nT t≤400
 ·have h2:szI 1 t≤400:=by unfold szI;rw [if_pos h];omega
  have h3:zb t=true:=by unfold zb;rw [h.1,decide_eq_true h.2];rfl
  rw [h3]
  simp only [go_sem,qa,qb,qc,qd,qe,qf,reduceCtorEq,Yz,h1,h2]
 ·have h2: ¬ szI 1 t≤400:=by unfold szI;rw [if_neg h];omega
  have h3:zb t=false:=by
   unfold zb
   cases e1:xo 1 t with
   |false=>rw [Bool.and_false]
   |true=>rw [decide_eq_false (fun hx=>h ⟨e1,hx⟩)];rfl
  rw [h3]
  simp only [go_sem,qa,qb,qc,qd,qe,qf,reduceCtorEq,Yz,h1,h2]
end Go.Vm
namespace Go.Vm
theorem ql4(bs:List UInt8) (hl:bs.length≤2^40) (i:Nat) (h:Int) (hi:i≤bs.length) (e:Nat) (ls:List Int) (h0:0 < ls.length) (h1:ls.length≤256):
 ∃ (i':Nat) (h':Int) (s:Int),cw qg qgi [CU bs i h,.o 1 (ls.map I)]=some (I s,[CU bs i' h',.o 1 (ls.map I)])∧i'≤bs.length∧s ∈ ls:=by
 obtain ⟨i1,h1',x1,b1,hi1,p1,q1⟩:=xN bs hl i h hi ls.length (by omega) (by omega)
 obtain ⟨k,rfl⟩: ∃ k:Nat,x1=k:=⟨x1.toNat,by omega⟩
 obtain ⟨s,hs⟩:=zm (l:=ls) (i:=k) (by omega)
 have g:=yb (f:=I) hs
 have ix:=jq (k:=(1,0)) (e:=1) (xs:=ls.map I) (i:=k) (len:=ls.length) (by omega) (by simp)
 have tk:(ls.map I).take ls.length=ls.map I:=List.take_of_length_le (by simp)
 refine ⟨i1,h1',s, ?_,hi1,List.mem_of_getElem? hs⟩
 rw [qK qw5 rfl]
 unfold CU at b1 ⊢
 simp only [go_sem,qa,qb,qc,qd,qe,qf,reduceCtorEq,Kh,qC,b1,ix,g,tk,List.length_map]
def Dr(m:Nat) (t:Tm):Prop:=WT t∧nT t≤m
theorem zJ {m k:Nat} {t:Tm} (h:Dr m t) (hk:m≤k):Dr k t:=⟨h.1,Nat.le_trans h.2 hk⟩
theorem qmu {m:Nat}: ∀ (ts:List Tm),(∀ t ∈ ts,Dr m t)→nTs ts≤ts.length*m
 |[],_=>by simp [nTs]
 |t::ts,h=>by
  have h1:=(h t (by simp)).2
  have h2:=qmu ts fun u hu=>h u (by simp [hu])
  simp only [nTs,List.length_cons,Nat.succ_mul];omega
theorem qdi {m:Nat} {k n:Int} {s:Str} {ks:List Tm} (hk: -1000≤k∧k≤1000) (hs:s.length≤1000) (hn: -2000000000≤n∧n≤2000000000) (hl:ks.length≤5) (h: ∀ t ∈ ks,Dr m t):Dr (5*m+1) (.mk k s n ks):=by
 refine ⟨xH ⟨by omega,by omega⟩ (by unfold Lm;omega) ⟨by omega,by omega⟩ (by unfold Lm;omega) fun u hu=>(h u hu).1, ?_⟩
 have:=qmu ks h
 have h5:ks.length*m≤5*m:=Nat.mul_le_mul_right _ hl
 simp only [nT];omega
theorem Qk {k n:Int} {s:Str} (hk: -1000≤k∧k≤1000) (hs:s.length≤1000) (hn: -2000000000≤n∧n≤2000000000):Dr 1 (.mk k s n []):=
 qdi (m:=0) hk hs hn (by simp) (fun t ht=>by cases ht)
def szD:Nat→Nat
 |0=>1
 |d+1=>5*szD d+1
theorem JM(d:Nat):1≤szD d:=by cases d<;>simp [szD]
theorem quN(bs:List UInt8) (hl:bs.length≤2^40) (d:Nat) (hd:d+1≤100) (nm:Str) (ih: ∀ (i:Nat) (h:Int) (hi:i≤bs.length),d≤100→
 ∃ (i':Nat) (h':Int) (t:Tm),cw qg jf [CU bs i h,I d]=some (oT t,[CU bs i' h',I d])∧i'≤bs.length∧Dr (szD d) t) (m:Nat):
 ∀ (ts:List Tm) (ci:Nat) (ch:Int),ts.length+m=3→ci≤bs.length→(∀ t ∈ ts,Dr (szD d) t)→
 ∃ (ci':Nat) (ch':Int) (us:List Tm),lw qg qaZ ⟨[(0,.p (0,0) 0 0),(1,I ((d+1:Nat):Int)),(4,.p (100000,0) 0 0),(6,.p (100000,1) 0 0),(7,I (ts.length:Int))],[((0,0),3,[.a [.i false (bs.map qY),I ci,I ch]]),((100000,0),4,[.a [I 0,S [],I 0,.s (100000,2) 0 0]]),((100000,1),4,[.a [I 4,S nm,I 0,.s (100000,3) 0 ts.length]]),((100000,2),4,[]),((100000,3),4,ts.map oT)]⟩=some (.exit 1,⟨[(0,.p (0,0) 0 0),(4,.p (100000,0) 0 0),(6,.p (100000,1) 0 0)],[((0,0),3,[.a [.i false (bs.map qY),I ci',I ch']]),((100000,0),4,[.a [I 0,S [],I 0,.s (100000,2) 0 0]]),((100000,1),4,[.a [I 4,S nm,I 0,.s (100000,3) 0 us.length]]),((100000,2),4,[]),((100000,3),4,us.map oT)]⟩)∧ci'≤bs.length∧us.length≤3∧ ∀ t ∈ us,Dr (szD d) t:=by
 have ed:w64 (((d+1:Nat):Int) - 1)=(d:Int):=by rw [qp]<;>omega
 induction m with
 |zero=>
  intro ts ci ch hi hc hs
  obtain ⟨c1,d1,x1,b1,q1,q2,q3⟩:=xN bs hl ci ch hc 3 (by decide) (by decide)
  have e1:w64 (1+x1)=1+x1:=by rw [qp]<;>omega
  have hlt: ¬ (ts.length:Int) < 1+x1:=by omega
  refine ⟨c1,d1,ts, ?_,q1,by omega,hs⟩
  unfold CU at b1
  rw [qr]
  simp only [go_sem,qa,qb,qc,qd,qe,qf,reduceCtorEq,qbk,b1,e1,hlt]
 |succ m ihm=>
  intro ts ci ch hi hc hs
  obtain ⟨c1,d1,x1,b1,q1,q2,q3⟩:=xN bs hl ci ch hc 3 (by decide) (by decide)
  have e1:w64 (1+x1)=1+x1:=by rw [qp]<;>omega
  by_cases hlt:(ts.length:Int) < 1+x1
  case neg=>
   refine ⟨c1,d1,ts, ?_,q1,by omega,hs⟩
   unfold CU at b1
   rw [qr]
   simp only [go_sem,qa,qb,qc,qd,qe,qf,reduceCtorEq,qbk,b1,e1,hlt]
  obtain ⟨c2,d2,t2,b2,q4,q5⟩:=ih c1 d1 q1 (by omega)
  obtain ⟨c3,d3,us,h3,q6,q7,q8⟩:=ihm (ts++[t2]) c2 d2 (by simp only [List.length_append,List.length_cons,List.length_nil];omega) q4 (fun t ht=>by
   rcases List.mem_append.1 ht with ht|ht
   ·exact hs t ht
   ·rcases List.mem_cons.1 ht with rfl|ht
    ·exact q5
    ·cases ht)
  refine ⟨c3,d3,us, ?_,q6,q7,q8⟩
  rw [← h3]
  have h5:(ts.length:Int) < 5:=by omega
  have e2:w64 ((ts.length:Int)+1)=((ts.length+1:Nat):Int):=by rw [qp]<;>omega
  have l1:decide ((ts.length+1)*56≤lim)=true:=decide_eq_true (by rw [ze];omega)
  have l2:decide (ts.length+1≤lim)=true:=decide_eq_true (by rw [ze];omega)
  have tk2:(ts.map oT).take ts.length=ts.map oT:=List.take_of_length_le (by simp)
  have rp:=fun k' ob (y:V) (ys:List V)=>j0 k' ob (ts.map oT) (y::ys) (QE _)
  have tk: ∀ x:Tm,(x.kids.map oT).take x.kids.length=x.kids.map oT:=fun x=>List.take_of_length_le (by simp)
  have ln:(ts++[t2]).length=ts.length+1:=by simp
  have mp:(ts++[t2]).map oT=ts.map oT++[oT t2]:=by simp
  rw [ln,mp]
  unfold CU at b1 b2
  rw [qv]at b2 ⊢
  rw [qr]
  simp only [go_sem,qa,qb,qc,qd,qe,qf,reduceCtorEq,qbk,b1,b2,e1,e2,hlt,h5,ed,l1,l2,tk2,rp,tk,List.length_map]
theorem ql5(bs:List UInt8) (hl:bs.length≤2^40) (d:Nat): ∀ (i:Nat) (h:Int) (hi:i≤bs.length),d≤100→
 ∃ (i':Nat) (h':Int) (t:Tm),cw qg jf [CU bs i h,I d]=some (oT t,[CU bs i' h',I d])∧i'≤bs.length∧Dr (szD d) t:=by
 induction d with
 |zero=>
  intro i h hi _
  have c0:(0:Int)≤0:=Int.le_refl _
  obtain ⟨i1,h1,x1,b1,p1,q1,r1⟩:=xN bs hl i h hi 10 (by decide) (by decide)
  have br:=Z8 (a:=x1) (b:=6) (by decide)
  obtain ⟨m1,m2⟩:=qiZ x1 6 q1 (by decide)
  generalize x1.tmod 6=k at br m1 m2
  by_cases k2:k < 2
  ·obtain ⟨i2,h2,x2,b2,p2,q2,r2⟩:=xN bs hl i1 h1 p1 4 (by decide) (by decide)
   have v:=qcm x2
   refine ⟨i2,h2,.mk 1 [] x2 [], ?_,p2,zJ (Qk (by omega) (by simp) (by omega)) (JM _)⟩
   rw [qK Zw rfl]
   unfold CU at b1 b2 ⊢
   rw [za]at v ⊢
   simp only [go_sem,qa,qb,qc,qd,qe,qf,reduceCtorEq,kr,qC,b1,b2,c0,br,k2,v]
  by_cases k4:k < 4
  ·obtain ⟨i2,h2,x2,b2,p2,q2⟩:=Xn bs hl i1 h1 p1 1 [[97],[98],[91,93],[43],[66,105,103],[120],[58,45],[61,46,46]] (by decide) (by decide)
   have v:=Yt x2
   have lx:x2.length≤1000:=Nat.le_trans ((show ∀ s ∈ ([[97],[98],[91,93],[43],[66,105,103],[120],[58,45],[61,46,46]]:List Str),s.length≤3 by decide) x2 q2) (by decide)
   refine ⟨i2,h2,.mk 2 x2 0 [], ?_,p2,zJ (Qk (by omega) lx (by omega)) (JM _)⟩
   rw [qK Zw rfl]
   unfold CU at b1 b2 ⊢
   rw [za]at v ⊢
   simp only [List.map_cons,List.map_nil]at b2
   have sl:XF (S [120,32,121]) none (some (I 1))=some (S [120]):=rfl
   simp only [go_sem,qa,qb,qc,qd,qe,qf,reduceCtorEq,kr,qC,b1,b2,c0,br,k2,k4,v,sl]
  by_cases k6:k < 6
  ·obtain ⟨i2,h2,x2,b2,p2,q2⟩:=ql4 bs hl i1 h1 p1 1 [0,1,-7,999999999] (by decide) (by decide)
   have v:=qfx x2
   have lx:=(show ∀ s ∈ ([0,1,-7,999999999]:List Int),-2000000000≤s∧s≤2000000000 by decide) x2 q2
   refine ⟨i2,h2,.mk 3 [] x2 [], ?_,p2,zJ (Qk (by omega) (by simp) lx) (JM _)⟩
   rw [qK Zw rfl]
   unfold CU at b1 b2 ⊢
   rw [za]at v ⊢
   simp only [List.map_cons,List.map_nil]at b2
   simp only [go_sem,qa,qb,qc,qd,qe,qf,reduceCtorEq,kr,qC,b1,b2,c0,br,k2,k4,k6,v]
  exact absurd m2 k6
 |succ d ih=>
  intro i h hi hd
  have c0: ¬ ((d+1:Nat):Int)≤0:=by omega
  obtain ⟨i1,h1,k,b1,p1,q1,r1⟩:=xN bs hl i h hi 10 (by decide) (by decide)
  by_cases k2:k < 2
  ·obtain ⟨i2,h2,x2,b2,p2,q2,r2⟩:=xN bs hl i1 h1 p1 4 (by decide) (by decide)
   have v:=qcm x2
   refine ⟨i2,h2,.mk 1 [] x2 [], ?_,p2,zJ (Qk (by omega) (by simp) (by omega)) (JM _)⟩
   rw [qK Zw rfl]
   unfold CU at b1 b2 ⊢
   rw [za]at v ⊢
   simp only [go_sem,qa,qb,qc,qd,qe,qf,reduceCtorEq,kr,qC,b1,b2,c0,k2,v]
  by_cases k4:k < 4
  ·obtain ⟨i2,h2,x2,b2,p2,q2⟩:=Xn bs hl i1 h1 p1 1 [[97],[98],[91,93],[43],[66,105,103],[120],[58,45],[61,46,46]] (by decide) (by decide)
   have v:=Yt x2
   have lx:x2.length≤1000:=Nat.le_trans ((show ∀ s ∈ ([[97],[98],[91,93],[43],[66,105,103],[120],[58,45],[61,46,46]]:List Str),s.length≤3 by decide) x2 q2) (by decide)
   refine ⟨i2,h2,.mk 2 x2 0 [], ?_,p2,zJ (Qk (by omega) lx (by omega)) (JM _)⟩
   rw [qK Zw rfl]
   unfold CU at b1 b2 ⊢
   rw [za]at v ⊢
   simp only [List.map_cons,List.map_nil]at b2
   have sl:XF (S [120,32,121]) none (some (I 1))=some (S [120]):=rfl
   simp only [go_sem,qa,qb,qc,qd,qe,qf,reduceCtorEq,kr,qC,b1,b2,c0,k2,k4,v,sl]
  by_cases k6:k < 6
  ·obtain ⟨i2,h2,x2,b2,p2,q2⟩:=ql4 bs hl i1 h1 p1 1 [0,1,-7,999999999] (by decide) (by decide)
   have v:=qfx x2
   have lx:=(show ∀ s ∈ ([0,1,-7,999999999]:List Int),-2000000000≤s∧s≤2000000000 by decide) x2 q2
   refine ⟨i2,h2,.mk 3 [] x2 [], ?_,p2,zJ (Qk (by omega) (by simp) lx) (JM _)⟩
   rw [qK Zw rfl]
   unfold CU at b1 b2 ⊢
   rw [za]at v ⊢
   simp only [List.map_cons,List.map_nil]at b2
   simp only [go_sem,qa,qb,qc,qd,qe,qf,reduceCtorEq,kr,qC,b1,b2,c0,k2,k4,k6,v]
  have ed:w64 (((d+1:Nat):Int) - 1)=(d:Int):=by rw [qp]<;>omega
  by_cases k7:k=6
  ·obtain ⟨i2,h2,t2,b2,p2,w2⟩:=ih i1 h1 p1 (by omega)
   obtain ⟨i3,h3,t3,b3,p3,w3⟩:=ih i2 h2 p2 (by omega)
   have v:=qbT [46] t2 t3
   refine ⟨i3,h3,.mk 4 [46] 0 [t2,t3], ?_,p3,qdi (by omega) (by simp) (by omega) (by simp) (fun t ht=>by
    rcases List.mem_cons.1 ht with rfl|ht
    ·exact w2
    ·rcases List.mem_cons.1 ht with rfl|ht
     ·exact w3
     ·cases ht)⟩
   rw [qK Zw rfl]
   unfold CU at b1 b2 b3 ⊢
   have d7:decide (k=6)=true:=decide_eq_true k7
   rw [Zt,List.map_cons,List.map_cons,List.map_nil]at v ⊢
   rw [qv t2]at b2 v ⊢
   rw [qv t3]at b3 v ⊢
   simp only [go_sem,qa,qb,qc,qd,qe,qf,reduceCtorEq,kr,qC,b1,b2,b3,c0,k2,k4,k6,d7,ed,v,dT]
  have d7:decide (k=6)=false:=decide_eq_false k7
  by_cases k8:k=7
  ·have d8:decide (k=7)=true:=decide_eq_true k8
   obtain ⟨i4,h4,x4,b4,p4,q4⟩:=Xn bs hl i1 h1 p1 1 [[43],[61],[44],[102],[59]] (by decide) (by decide)
   have lx:x4.length≤1000:=Nat.le_trans ((show ∀ s ∈ ([[43],[61],[44],[102],[59]]:List Str),s.length≤3 by decide) x4 q4) (by decide)
   obtain ⟨i2,h2,t2,b2,p2,w2⟩:=ih i4 h4 p4 (by omega)
   obtain ⟨i3,h3,t3,b3,p3,w3⟩:=ih i2 h2 p2 (by omega)
   have v:=qbT x4 t2 t3
   refine ⟨i3,h3,.mk 4 x4 0 [t2,t3], ?_,p3,qdi (by omega) lx (by omega) (by simp) (fun t ht=>by
    rcases List.mem_cons.1 ht with rfl|ht
    ·exact w2
    ·rcases List.mem_cons.1 ht with rfl|ht
     ·exact w3
     ·cases ht)⟩
   rw [qK Zw rfl]
   unfold CU at b1 b2 b3 b4 ⊢
   simp only [List.map_cons,List.map_nil]at b4
   rw [Zt,List.map_cons,List.map_cons,List.map_nil]at v ⊢
   rw [qv t2]at b2 v ⊢
   rw [qv t3]at b3 v ⊢
   simp only [go_sem,qa,qb,qc,qd,qe,qf,reduceCtorEq,kr,qC,b1,b2,b3,b4,c0,k2,k4,k6,d7,d8,ed,v,dT]
  have d8:decide (k=7)=false:=decide_eq_false k8
  obtain ⟨i4,h4,x4,b4,p4,q4⟩:=Xn bs hl i1 h1 p1 1 [[102],[103],[45],[91,93]] (by decide) (by decide)
  have lx:x4.length≤1000:=Nat.le_trans ((show ∀ s ∈ ([[102],[103],[45],[91,93]]:List Str),s.length≤3 by decide) x4 q4) (by decide)
  obtain ⟨i5,h5,us,lp,p5,p6,p7⟩:=quN bs hl d hd x4 ih 3 [] i4 h4 rfl p4 (fun t ht=>by cases ht)
  refine ⟨i5,h5,.mk 4 x4 0 us, ?_,p5,qdi (by omega) lx (by omega) (by omega) p7⟩
  rw [qK Zw rfl]
  unfold CU at b1 b4 ⊢
  simp only [List.map_cons,List.map_nil,List.length_nil,Int.natCast_zero]at b4 lp
  have tk:(us.map oT).take us.length=us.map oT:=List.take_of_length_le (by simp)
  rw [Zt]
  simp only [go_sem,qa,qb,qc,qd,qe,qf,reduceCtorEq,kr,qC,b1,b4,c0,k2,k4,k6,d7,d8,ed,lp,tk,List.length_map]
theorem ql7(bs:List UInt8) (hl:bs.length≤2^40) (i:Nat) (h:Int) (hi:i≤bs.length):
 ∃ (i':Nat) (h':Int) (t:Tm),cw qg qdI [CU bs i h]=some (oT t,[CU bs i' h'])∧i'≤bs.length∧Dr 156 t∧zb t=true:=by
 obtain ⟨i1,h1,t1,b1,p1,w1⟩:=ql5 bs hl 3 i h hi (by decide)
 have w1:Dr 156 t1:=w1
 have b1:cw qg jf [CU bs i h,I 3]=some (oT t1,[CU bs i1 h1,I 3]):=b1
 have ok:=k9 t1 w1.1 (iT true t1) (yY true t1)
 have tk:(t1.kids.map oT).take t1.kids.length=t1.kids.map oT:=List.take_of_length_le (by simp)
 have at1:=Yt [97]
 rw [za]at at1
 rw [ym]at ok
 cases ht:zb t1 with
 |true=>
  refine ⟨i1,h1,t1, ?_,p1,w1,ht⟩
  rw [ht]at ok
  rw [qK qm2 rfl]
  rw [qv]at b1 ⊢
  unfold CU at b1 ⊢
  simp only [go_sem,qa,qb,qc,qd,qe,qf,reduceCtorEq,YR,qC,b1,ok,tk,List.length_map]
 |false=>
  refine ⟨i1,h1,.mk 2 [97] 0 [], ?_,p1,zJ (Qk (by omega) (by simp) (by omega)) (by decide),rfl⟩
  rw [ht]at ok
  rw [qK qm2 rfl]
  rw [qv]at b1
  rw [za]
  unfold CU at b1 ⊢
  simp only [go_sem,qa,qb,qc,qd,qe,qf,reduceCtorEq,YR,qC,b1,ok,tk,at1,List.length_map]
def jE:Nat→Tm→Tm
 |0,t=>t
 |n+1,t=>jE n (.mk 4 [115] 0 [t])
theorem qo5: ∀ (n:Nat) (t:Tm) (m:Nat),Dr m t→Dr (m+n) (jE n t)
 |0,t,m,h=>h
 |n+1,t,m,h=>by
  have h1:Dr (m+1) (.mk 4 [115] 0 [t]):=by
   refine ⟨xH ⟨by omega,by omega⟩ (by unfold Lm;simp) ⟨by omega,by omega⟩ (by unfold Lm;simp) (fun u hu=>by simp only [List.mem_singleton]at hu;subst hu;exact h.1), ?_⟩
   have:=h.2
   simp only [nT,nTs];omega
  have:=qo5 n _ _ h1
  simp only [jE]
  rw [show m+(n+1)=m+1+n by omega]
  exact this
theorem qfR {m:Nat} {t:Tm} (h:Dr m t) {k n:Int} {s:Str} (hk: -1000≤k∧k≤1000) (hs:s.length≤Lm) (hn: -2000000000≤n∧n≤2000000000):
 Dr m (.mk k s t.num t.kids)∧Dr m (.mk t.kind s t.num t.kids)∧Dr m (.mk t.kind t.name n t.kids):=by
 have h1:=h.1
 have h2:=h.2
 have e:nT t=nTs t.kids+1:=by cases t;rfl
 refine ⟨⟨xH ⟨by omega,by omega⟩ hs (qj5 h1) (Qw h1) (zp h1),by simp only [nT];omega⟩,⟨xH (qj4 h1) hs (qj5 h1) (Qw h1) (zp h1),by simp only [nT];omega⟩,⟨xH (qj4 h1) (qbv h1) ⟨by omega,by omega⟩ (Qw h1) (zp h1),by simp only [nT];omega⟩⟩
theorem quK(bs:List UInt8) (ci:Nat) (ch:Int) (y:Int) (j:Nat) (hj:j < 4) (hy:qo .rem (I y) (I 4)=some (I (j:Int))) (m:Nat): ∀ (i:Nat) (t:Tm),i+m=38+j→
 lw qg qaY ⟨[(0,.p (0,0) 0 0),(2,.p (100000,0) 0 0),(4,I y),(5,.p (100000,1) 0 0),(6,I (i:Int))],[((0,0),3,[.a [.i false (bs.map qY),I ci,I ch]]),((100000,0),4,[.a [I 0,S [],I 0,.s (100000,2) 0 0]]),((100000,1),4,[.a [I (Tm.kind t),S (Tm.name t),I (Tm.num t),.s (100000,3) 0 (Tm.kids t).length]]),((100000,2),4,[]),((100000,3),4,(Tm.kids t).map oT)]⟩=some (.exit 1,⟨[(0,.p (0,0) 0 0),(2,.p (100000,0) 0 0),(5,.p (100000,1) 0 0)],[((0,0),3,[.a [.i false (bs.map qY),I ci,I ch]]),((100000,0),4,[.a [I 0,S [],I 0,.s (100000,2) 0 0]]),((100000,1),4,[.a [I (Tm.kind (jE m t)),S (Tm.name (jE m t)),I (Tm.num (jE m t)),.s (100000,3) 0 (Tm.kids (jE m t)).length]]),((100000,2),4,[]),((100000,3),4,(Tm.kids (jE m t)).map oT)]⟩):=by
 have e0:w64 (38+(j:Int))=((38+j:Nat):Int):=by rw [qp]<;>omega
 induction m with
 |zero=>
  intro i t hi
  have hlt: ¬ (i:Int) < ((38+j:Nat):Int):=by omega
  rw [qr]
  simp only [go_sem,qa,qb,qc,qd,qe,qf,reduceCtorEq,qek,hy,e0,hlt,jE]
 |succ m ih=>
  intro i t hi
  have hlt:(i:Int) < ((38+j:Nat):Int):=by omega
  have e1:w64 ((i:Int)+1)=((i+1:Nat):Int):=by rw [qp]<;>omega
  have h:=ih (i+1) (.mk 4 [115] 0 [t]) (by omega)
  have tk:(t.kids.map oT).take t.kids.length=t.kids.map oT:=List.take_of_length_le (by simp)
  simp only [jE]
  rw [← h]
  simp only [yq,yr,yC,z8,List.map_cons,List.map_nil,List.length_cons,List.length_nil,Nat.zero_add]
  rw [qv t,qr]
  simp only [go_sem,qa,qb,qc,qd,qe,qf,reduceCtorEq,qek,hy,e0,e1,hlt,tk,List.length_map]
theorem qmi(ls:List Str) (j:Nat) (hj:j < ls.length) (b:Nat) (hb: ∀ s ∈ ls,s.length≤b): ∃ w,(ls.map S)[j]? =some (S w)∧w.length≤b:=by
 obtain ⟨w,hw⟩:=zm (l:=ls) (i:=j) hj
 exact ⟨w,yb (f:=S) hw,hb w (List.mem_of_getElem? hw)⟩
theorem qvy(ls:List Int) (j:Nat) (hj:j < ls.length) (hb: ∀ s ∈ ls,-2000000000≤s∧s≤2000000000): ∃ w:Int,(ls.map I)[j]? =some (I w)∧ -2000000000≤w∧w≤2000000000:=by
 obtain ⟨w,hw⟩:=zm (l:=ls) (i:=j) hj
 exact ⟨w,yb (f:=I) hw,hb w (List.mem_of_getElem? hw)⟩
theorem qco(a:Int) (n:Nat) (ha:0≤a) (hn:0 < n): ∃ j:Nat,a.tmod n=j∧j < n:=by
 have:=qiZ a n ha (by omega)
 exact ⟨(a.tmod n).toNat,by omega,by omega⟩
theorem Yk(bs:List UInt8) (hl:bs.length≤2^40) (i:Nat) (h:Int) (hi:i≤bs.length):
 ∃ (i':Nat) (h':Int) (t:Tm),cw qg Qn [CU bs i h]=some (oT t,[CU bs i' h'])∧i'≤bs.length∧Dr 200 t:=by
 obtain ⟨i1,h1,k,b1,p1,q1,r1⟩:=xN bs hl i h hi 12 (by decide) (by decide)
 obtain ⟨i2,h2,y,b2,p2,q2,r2⟩:=xN bs hl i1 h1 p1 60 (by decide) (by decide)
 obtain ⟨i3,h3,t,b3,p3,w⟩:=ql5 bs hl 3 i2 h2 p2 (by decide)
 have b3:cw qg jf [CU bs i2 h2,I 3]=some (oT t,[CU bs i3 h3,I 3]):=b3
 have w:Dr 156 t:=w
 have tk:(t.kids.map oT).take t.kids.length=t.kids.map oT:=List.take_of_length_le (by simp)
 have y6:=Z8 (a:=y) (b:=6) (by decide)
 have y4:=Z8 (a:=y) (b:=4) (by decide)
 have y3:=Z8 (a:=y) (b:=3) (by decide)
 obtain ⟨j6,e6,u6⟩:=qco y 6 q2 (by decide)
 obtain ⟨j4,e4,u4⟩:=qco y 4 q2 (by decide)
 obtain ⟨j3,e3,u3⟩:=qco y 3 q2 (by decide)
 rw [show y.tmod 6=(j6:Int)from e6]at y6
 rw [show y.tmod 4=(j4:Int)from e4]at y4
 rw [show y.tmod 3=(j3:Int)from e3]at y3
 by_cases k0:k=0
 ·have d0:decide (k=0)=true:=decide_eq_true k0
  refine ⟨i3,h3,.mk j6 t.name t.num t.kids, ?_,p3,zJ (qfR (k:=j6) (n:=0) w (by omega) (qbv w.1) (by omega)).1 (by decide)⟩
  rw [qK qb1 rfl]
  rw [qv]at b3 ⊢
  unfold CU at b1 b2 b3 ⊢
  simp only [go_sem,qa,qb,qc,qd,qe,qf,reduceCtorEq,Qg,qC,b1,b2,b3,d0,y6,tk,List.length_map]
 have d0:decide (k=0)=false:=decide_eq_false k0
 by_cases k1:k=1
 ·have d1:decide (k=1)=true:=decide_eq_true k1
  obtain ⟨s,gs,ls⟩:=qmi [[],[97,32,98],[39],[97,97,97,97,97,97,97,97,97,97,97,97,97,97,97,97,97,97,97,97,97]] j4 u4 100 (by decide)
  simp only [List.map_cons,List.map_nil]at gs
  have ix:=jq (k:=(21,0)) (e:=1) (xs:=[S [],S [97,32,98],S [39],S [97,97,97,97,97,97,97,97,97,97,97,97,97,97,97,97,97,97,97,97,97]]) (i:=j4) (len:=4) (by omega) (by simp)
  refine ⟨i3,h3,.mk t.kind s t.num t.kids, ?_,p3,zJ (qfR (k:=0) (n:=0) w (by omega) (s:=s) (by unfold Lm;omega) (by omega)).2.1 (by decide)⟩
  rw [qK qb1 rfl]
  rw [qv]at b3 ⊢
  unfold CU at b1 b2 b3 ⊢
  simp only [go_sem,qa,qb,qc,qd,qe,qf,reduceCtorEq,Qg,qC,b1,b2,b3,d0,d1,y4,ix,gs,tk,List.length_map]
 have d1:decide (k=1)=false:=decide_eq_false k1
 by_cases k2:k=2
 ·have d2:decide (k=2)=true:=decide_eq_true k2
  obtain ⟨n,gn,ln⟩:=qvy [-1,100000,1000000000] j3 u3 (by decide)
  simp only [List.map_cons,List.map_nil]at gn
  have ix:=jq (k:=(29,0)) (e:=1) (xs:=[I (-1),I 100000,I 1000000000]) (i:=j3) (len:=3) (by omega) (by simp)
  refine ⟨i3,h3,.mk t.kind t.name n t.kids, ?_,p3,zJ (qfR (k:=0) (n:=n) w (by omega) (s:=[]) (by simp) (by omega)).2.2 (by decide)⟩
  rw [qK qb1 rfl]
  rw [qv]at b3 ⊢
  unfold CU at b1 b2 b3 ⊢
  simp only [go_sem,qa,qb,qc,qd,qe,qf,reduceCtorEq,Qg,qC,b1,b2,b3,d0,d1,d2,y3,ix,gn,tk,List.length_map]
 have d2:decide (k=2)=false:=decide_eq_false k2
 by_cases k3:k=3
 ·have d3:decide (k=3)=true:=decide_eq_true k3
  have lp:=quK bs i3 h3 y j4 u4 y4 (38+j4) 0 t (by omega)
  simp only [Int.natCast_zero]at lp
  refine ⟨i3,h3,jE (38+j4) t, ?_,p3,zJ (qo5 _ _ _ w) (by omega)⟩
  generalize jE (38+j4) t=u at lp ⊢
  have tku:(u.kids.map oT).take u.kids.length=u.kids.map oT:=List.take_of_length_le (by simp)
  rw [qK qb1 rfl]
  rw [qv]at b3 ⊢
  unfold CU at b1 b2 b3 ⊢
  simp only [go_sem,qa,qb,qc,qd,qe,qf,reduceCtorEq,Qg,qC,b1,b2,b3,d0,d1,d2,d3,lp,tk,tku,List.length_map]
 have d3:decide (k=3)=false:=decide_eq_false k3
 refine ⟨i3,h3,t, ?_,p3,zJ w (by decide)⟩
 rw [qK qb1 rfl]
 rw [qv]at b3 ⊢
 unfold CU at b1 b2 b3 ⊢
 simp only [go_sem,qa,qb,qc,qd,qe,qf,reduceCtorEq,Qg,qC,b1,b2,b3,d0,d1,d2,d3,tk,List.length_map]
theorem qpi(bs:List UInt8) (hl:bs.length≤2^40): ∃ t:Tm,cr qg qga [.i false (bs.map qY)]=some (oT t)∧Dr 200 t:=by
 obtain ⟨h,n⟩:=Jm bs hl
 obtain ⟨i1,h1,t,b1,p1,w⟩:=Yk bs hl 0 h (Nat.zero_le _)
 refine ⟨t, ?_,w⟩
 have tk:(t.kids.map oT).take t.kids.length=t.kids.map oT:=List.take_of_length_le (by simp)
 rw [qn qwL rfl]
 rw [qv]at b1 ⊢
 unfold CU at n b1
 simp only [Int.natCast_zero]at n b1
 simp only [go_sem,qa,qb,qc,qd,qe,qf,reduceCtorEq,X7,n,b1,tk,List.length_map]
end Go.Vm
namespace Go.Vm
open Go.Lib (itoa decDigits)
def Xe(m:Nat):Str:=if m=0 then []else decDigits m
theorem qqG {m:Nat} (h:m ≠ 0):Xe m=Xe (m / 10)++[UInt8.ofNat (48+m % 10)]:=by
 unfold Xe
 rw [if_neg h,decDigits]
 by_cases h1:m < 10
 ·rw [dif_pos h1,if_pos (by omega),Nat.mod_eq_of_lt h1];rfl
 ·rw [dif_neg h1,if_neg (by omega)]
theorem quI(d:Int) (h0:0≤d) (h1:d≤9):cr qg qgh [I d]=some (U8 (48+d)):=by
 rw [qn qw0 rfl]
 have h2:d < 10:=by omega
 have e4:w64 (48+d)=48+d:=by rw [qp]<;>omega
 have e5:IntKind.u8.wrap (48+d)=48+d:=by
  have:(48+d) % 256=48+d:=by omega
  exact this
 simp only [go_sem,qa,qb,qc,qd,qe,qf,reduceCtorEq,Kb,h2,e4,e5]
theorem qjl(b:Bool): ∀ (k:Nat) (n:Int) (s:Str),n.natAbs < 10^k→k≤19→ -9223372036854775808≤n→n≤9223372036854775807→s.length+k≤100→
 lw qg qaS ⟨[(0,I n),(3,B b),(4,S s)],[]⟩=some (.exit 0,⟨[(3,B b),(4,S (Xe n.natAbs++s))],[]⟩):=by
 intro k
 induction k with
 |zero=>
  intro n s h1 h2 h3 h4 h5
  obtain rfl:n=0:=by omega
  rw [show Xe (Int.natAbs 0)++s=s from rfl,qr]
  simp only [go_sem,qa,qb,qc,qd,qe,qf,reduceCtorEq,KY]
 |succ k ih=>
  intro n s h1 h2 h3 h4 h5
  by_cases h0:n=0
  ·subst h0
   rw [show Xe (Int.natAbs 0)++s=s from rfl,qr]
   simp only [go_sem,qa,qb,qc,qd,qe,qf,reduceCtorEq,KY]
  have d0:decide (n=0)=false:=decide_eq_false h0
  have e1:qo .rem (I n) (I 10)=_:=Z8 (by decide)
  have e2:qo .quo (I n) (I 10)=_:=qqb (by decide)
  have q1:(n.tdiv 10).natAbs=n.natAbs / 10:=Int.natAbs_tdiv n 10
  have r1:(n.tmod 10).natAbs=n.natAbs % 10:=Int.natAbs_tmod n 10
  have e3:w64 (n.tdiv 10)=n.tdiv 10:=by rw [qp]<;>omega
  have e4:w64 (n.tmod 10)=n.tmod 10:=by rw [qp]<;>omega
  have e5:w64 (0 - n.tmod 10)=0 - n.tmod 10:=by rw [qp]<;>omega
  have e6:jj [U8 (48+((n.natAbs % 10:Nat):Int))]=some [UInt8.ofNat (48+((n.natAbs % 10:Nat):Int)).toNat]:=rfl
  have e8:(48+((n.natAbs % 10:Nat):Int)).toNat=48+n.natAbs % 10:=by omega
  rw [e8]at e6
  have e7:qo .add (S [UInt8.ofNat (48+n.natAbs % 10)]) (S s)=_:=qw (by simp only [List.length_cons,List.length_nil];omega)
  have hp:n.natAbs / 10 < 10^k:=by rw [Nat.pow_succ]at h1;omega
  have ih1:=ih (n.tdiv 10) ([UInt8.ofNat (48+n.natAbs % 10)]++s) (by omega) (by omega) (by omega) (by omega) (by simp only [List.length_append,List.length_cons,List.length_nil];omega)
  rw [q1, ← List.append_assoc, ← qqG (show n.natAbs ≠ 0 by omega)]at ih1
  have f:=quI ((n.natAbs % 10:Nat):Int) (by omega) (by omega)
  rw [qr]
  by_cases hneg:n.tmod 10 < 0
  ·have e9:0 - n.tmod 10=((n.natAbs % 10:Nat):Int):=by omega
   rw [e9]at e5
   simp only [go_sem,qa,qb,qc,qd,qe,qf,reduceCtorEq,KY,d0,e1,e2,e3,e4,hneg,e9,e5,f,e6,e7]at ih1 ⊢
   exact ih1
  ·have e9:n.tmod 10=((n.natAbs % 10:Nat):Int):=by omega
   have e10: ¬ ((n.natAbs % 10:Nat):Int) < 0:=by omega
   rw [e9]at e1 e4
   simp only [go_sem,qa,qb,qc,qd,qe,qf,reduceCtorEq,KY,d0,e1,e2,e3,e4,e10,f,e6,e7]at ih1 ⊢
   exact ih1
theorem qla {m:Nat} (h:m ≠ 0):Xe m=decDigits m:=if_neg h
theorem qfw(n:Int) (h0: -9223372036854775808≤n) (h1:n≤9223372036854775807):cr qg KJ [I n]=some (S (itoa n)):=by
 rw [qn qwH rfl]
 by_cases hz:n=0
 ·subst hz
  have:itoa 0=[48]:=by unfold itoa;rw [if_neg (by decide),decDigits];rfl
  rw [this]
  simp only [go_sem,qa,qb,qc,qd,qe,qf,reduceCtorEq,ZH]
 have d0:decide (n=0)=false:=decide_eq_false hz
 by_cases hneg:n < 0
 ·have h:=qjl true 19 n [] (by omega) (by decide) h0 h1 (by decide)
  rw [List.append_nil,qla (by omega)]at h
  have hl:(decDigits n.natAbs).length < 2^62:=by
   have: ∀ (k m:Nat),m < 10^(k+1)→(decDigits m).length≤k+1:=by
    intro k
    induction k with
    |zero=>intro m hm;rw [decDigits,dif_pos (by omega)];simp
    |succ k ih=>
     intro m hm
     rw [decDigits]
     split
     ·simp
     ·rw [List.length_append]
      have:=ih (m / 10) (by rw [Nat.pow_succ]at hm;omega)
      simp only [List.length_cons,List.length_nil];omega
   have:=this 18 n.natAbs (by omega)
   omega
  have e7:qo .add (S [45]) (S (decDigits n.natAbs))=_:=qw (by simp only [List.length_cons,List.length_nil];omega)
  have hi:itoa n=[45]++decDigits n.natAbs:=by unfold itoa;rw [if_pos hneg];rfl
  rw [hi]
  simp only [go_sem,qa,qb,qc,qd,qe,qf,reduceCtorEq,ZH,d0,hneg,h,e7]
 ·have h:=qjl false 19 n [] (by omega) (by decide) h0 h1 (by decide)
  rw [List.append_nil,qla (by omega)]at h
  have hi:itoa n=decDigits n.natAbs:=by unfold itoa;rw [if_neg hneg,show n.toNat=n.natAbs by omega]
  rw [hi]
  simp only [go_sem,qa,qb,qc,qd,qe,qf,reduceCtorEq,ZH,d0,hneg,h]
theorem qlH(n:Int) (h0: -9223372036854775808≤n) (h1:n≤9223372036854775807):cr qg qan [I n]=some (S (itoa n)):=by
 rw [qn qvZ rfl]
 have h:=qqB qxO n h0 h1
 simp only [go_sem,qa,qb,qc,qd,qe,qf,reduceCtorEq,XL,h]
end Go.Vm
namespace Go.Vm
open Go.Lib (itoa decDigits)
@[go_sem] theorem qP8 {n:Nat} {a:Int}:qZ false n (I a) 0=some (I a):=(rfl)
@[go_sem] theorem qQa {n:Nat} {x:Str}:qZ false n (S x) 0=some (S x):=(rfl)
@[go_sem] theorem qQc {n:Nat} {a:Int}:qZ false n (U8 a) 0=some (U8 a):=(rfl)
def xl(n:Str):Nat→List Str→Int
 |_,[]=> -1
 |i,x::xs=>if n=x then (i:Int)else xl n (i+1) xs
theorem qlF(n:Str): ∀ (l:List Str) (i:Nat),(n ∈ l→(i:Int)≤xl n i l∧xl n i l < i+l.length)∧(n ∉ l→xl n i l= -1)
 |[],i=>⟨fun h=>(by cases h),fun _=>rfl⟩
 |x::xs,i=>by
  obtain ⟨h1,h2⟩:=qlF n xs (i+1)
  by_cases h:n=x
  ·subst h;simp [xl];omega
  ·simp only [xl,if_neg h,List.mem_cons,h,false_or,List.length_cons]
   exact ⟨fun hm=>by have:=h1 hm;omega,h2⟩
def qk8:List Str:=[[116,114,117,101,47,48],[102,97,105,108,47,48],[33,47,48],[44,47,50],[59,47,50],[45,62,47,50],[92,43,47,49],[99,97,108,108,47,49],[99,97,108,108,47,50],[99,97,108,108,47,51],[99,97,116,99,104,47,51],[116,104,114,111,119,47,49],[61,47,50],[92,61,47,50],[61,61,47,50],[105,115,47,50],[60,47,50],[61,58,61,47,50],[118,97,114,47,49],[97,116,111,109,47,49],[119,114,105,116,101,47,49],[97,115,115,101,114,116,122,47,49],[114,101,116,114,97,99,116,47,49],[58,45,47,50],[58,45,47,49],[45,45,62,47,50]]
def zO(p:Str):Bool:=decide (p ∈ qk8)
theorem qzC(p:Str):cr qg qf3 [S p]=some (B (zO p)):=by
 rw [qn qwF rfl]
 by_cases h0:p=[116,114,117,101,47,48]
 ·have hc:zO p=true:=by rw [h0];decide
  rw [hc]
  have d0:decide (p=[116,114,117,101,47,48])=true:=decide_eq_true h0
  clear hc h0
  simp only [go_sem,qa,qb,qc,qd,qe,qf,reduceCtorEq,zF,d0]
 have d0:decide (p=[116,114,117,101,47,48])=false:=decide_eq_false h0
 by_cases h1:p=[102,97,105,108,47,48]
 ·have hc:zO p=true:=by rw [h1];decide
  rw [hc]
  have d1:decide (p=[102,97,105,108,47,48])=true:=decide_eq_true h1
  clear hc h1
  simp only [go_sem,qa,qb,qc,qd,qe,qf,reduceCtorEq,zF,d0,d1]
 have d1:decide (p=[102,97,105,108,47,48])=false:=decide_eq_false h1
 by_cases h2:p=[33,47,48]
 ·have hc:zO p=true:=by rw [h2];decide
  rw [hc]
  have d2:decide (p=[33,47,48])=true:=decide_eq_true h2
  clear hc h2
  simp only [go_sem,qa,qb,qc,qd,qe,qf,reduceCtorEq,zF,d0,d1,d2]
 have d2:decide (p=[33,47,48])=false:=decide_eq_false h2
 by_cases h3:p=[44,47,50]
 ·have hc:zO p=true:=by rw [h3];decide
  rw [hc]
  have d3:decide (p=[44,47,50])=true:=decide_eq_true h3
  clear hc h3
  simp only [go_sem,qa,qb,qc,qd,qe,qf,reduceCtorEq,zF,d0,d1,d2,d3]
 have d3:decide (p=[44,47,50])=false:=decide_eq_false h3
 by_cases h4:p=[59,47,50]
 ·have hc:zO p=true:=by rw [h4];decide
  rw [hc]
  have d4:decide (p=[59,47,50])=true:=decide_eq_true h4
  clear hc h4
  simp only [go_sem,qa,qb,qc,qd,qe,qf,reduceCtorEq,zF,d0,d1,d2,d3,d4]
 have d4:decide (p=[59,47,50])=false:=decide_eq_false h4
 by_cases h5:p=[45,62,47,50]
 ·have hc:zO p=true:=by rw [h5];decide
  rw [hc]
  have d5:decide (p=[45,62,47,50])=true:=decide_eq_true h5
  clear hc h5
  simp only [go_sem,qa,qb,qc,qd,qe,qf,reduceCtorEq,zF,d0,d1,d2,d3,d4,d5]
 have d5:decide (p=[45,62,47,50])=false:=decide_eq_false h5
 by_cases h6:p=[92,43,47,49]
 ·have hc:zO p=true:=by rw [h6];decide
  rw [hc]
  have d6:decide (p=[92,43,47,49])=true:=decide_eq_true h6
  clear hc h6
  simp only [go_sem,qa,qb,qc,qd,qe,qf,reduceCtorEq,zF,d0,d1,d2,d3,d4,d5,d6]
 have d6:decide (p=[92,43,47,49])=false:=decide_eq_false h6
 by_cases h7:p=[99,97,108,108,47,49]
 ·have hc:zO p=true:=by rw [h7];decide
  rw [hc]
  have d7:decide (p=[99,97,108,108,47,49])=true:=decide_eq_true h7
  clear hc h7
  simp only [go_sem,qa,qb,qc,qd,qe,qf,reduceCtorEq,zF,d0,d1,d2,d3,d4,d5,d6,d7]
 have d7:decide (p=[99,97,108,108,47,49])=false:=decide_eq_false h7
 by_cases h8:p=[99,97,108,108,47,50]
 ·have hc:zO p=true:=by rw [h8];decide
  rw [hc]
  have d8:decide (p=[99,97,108,108,47,50])=true:=decide_eq_true h8
  clear hc h8
  simp only [go_sem,qa,qb,qc,qd,qe,qf,reduceCtorEq,zF,d0,d1,d2,d3,d4,d5,d6,d7,d8]
 have d8:decide (p=[99,97,108,108,47,50])=false:=decide_eq_false h8
 by_cases h9:p=[99,97,108,108,47,51]
 ·have hc:zO p=true:=by rw [h9];decide
  rw [hc]
  have d9:decide (p=[99,97,108,108,47,51])=true:=decide_eq_true h9
  clear hc h9
  simp only [go_sem,qa,qb,qc,qd,qe,qf,reduceCtorEq,zF,d0,d1,d2,d3,d4,d5,d6,d7,d8,d9]
 have d9:decide (p=[99,97,108,108,47,51])=false:=decide_eq_false h9
 by_cases h10:p=[99,97,116,99,104,47,51]
 ·have hc:zO p=true:=by rw [h10];decide
  rw [hc]
  have d10:decide (p=[99,97,116,99,104,47,51])=true:=decide_eq_true h10
  clear hc h10
  simp only [go_sem,qa,qb,qc,qd,qe,qf,reduceCtorEq,zF,d0,d1,d2,d3,d4,d5,d6,d7,d8,d9,d10]
 have d10:decide (p=[99,97,116,99,104,47,51])=false:=decide_eq_false h10
 by_cases h11:p=[116,104,114,111,119,47,49]
 ·have hc:zO p=true:=by rw [h11];decide
  rw [hc]
  have d11:decide (p=[116,104,114,111,119,47,49])=true:=decide_eq_true h11
  clear hc h11
  simp only [go_sem,qa,qb,qc,qd,qe,qf,reduceCtorEq,zF,d0,d1,d2,d3,d4,d5,d6,d7,d8,d9,d10,d11]
 have d11:decide (p=[116,104,114,111,119,47,49])=false:=decide_eq_false h11
 by_cases h12:p=[61,47,50]
 ·have hc:zO p=true:=by rw [h12];decide
  rw [hc]
  have d12:decide (p=[61,47,50])=true:=decide_eq_true h12
  clear hc h12
  simp only [go_sem,qa,qb,qc,qd,qe,qf,reduceCtorEq,zF,d0,d1,d2,d3,d4,d5,d6,d7,d8,d9,d10,d11,d12]
 have d12:decide (p=[61,47,50])=false:=decide_eq_false h12
 by_cases h13:p=[92,61,47,50]
 ·have hc:zO p=true:=by rw [h13];decide
  rw [hc]
  have d13:decide (p=[92,61,47,50])=true:=decide_eq_true h13
  clear hc h13
  simp only [go_sem,qa,qb,qc,qd,qe,qf,reduceCtorEq,zF,d0,d1,d2,d3,d4,d5,d6,d7,d8,d9,d10,d11,d12,d13]
 have d13:decide (p=[92,61,47,50])=false:=decide_eq_false h13
 by_cases h14:p=[61,61,47,50]
 ·have hc:zO p=true:=by rw [h14];decide
  rw [hc]
  have d14:decide (p=[61,61,47,50])=true:=decide_eq_true h14
  clear hc h14
  simp only [go_sem,qa,qb,qc,qd,qe,qf,reduceCtorEq,zF,d0,d1,d2,d3,d4,d5,d6,d7,d8,d9,d10,d11,d12,d13,d14]
 have d14:decide (p=[61,61,47,50])=false:=decide_eq_false h14
 by_cases h15:p=[105,115,47,50]
 ·have hc:zO p=true:=by rw [h15];decide
  rw [hc]
  have d15:decide (p=[105,115,47,50])=true:=decide_eq_true h15
  clear hc h15
  simp only [go_sem,qa,qb,qc,qd,qe,qf,reduceCtorEq,zF,d0,d1,d2,d3,d4,d5,d6,d7,d8,d9,d10,d11,d12,d13,d14,d15]
 have d15:decide (p=[105,115,47,50])=false:=decide_eq_false h15
 by_cases h16:p=[60,47,50]
 ·have hc:zO p=true:=by rw [h16];decide
  rw [hc]
  have d16:decide (p=[60,47,50])=true:=decide_eq_true h16
  clear hc h16
  simp only [go_sem,qa,qb,qc,qd,qe,qf,reduceCtorEq,zF,d0,d1,d2,d3,d4,d5,d6,d7,d8,d9,d10,d11,d12,d13,d14,d15,d16]
 have d16:decide (p=[60,47,50])=false:=decide_eq_false h16
 by_cases h17:p=[61,58,61,47,50]
 ·have hc:zO p=true:=by rw [h17];decide
  rw [hc]
  have d17:decide (p=[61,58,61,47,50])=true:=decide_eq_true h17
  clear hc h17
  simp only [go_sem,qa,qb,qc,qd,qe,qf,reduceCtorEq,zF,d0,d1,d2,d3,d4,d5,d6,d7,d8,d9,d10,d11,d12,d13,d14,d15,d16,d17]
 have d17:decide (p=[61,58,61,47,50])=false:=decide_eq_false h17
 by_cases h18:p=[118,97,114,47,49]
 ·have hc:zO p=true:=by rw [h18];decide
  rw [hc]
  have d18:decide (p=[118,97,114,47,49])=true:=decide_eq_true h18
  clear hc h18
  simp only [go_sem,qa,qb,qc,qd,qe,qf,reduceCtorEq,zF,d0,d1,d2,d3,d4,d5,d6,d7,d8,d9,d10,d11,d12,d13,d14,d15,d16,d17,d18]
 have d18:decide (p=[118,97,114,47,49])=false:=decide_eq_false h18
 by_cases h19:p=[97,116,111,109,47,49]
 ·have hc:zO p=true:=by rw [h19];decide
  rw [hc]
  have d19:decide (p=[97,116,111,109,47,49])=true:=decide_eq_true h19
  clear hc h19
  simp only [go_sem,qa,qb,qc,qd,qe,qf,reduceCtorEq,zF,d0,d1,d2,d3,d4,d5,d6,d7,d8,d9,d10,d11,d12,d13,d14,d15,d16,d17,d18,d19]
 have d19:decide (p=[97,116,111,109,47,49])=false:=decide_eq_false h19
 by_cases h20:p=[119,114,105,116,101,47,49]
 ·have hc:zO p=true:=by rw [h20];decide
  rw [hc]
  have d20:decide (p=[119,114,105,116,101,47,49])=true:=decide_eq_true h20
  clear hc h20
  simp only [go_sem,qa,qb,qc,qd,qe,qf,reduceCtorEq,zF,d0,d1,d2,d3,d4,d5,d6,d7,d8,d9,d10,d11,d12,d13,d14,d15,d16,d17,d18,d19,d20]
 have d20:decide (p=[119,114,105,116,101,47,49])=false:=decide_eq_false h20
 by_cases h21:p=[97,115,115,101,114,116,122,47,49]
 ·have hc:zO p=true:=by rw [h21];decide
  rw [hc]
  have d21:decide (p=[97,115,115,101,114,116,122,47,49])=true:=decide_eq_true h21
  clear hc h21
  simp only [go_sem,qa,qb,qc,qd,qe,qf,reduceCtorEq,zF,d0,d1,d2,d3,d4,d5,d6,d7,d8,d9,d10,d11,d12,d13,d14,d15,d16,d17,d18,d19,d20,d21]
 have d21:decide (p=[97,115,115,101,114,116,122,47,49])=false:=decide_eq_false h21
 by_cases h22:p=[114,101,116,114,97,99,116,47,49]
 ·have hc:zO p=true:=by rw [h22];decide
  rw [hc]
  have d22:decide (p=[114,101,116,114,97,99,116,47,49])=true:=decide_eq_true h22
  clear hc h22
  simp only [go_sem,qa,qb,qc,qd,qe,qf,reduceCtorEq,zF,d0,d1,d2,d3,d4,d5,d6,d7,d8,d9,d10,d11,d12,d13,d14,d15,d16,d17,d18,d19,d20,d21,d22]
 have d22:decide (p=[114,101,116,114,97,99,116,47,49])=false:=decide_eq_false h22
 by_cases h23:p=[58,45,47,50]
 ·have hc:zO p=true:=by rw [h23];decide
  rw [hc]
  have d23:decide (p=[58,45,47,50])=true:=decide_eq_true h23
  clear hc h23
  simp only [go_sem,qa,qb,qc,qd,qe,qf,reduceCtorEq,zF,d0,d1,d2,d3,d4,d5,d6,d7,d8,d9,d10,d11,d12,d13,d14,d15,d16,d17,d18,d19,d20,d21,d22,d23]
 have d23:decide (p=[58,45,47,50])=false:=decide_eq_false h23
 by_cases h24:p=[58,45,47,49]
 ·have hc:zO p=true:=by rw [h24];decide
  rw [hc]
  have d24:decide (p=[58,45,47,49])=true:=decide_eq_true h24
  clear hc h24
  simp only [go_sem,qa,qb,qc,qd,qe,qf,reduceCtorEq,zF,d0,d1,d2,d3,d4,d5,d6,d7,d8,d9,d10,d11,d12,d13,d14,d15,d16,d17,d18,d19,d20,d21,d22,d23,d24]
 have d24:decide (p=[58,45,47,49])=false:=decide_eq_false h24
 by_cases h25:p=[45,45,62,47,50]
 ·have hc:zO p=true:=by rw [h25];decide
  rw [hc]
  have d25:decide (p=[45,45,62,47,50])=true:=decide_eq_true h25
  clear hc h25
  simp only [go_sem,qa,qb,qc,qd,qe,qf,reduceCtorEq,zF,d0,d1,d2,d3,d4,d5,d6,d7,d8,d9,d10,d11,d12,d13,d14,d15,d16,d17,d18,d19,d20,d21,d22,d23,d24,d25]
 have d25:decide (p=[45,45,62,47,50])=false:=decide_eq_false h25
 have hc:zO p=false:=decide_eq_false (by simp only [qk8,List.mem_cons,List.not_mem_nil,or_false,h0,h1,h2,h3,h4,h5,h6,h7,h8,h9,h10,h11,h12,h13,h14,h15,h16,h17,h18,h19,h20,h21,h22,h23,h24,h25,or_self,not_false_eq_true])
 rw [hc]
 simp only [go_sem,qa,qb,qc,qd,qe,qf,reduceCtorEq,zF,d0,d1,d2,d3,d4,d5,d6,d7,d8,d9,d10,d11,d12,d13,d14,d15,d16,d17,d18,d19,d20,d21,d22,d23,d24,d25]
theorem qqF: ∀ (k m:Nat),m < 10^(k+1)→(decDigits m).length≤k+1:=by
 intro k
 induction k with
 |zero=>intro m hm;rw [decDigits,dif_pos (by omega)];simp
 |succ k ih=>
  intro m hm
  rw [decDigits]
  split
  ·simp
  ·rw [List.length_append]
   have:=ih (m / 10) (by rw [Nat.pow_succ]at hm;omega)
   simp only [List.length_cons,List.length_nil];omega
theorem Jj(n:Int) (h0: -9223372036854775808≤n) (h1:n≤9223372036854775807):(itoa n).length≤20:=by
 unfold itoa
 have:=qqF 18 n.natAbs (by omega)
 split
 ·simp only [List.length_cons];omega
 ·rw [show n.toNat=n.natAbs by omega];omega
def Jw(t:Tm):Str:=if t.kind=2∨t.kind=4 then t.name++[47]++itoa t.kids.length else []
theorem qzF(t:Tm) (hw:WT t) (v:V) (hb:BT t v):cr qg qgf [v]=some (S (Jw t)):=by
 obtain ⟨τ,vs,rfl,hv⟩:=qy hb
 have hl:=zk hv
 have hlen:=Qw hw
 have hnm:=qbv hw
 unfold Lm at hlen hnm
 have hd:=qfw t.kids.length (by omega) (by omega)
 have e7:qo .add (S t.name) (S [47])=_:=qw (by simp only [List.length_cons,List.length_nil];omega)
 have e8:qo .add (S (t.name++[47])) (S (itoa t.kids.length))=_:=qw (by have:=Jj t.kids.length (by omega) (by omega);simp only [List.length_append,List.length_cons,List.length_nil];omega)
 rw [qn qwQ rfl]
 unfold Jw
 by_cases k2:t.kind=2
 ·have d2:decide (t.kind=2)=true:=decide_eq_true k2
  rw [if_pos (.inl k2)]
  simp only [go_sem,qa,qb,qc,qd,qe,qf,reduceCtorEq,ZJ,d2,hl,hd,e7,e8]
 have d2:decide (t.kind=2)=false:=decide_eq_false k2
 by_cases k4:t.kind=4
 ·have d4:decide (t.kind=4)=true:=decide_eq_true k4
  rw [if_pos (.inr k4)]
  simp only [go_sem,qa,qb,qc,qd,qe,qf,reduceCtorEq,ZJ,d2,d4,hl,hd,e7,e8]
 have d4:decide (t.kind=4)=false:=decide_eq_false k4
 rw [if_neg (by rintro (h|h)<;>contradiction)]
 simp only [go_sem,qa,qb,qc,qd,qe,qf,reduceCtorEq,ZJ,d2,d4]
end Go.Vm
namespace Go.Vm
open Go.Lib (itoa decDigits indexByte)
def ko:Str:=[43,45,42,47,92,94,60,62,61,126,58,46,63,64,35,38,36]
def zc(c:UInt8):Bool:=decide (c ∈ ko)
theorem K8 {c d:UInt8}:((c.toNat:Int)=d.toNat)=(c=d):=by
 apply propext
 constructor
 ·intro h
  have:c.toNat=d.toNat:=by omega
  exact UInt8.toNat_inj.1 this
 ·rintro rfl;rfl
theorem qpU(c:UInt8):
 lw qg KR ⟨[(0,U8 c.toNat),(3,S ko),(4,I (0:Nat))],[]⟩=if c ∈ ko then some (.ret,⟨[(2,B true)],[]⟩)else some (.exit 0,⟨[],[]⟩):=by
 refine Xg ko (fun i r=>lw qg KR ⟨[(0,U8 c.toNat),(3,S ko),(4,I i)],[]⟩=if c ∈ r then some (.ret,⟨[(2,B true)],[]⟩)else some (.exit 0,⟨[],[]⟩)) (by decide) ?_ ?_
 ·rw [qr]
  simp only [go_sem,qa,qb,qc,qd,qe,qf,reduceCtorEq,qbh,List.not_mem_nil]
 ·intro i t r ht hi hlt e1 hir hm hr ih
  have ix:=yn (l:=ko) (i:=(i:Int)) (c:=t) (by omega) (by simpa using ht)
  rw [qr]
  by_cases he:t=c
  ·have d:decide ((t.toNat:Int)=c.toNat)=true:=decide_eq_true (by rw [he])
   rw [if_pos (by rw [he];exact List.mem_cons_self)]
   simp only [go_sem,qa,qb,qc,qd,qe,qf,reduceCtorEq,qbh,hlt,ix,e1,d]
  ·have d:decide ((t.toNat:Int)=c.toNat)=false:=decide_eq_false (by rw [K8];exact he)
   have hmm:(c ∈ t::r)=(c ∈ r):=by
    have: ¬ c=t:=fun h=>he h.symm
    simp only [List.mem_cons,this,false_or]
   simp only [hmm]
   simp only [go_sem,qa,qb,qc,qd,qe,qf,reduceCtorEq,qbh,hlt,ix,e1,d]
   exact ih
theorem qiQ(c:UInt8):cr qg qaz [U8 c.toNat]=some (B (zc c)):=by
 rw [qn qwV rfl]
 have h:=qpU c
 simp only [Int.natCast_zero]at h
 unfold zc
 by_cases hm:c ∈ ko
 ·rw [if_pos hm]at h
  rw [decide_eq_true hm]
  unfold ko at h
  simp only [go_sem,qa,qb,qc,qd,qe,qf,reduceCtorEq,YL,h]
 ·rw [if_neg hm]at h
  rw [decide_eq_false hm]
  unfold ko at h
  simp only [go_sem,qa,qb,qc,qd,qe,qf,reduceCtorEq,YL,h]
theorem qhw(l:Str) (c:UInt8):0≤indexByte l c↔c ∈ l:=by
 induction l with
 |nil=>simp [indexByte]
 |cons b l ih=>
  unfold indexByte
  by_cases h:b=c
  ·simp [h]
  ·have h1:(b==c)=false:=by simpa using h
   have h2: ¬ c=b:=fun e=>h e.symm
   have:=Go.Lib.indexByte_ge l c
   rw [h1]
   simp only [Bool.false_eq_true,if_false,List.mem_cons,h2,false_or]
   by_cases h3:indexByte l c= -1
   ·have h4: ¬ c ∈ l:=fun hm=>by have:=ih.2 hm;omega
    simp only [h3,beq_self_eq_true,if_true,h4,iff_false];omega
   ·have h5:(indexByte l c== -1)=false:=by simpa using h3
    rw [h5]
    simp only [Bool.false_eq_true,if_false]
    rw [← ih]
    omega
theorem qeG(l:Str) (c:UInt8):cr qg qaJ [S l,U8 c.toNat]=some (I (indexByte l c)):=by
 have h:=qqC qxP l c.toNat
 have:(c.toNat:Int).toNat.toUInt8=c:=by simp
 rw [this]at h
 exact h
theorem qhp(c:UInt8):cr qg KG [U8 c.toNat]=some (B (zc c)):=by
 rw [qn qv6 rfl]
 have h:=qeG ko c
 have hd:decide (0≤indexByte ko c)=zc c:=decide_eq_decide.2 (qhw ko c)
 unfold ko at h hd
 simp only [go_sem,qa,qb,qc,qd,qe,qf,reduceCtorEq,XO,h,hd]
end Go.Vm
namespace Go.Vm
def inB(lo hi:Int) (c:UInt8):Bool:=decide (lo≤(c.toNat:Int))&&decide ((c.toNat:Int)≤hi)
def isB(n:Int) (c:UInt8):Bool:=decide ((c.toNat:Int)=n)
def yE(c:UInt8):Bool:=inB 65 90 c||isB 95 c
def zI(c:UInt8):Bool:=inB 97 122 c||yE c||inB 48 57 c
def kR(c:UInt8):Bool:=isB 32 c||isB 9 c||isB 10 c
theorem ql9(c:UInt8):cr qg qdK [U8 c.toNat]=some (B (inB 97 122 c)):=by
 rw [qn qxl rfl]
 unfold inB
 by_cases h1:(97:Int)≤(c.toNat:Int)
 ·rw [decide_eq_true h1,Bool.true_and]
  by_cases h2:(c.toNat:Int)≤122
  ·rw [decide_eq_true h2];simp only [go_sem,qa,qb,qc,qd,qe,qf,reduceCtorEq,ZM,h1,h2]
  ·rw [decide_eq_false h2];simp only [go_sem,qa,qb,qc,qd,qe,qf,reduceCtorEq,ZM,h1,h2]
 ·rw [decide_eq_false h1,Bool.false_and];simp only [go_sem,qa,qb,qc,qd,qe,qf,reduceCtorEq,ZM,h1]
theorem qlM(c:UInt8):cr qg qas [U8 c.toNat]=some (B (inB 97 122 c)):=by
 rw [qn qwj rfl]
 unfold inB
 by_cases h1:(97:Int)≤(c.toNat:Int)
 ·rw [decide_eq_true h1,Bool.true_and]
  by_cases h2:(c.toNat:Int)≤122
  ·rw [decide_eq_true h2];simp only [go_sem,qa,qb,qc,qd,qe,qf,reduceCtorEq,ZE,h1,h2]
  ·rw [decide_eq_false h2];simp only [go_sem,qa,qb,qc,qd,qe,qf,reduceCtorEq,ZE,h1,h2]
 ·rw [decide_eq_false h1,Bool.false_and];simp only [go_sem,qa,qb,qc,qd,qe,qf,reduceCtorEq,ZE,h1]
theorem qlO(c:UInt8):cr qg qdy [U8 c.toNat]=some (B (inB 65 90 c)):=by
 rw [qn qwv rfl]
 unfold inB
 by_cases h1:(65:Int)≤(c.toNat:Int)
 ·rw [decide_eq_true h1,Bool.true_and]
  by_cases h2:(c.toNat:Int)≤90
  ·rw [decide_eq_true h2];simp only [go_sem,qa,qb,qc,qd,qe,qf,reduceCtorEq,ZF,h1,h2]
  ·rw [decide_eq_false h2];simp only [go_sem,qa,qb,qc,qd,qe,qf,reduceCtorEq,ZF,h1,h2]
 ·rw [decide_eq_false h1,Bool.false_and];simp only [go_sem,qa,qb,qc,qd,qe,qf,reduceCtorEq,ZF,h1]
theorem qhB(c:UInt8):cr qg qaF [U8 c.toNat]=some (B (inB 48 57 c)):=by
 rw [qn qxg rfl]
 unfold inB
 by_cases h1:(48:Int)≤(c.toNat:Int)
 ·rw [decide_eq_true h1,Bool.true_and]
  by_cases h2:(c.toNat:Int)≤57
  ·rw [decide_eq_true h2];simp only [go_sem,qa,qb,qc,qd,qe,qf,reduceCtorEq,ZK,h1,h2]
  ·rw [decide_eq_false h2];simp only [go_sem,qa,qb,qc,qd,qe,qf,reduceCtorEq,ZK,h1,h2]
 ·rw [decide_eq_false h1,Bool.false_and];simp only [go_sem,qa,qb,qc,qd,qe,qf,reduceCtorEq,ZK,h1]
theorem qhs(c:UInt8):cr qg KH [U8 c.toNat]=some (B (inB 48 57 c)):=by
 rw [qn qwd rfl]
 unfold inB
 by_cases h1:(48:Int)≤(c.toNat:Int)
 ·rw [decide_eq_true h1,Bool.true_and]
  by_cases h2:(c.toNat:Int)≤57
  ·rw [decide_eq_true h2];simp only [go_sem,qa,qb,qc,qd,qe,qf,reduceCtorEq,ZD,h1,h2]
  ·rw [decide_eq_false h2];simp only [go_sem,qa,qb,qc,qd,qe,qf,reduceCtorEq,ZD,h1,h2]
 ·rw [decide_eq_false h1,Bool.false_and];simp only [go_sem,qa,qb,qc,qd,qe,qf,reduceCtorEq,ZD,h1]
theorem ql8(c:UInt8):cr qg qaG [U8 c.toNat]=some (B (yE c)):=by
 rw [qn qxh rfl]
 unfold yE inB isB
 cases h3:decide ((c.toNat:Int)=95)<;>
 by_cases h1:(65:Int)≤(c.toNat:Int)<;>by_cases h2:(c.toNat:Int)≤90<;>
 simp only [decide_eq_true_eq,h1,h2,decide_true,decide_false,Bool.true_and,Bool.false_and,Bool.and_true,Bool.and_false,Bool.or_true,Bool.or_false]<;>
 simp only [go_sem,qa,qb,qc,qd,qe,qf,reduceCtorEq,Ko,h1,h2,h3]
theorem qhA(c:UInt8):cr qg qdJ [U8 c.toNat]=some (B (kR c)):=by
 rw [qn qxe rfl]
 unfold kR isB
 cases h1:decide ((c.toNat:Int)=32)<;>cases h2:decide ((c.toNat:Int)=9)<;>cases h3:decide ((c.toNat:Int)=10)<;>
 simp only [Bool.or_true,Bool.or_false]<;>simp only [go_sem,qa,qb,qc,qd,qe,qf,reduceCtorEq,Kn,h1,h2,h3]
theorem quZ(c:UInt8):cr qg qgo [U8 c.toNat]=some (B (zI c)):=by
 rw [qn qxm rfl]
 have e1:=ql9 c
 have e2:=ql8 c
 have e3:=qhB c
 unfold zI
 cases h1:inB 97 122 c<;>cases h2:yE c<;>rw [h1]at e1<;>rw [h2]at e2<;>
 simp only [Bool.or_true,Bool.or_false,Bool.true_or,Bool.false_or]<;>simp only [go_sem,qa,qb,qc,qd,qe,qf,reduceCtorEq,Kq,e1,e2,e3]
theorem qrj(c:UInt8):cr qg qdz [U8 c.toNat]=some (B (zI c)):=by
 rw [qn qwx rfl]
 have e1:=qlM c
 have e2:=qlO c
 have e3:=qhs c
 unfold zI yE isB
 cases h1:inB 97 122 c<;>cases h2:inB 65 90 c<;>cases h3:inB 48 57 c<;>cases h4:decide ((c.toNat:Int)=95)<;>rw [h1]at e1<;>rw [h2]at e2<;>rw [h3]at e3<;>
 simp only [Bool.or_true,Bool.or_false,Bool.true_or,Bool.false_or]<;>simp only [go_sem,qa,qb,qc,qd,qe,qf,reduceCtorEq,X1,e1,e2,e3,h4]
end Go.Vm
namespace Go.Vm
def pre(p:UInt8→Bool):Str→Nat
 |[]=>0
 |c::r=>if p c=true then pre p r+1 else 0
theorem qnj(p:UInt8→Bool): ∀ s,pre p s≤s.length
 |[]=>Nat.le_refl _
 |c::r=>by have:=qnj p r;simp only [pre,List.length_cons];split<;>omega
theorem quW(s:Str) (hl:s.length≤2^61) (m:Nat): ∀ i,i+m=s.length→
 lw qg qa1 ⟨[(0,S s),(1,I i)],[]⟩=some (.exit 0,⟨[(1,I ((i+pre zI (s.drop i):Nat):Int))],[]⟩):=by
 induction m with
 |zero=>
  intro i hi
  rw [List.drop_eq_nil_of_le (by omega),qr]
  have h: ¬ (i:Int) < s.length:=by omega
  simp only [go_sem,qa,qb,qc,qd,qe,qf,reduceCtorEq,qbm,h,pre]
 |succ m ih=>
  intro i hi
  have h:(i:Int) < s.length:=by omega
  obtain ⟨c,hc⟩:=zm (l:=s) (i:=i) (by omega)
  have ix:=yn (l:=s) (i:=(i:Int)) (c:=c) (by omega) (by simpa using hc)
  have w:=quZ c
  have e1:w64 ((i:Int)+1)=((i+1:Nat):Int):=by rw [qp]<;>omega
  rw [y1 hc,qr,pre]
  cases hw:zI c with
  |true=>
   rw [hw]at w
   have i1:=ih (i+1) (by omega)
   rw [if_pos rfl,show i+(pre zI (s.drop (i+1))+1)=i+1+pre zI (s.drop (i+1))by omega]
   simp only [go_sem,qa,qb,qc,qd,qe,qf,reduceCtorEq,qbm,h,ix,w,e1]
   exact i1
  |false=>
   rw [hw]at w
   rw [if_neg (by decide)]
   simp only [go_sem,qa,qb,qc,qd,qe,qf,reduceCtorEq,qbm,h,ix,w,e1]
theorem quX(s:Str) (hl:s.length≤2^61) (i:Nat) (hi:i≤s.length):cr qg qgm [S s,I i]=some (I ((i+pre zI (s.drop i):Nat):Int)):=by
 rw [qn qxj rfl]
 have h:=quW s hl (s.length - i) i (by omega)
 simp only [go_sem,qa,qb,qc,qd,qe,qf,reduceCtorEq,Kp,h]
theorem qyG(p:UInt8→Bool) (g:Nat) (hg: ∀ c,cr qg g [U8 c.toNat]=some (B (p c))) (s:Str) (hl:s.length≤2^61) (m:Nat): ∀ i,i+m=s.length→
 lw qg qaO ⟨[(0,S s),(1,I i),(2,Fc g)],[]⟩=some (.exit 0,⟨[(1,I ((i+pre p (s.drop i):Nat):Int))],[]⟩):=by
 induction m with
 |zero=>
  intro i hi
  rw [List.drop_eq_nil_of_le (by omega),qr]
  have h: ¬ (i:Int) < s.length:=by omega
  simp only [go_sem,qa,qb,qc,qd,qe,qf,reduceCtorEq,qbd,h,pre]
 |succ m ih=>
  intro i hi
  have h:(i:Int) < s.length:=by omega
  obtain ⟨c,hc⟩:=zm (l:=s) (i:=i) (by omega)
  have ix:=yn (l:=s) (i:=(i:Int)) (c:=c) (by omega) (by simpa using hc)
  have w:=hg c
  have e1:w64 ((i:Int)+1)=((i+1:Nat):Int):=by rw [qp]<;>omega
  rw [y1 hc,qr,pre]
  cases hw:p c with
  |true=>
   rw [hw]at w
   have i1:=ih (i+1) (by omega)
   rw [if_pos rfl,show i+(pre p (s.drop (i+1))+1)=i+1+pre p (s.drop (i+1))by omega]
   simp only [go_sem,qa,qb,qc,qd,qe,qf,reduceCtorEq,qbd,h,ix,w,e1]
   exact i1
  |false=>
   rw [hw]at w
   rw [if_neg (by decide)]
   simp only [go_sem,qa,qb,qc,qd,qe,qf,reduceCtorEq,qbd,h,ix,w,e1]
theorem qci(p:UInt8→Bool) (g:Nat) (hg: ∀ c,cr qg g [U8 c.toNat]=some (B (p c))) (s:Str) (hl:s.length≤2^61) (i:Nat) (hi:i≤s.length):cr qg Y1 [S s,I i,Fc g]=some (I ((i+pre p (s.drop i):Nat):Int)):=by
 rw [qn qwr rfl]
 have h:=qyG p g hg s hl (s.length - i) i (by omega)
 simp only [go_sem,qa,qb,qc,qd,qe,qf,reduceCtorEq,XY,h]
end Go.Vm
namespace Go.Vm
open Go.Lib (indexByte)
def qb4(s:Str) (i:Nat):Bool:=match i with
 |0=>true
 |j+1=> !zc (s.getD j 0)
def Zr:Option UInt8→Bool
 |none=>true
 |some d=>kR d||isB 37 d
def jU(s:Str) (i:Nat) (c:UInt8):Bool:=isB 46 c&&(qb4 s i&&Zr s[i+1]?)
theorem qkx(d:UInt8):decide (0≤indexByte [32,9,10,37] d)=(kR d||isB 37 d):=by
 have h:=qhw [32,9,10,37] d
 have e1:=K8 (c:=d) (d:=32)
 have e2:=K8 (c:=d) (d:=9)
 have e3:=K8 (c:=d) (d:=10)
 have e4:=K8 (c:=d) (d:=37)
 have f1:((32:UInt8).toNat:Int)=32:=rfl
 have f2:((9:UInt8).toNat:Int)=9:=rfl
 have f3:((10:UInt8).toNat:Int)=10:=rfl
 have f4:((37:UInt8).toNat:Int)=37:=rfl
 rw [f1]at e1;rw [f2]at e2;rw [f3]at e3;rw [f4]at e4
 unfold kR isB
 rw [Bool.eq_iff_iff]
 simp only [decide_eq_true_eq,h,Bool.or_eq_true,e1,e2,e3,e4,List.mem_cons,List.not_mem_nil,or_false,or_assoc]
theorem quT(s:Str) (hl:s.length≤2^61) (i:Nat) (c:UInt8) (hc:s[i]? =some c):cr qg qgk [S s,I i]=some (B (jU s i c)):=by
 have hi:i < s.length:=(List.getElem?_eq_some_iff.1 hc).1
 have ix:=yn (l:=s) (i:=(i:Int)) (c:=c) (by omega) (by simpa using hc)
 have e1:w64 ((i:Int)+1)=((i+1:Nat):Int):=by rw [qp]<;>omega
 rw [qn qxf rfl]
 unfold jU
 cases h46:isB 46 c with
 |false=>
  unfold isB at h46
  simp only [go_sem,qa,qb,qc,qd,qe,qf,reduceCtorEq,kL,ix,h46,Bool.false_and]
 |true=>
 unfold isB at h46
 have hnext: ∀ (b:Bool),True:=fun _=>trivial
 cases i with
 |zero=>
  rw [qb4,Bool.true_and,Bool.true_and]
  have z:w64 ((0:Int)+1)=1:=rfl
  by_cases hn:s.length=1
  ·have d:decide ((1:Int)=s.length)=true:=decide_eq_true (by omega)
   have:s[0+1]? =none:=List.getElem?_eq_none (by omega)
   rw [this,Zr]
   simp only [Int.natCast_zero]at ix
   simp only [go_sem,qa,qb,qc,qd,qe,qf,reduceCtorEq,kL,ix,h46,z,d]
  ·have d:decide ((1:Int)=s.length)=false:=decide_eq_false (by omega)
   obtain ⟨n,hnx⟩:=zm (l:=s) (i:=0+1) (by omega)
   have ix2:=yn (l:=s) (i:=(1:Int)) (c:=n) (by omega) (by simpa using hnx)
   have bl:=qhA n
   rw [hnx,Zr]
   simp only [Int.natCast_zero]at ix
   unfold isB
   cases hb:kR n with
   |true=>rw [hb]at bl;simp only [go_sem,qa,qb,qc,qd,qe,qf,reduceCtorEq,kL,ix,h46,z,d,ix2,bl,Bool.true_or]
   |false=>rw [hb]at bl;simp only [go_sem,qa,qb,qc,qd,qe,qf,reduceCtorEq,kL,ix,h46,z,d,ix2,bl,Bool.false_or]
 |succ j=>
  obtain ⟨q,hq⟩:=zm (l:=s) (i:=j) (by omega)
  have ix0:=yn (l:=s) (i:=(j:Int)) (c:=q) (by omega) (by simpa using hq)
  have e0:w64 (((j+1:Nat):Int) - 1)=(j:Int):=by rw [qp]<;>omega
  have dz:decide (((j+1:Nat):Int)=0)=false:=decide_eq_false (by omega)
  have sy:=qiQ q
  have hg:s.getD j 0=q:=by rw [List.getD_eq_getElem?_getD,hq];rfl
  rw [qb4,hg]
  cases hs:zc q with
  |true=>rw [hs]at sy;simp only [go_sem,qa,qb,qc,qd,qe,qf,reduceCtorEq,kL,ix,h46,dz,e0,ix0,sy,Bool.not_true,Bool.false_and,Bool.true_and]
  |false=>
  rw [hs]at sy
  rw [Bool.not_false,Bool.true_and,Bool.true_and]
  by_cases hn:s.length=j+1+1
  ·have d:decide (((j+1+1:Nat):Int)=s.length)=true:=decide_eq_true (by omega)
   have:s[j+1+1]? =none:=List.getElem?_eq_none (by omega)
   rw [this,Zr]
   simp only [go_sem,qa,qb,qc,qd,qe,qf,reduceCtorEq,kL,ix,h46,dz,e0,ix0,sy,e1,d]
  ·have d:decide (((j+1+1:Nat):Int)=s.length)=false:=decide_eq_false (by omega)
   obtain ⟨n,hnx⟩:=zm (l:=s) (i:=j+1+1) (by omega)
   have ix2:=yn (l:=s) (i:=((j+1+1:Nat):Int)) (c:=n) (by omega) (by rw [Int.toNat_natCast];exact hnx)
   have bl:=qhA n
   rw [hnx,Zr]
   unfold isB
   cases hb:kR n with
   |true=>rw [hb]at bl;simp only [go_sem,qa,qb,qc,qd,qe,qf,reduceCtorEq,kL,ix,h46,dz,e0,ix0,sy,e1,d,ix2,bl,Bool.true_or]
   |false=>rw [hb]at bl;simp only [go_sem,qa,qb,qc,qd,qe,qf,reduceCtorEq,kL,ix,h46,dz,e0,ix0,sy,e1,d,ix2,bl,Bool.false_or]
end Go.Vm
namespace Go.Vm
open Go.Lib (indexByte)
theorem qqQ(s:Str) (hl:s.length≤2^61) (i:Nat) (c:UInt8) (hc:s[i]? =some c):cr qg qfU [S s,I i]=some (B (jU s i c)):=by
 have hi:i < s.length:=(List.getElem?_eq_some_iff.1 hc).1
 have ix:=yn (l:=s) (i:=(i:Int)) (c:=c) (by omega) (by simpa using hc)
 have e1:w64 ((i:Int)+1)=((i+1:Nat):Int):=by rw [qp]<;>omega
 rw [qn qwc rfl]
 unfold jU
 cases h46:isB 46 c with
 |false=>
  unfold isB at h46
  simp only [go_sem,qa,qb,qc,qd,qe,qf,reduceCtorEq,jF,ix,h46,Bool.false_and]
 |true=>
 unfold isB at h46
 have hnext: ∀ (b:Bool),True:=fun _=>trivial
 cases i with
 |zero=>
  rw [qb4,Bool.true_and,Bool.true_and]
  have z:w64 ((0:Int)+1)=1:=rfl
  by_cases hn:s.length=1
  ·have d:decide ((1:Int)=s.length)=true:=decide_eq_true (by omega)
   have:s[0+1]? =none:=List.getElem?_eq_none (by omega)
   rw [this,Zr]
   simp only [Int.natCast_zero]at ix
   simp only [go_sem,qa,qb,qc,qd,qe,qf,reduceCtorEq,jF,ix,h46,z,d]
  ·have d:decide ((1:Int)=s.length)=false:=decide_eq_false (by omega)
   obtain ⟨n,hnx⟩:=zm (l:=s) (i:=0+1) (by omega)
   have ix2:=yn (l:=s) (i:=(1:Int)) (c:=n) (by omega) (by simpa using hnx)
   have bl:=qeG [32,9,10,37] n
   have bd:=qkx n
   rw [hnx,Zr]
   simp only [Int.natCast_zero]at ix
   rw [← bd]
   simp only [go_sem,qa,qb,qc,qd,qe,qf,reduceCtorEq,jF,ix,h46,z,d,ix2,bl]
 |succ j=>
  obtain ⟨q,hq⟩:=zm (l:=s) (i:=j) (by omega)
  have ix0:=yn (l:=s) (i:=(j:Int)) (c:=q) (by omega) (by simpa using hq)
  have e0:w64 (((j+1:Nat):Int) - 1)=(j:Int):=by rw [qp]<;>omega
  have dz:(0:Int) < ((j+1:Nat):Int):=by omega
  have sy:=qhp q
  have hg:s.getD j 0=q:=by rw [List.getD_eq_getElem?_getD,hq];rfl
  rw [qb4,hg]
  cases hs:zc q with
  |true=>rw [hs]at sy;simp only [go_sem,qa,qb,qc,qd,qe,qf,reduceCtorEq,jF,ix,h46,dz,e0,ix0,sy,Bool.not_true,Bool.false_and,Bool.true_and]
  |false=>
  rw [hs]at sy
  rw [Bool.not_false,Bool.true_and,Bool.true_and]
  by_cases hn:s.length=j+1+1
  ·have d:decide (((j+1+1:Nat):Int)=s.length)=true:=decide_eq_true (by omega)
   have:s[j+1+1]? =none:=List.getElem?_eq_none (by omega)
   rw [this,Zr]
   simp only [go_sem,qa,qb,qc,qd,qe,qf,reduceCtorEq,jF,ix,h46,dz,e0,ix0,sy,e1,d]
  ·have d:decide (((j+1+1:Nat):Int)=s.length)=false:=decide_eq_false (by omega)
   obtain ⟨n,hnx⟩:=zm (l:=s) (i:=j+1+1) (by omega)
   have ix2:=yn (l:=s) (i:=((j+1+1:Nat):Int)) (c:=n) (by omega) (by rw [Int.toNat_natCast];exact hnx)
   have bl:=qeG [32,9,10,37] n
   have bd:=qkx n
   rw [hnx,Zr]
   rw [← bd]
   simp only [go_sem,qa,qb,qc,qd,qe,qf,reduceCtorEq,jF,ix,h46,dz,e0,ix0,sy,e1,d,ix2,bl]
end Go.Vm
namespace Go.Vm
structure Sg where
 kind:Int
 text:Str
 num:Int
 at_:Int
 near:Bool
def Sg.v(x:Sg):V:= .a [I x.kind,S x.text,I x.num,I x.at_,B x.near]
def zx(s:Str) (i j:Nat):Str:=(s.take j).drop i
def bad(s:Str) (i:Nat):Sg × Nat:=(⟨6,zx s i (i+1),0,i,false⟩,i+1)
def nf:Str→Int→Int
 |[],a=>a
 |d::r,a=>if (inB 48 57 d&&decide (a≤999999999))=true then nf r (10*a+d.toNat - 48)else a
def nk:Str→Int→Nat
 |[],a=>0
 |d::r,a=>if (inB 48 57 d&&decide (a≤999999999))=true then nk r (10*a+d.toNat - 48)+1 else 0
theorem qmD: ∀ (s:Str) (a:Int),0≤a→nf s a≤999999999→nk s a=pre (inB 48 57) s
 |[],a,_,_=>rfl
 |d::r,a,h0,h=>by
  simp only [nf,nk,pre]at h ⊢
  by_cases ha:a≤999999999
  ·rw [decide_eq_true ha,Bool.and_true]at h ⊢
   by_cases hd:inB 48 57 d=true
   ·rw [if_pos hd]at h ⊢
    rw [if_pos hd]
    have h1:(48:Int)≤d.toNat:=by unfold inB at hd;simp only [Bool.and_eq_true,decide_eq_true_eq]at hd;exact hd.1
    rw [qmD r _ (by omega) h]
   ·rw [if_neg hd,if_neg hd]
  ·exfalso
   rw [decide_eq_false ha,Bool.and_false]at h
   simp only [Bool.false_eq_true,if_false]at h
   omega
theorem qmw: ∀ (s:Str) (a:Int),0≤a→a≤9999999999→0≤nf s a∧nf s a≤9999999999
 |[],a,h0,h1=>⟨h0,h1⟩
 |d::r,a,h0,h1=>by
  simp only [nf]
  split
  ·rename_i h
   simp only [inB,Bool.and_eq_true,decide_eq_true_eq]at h
   exact qmw r _ (by omega) (by omega)
  ·exact ⟨h0,h1⟩
def kW:Str→Option Nat
 |[]=>none
 |c::r=>if isB 39 c=true then some 0 else (kW r).map (· +1)
def QN(r:Str):Option Nat:=match kW r with
 |some m=>if y5 (r.take m)=true then some m else none
 |none=>none
def sgn(s:Str) (i:Nat) (c:UInt8):Sg × Nat:=
 if (inB 97 122 c||yE c)=true then
  if pre zI (s.drop i)≤20 then (⟨if yE c=true then 2 else 1,zx s i (i+pre zI (s.drop i)),0,i,false⟩,i+pre zI (s.drop i))else bad s i
 else if inB 48 57 c=true then
  if nf (s.drop i) 0≤999999999 then (⟨3,[],nf (s.drop i) 0,i,false⟩,i+pre (inB 48 57) (s.drop i))else bad s i
 else if isB 39 c=true then
  match QN (s.drop (i+1))with
  |some m=>(⟨1,zx s (i+1) (i+1+m),0,i,false⟩,i+1+m+1)
  |none=>bad s i
 else if (isB 33 c||isB 59 c)=true then (⟨1,zx s i (i+1),0,i,false⟩,i+1)
 else if (isB 40 c||isB 41 c||isB 91 c||isB 93 c||isB 44 c||isB 124 c)=true then (⟨4,zx s i (i+1),0,i,false⟩,i+1)
 else if jU s i c=true then (⟨5,zx s i (i+1),0,i,false⟩,i+1)
 else if zc c=true then
  if pre zc (s.drop i)≤20 then (⟨1,zx s i (i+pre zc (s.drop i)),0,i,false⟩,i+pre zc (s.drop i))else bad s i
 else bad s i
end Go.Vm
namespace Go.Vm
structure Op3 where
 prio:Int
 left:Int
 right:Int
def qD(s:Str):Op3:=
 if s=[58,45]∨s=[45,45,62]then ⟨1200,1199,1199⟩
 else if s=[59]then ⟨1100,1099,1100⟩
 else if s=[45,62]then ⟨1050,1049,1050⟩
 else if s=[44]then ⟨1000,999,1000⟩
 else if s=[61]∨s=[92,61]∨s=[61,61]∨s=[105,115]∨s=[60]∨s=[61,58,61]then ⟨700,699,699⟩
 else if s=[43]∨s=[45]then ⟨500,500,499⟩
 else if s=[42]∨s=[47,47]then ⟨400,400,399⟩
 else ⟨0,0,0⟩
def opV(s:Str):V:= .t [.a [S (if (qD s).prio=0 then []else s),I (qD s).prio,I (qD s).left,I (qD s).right],B (decide ((qD s).prio ≠ 0))]
set_option maxHeartbeats 2000000 in
theorem Yh(s:Str):cr qg ZS [S s]=some (opV s):=by
 rw [qn qmX rfl]
 by_cases h1:s=[58,45]
 ·subst h1;simp (decide:=true) only [go_sem,qa,qb,qc,qd,qe,qf,reduceCtorEq,yG];rfl
 by_cases h2:s=[45,45,62]
 ·subst h2;simp (decide:=true) only [go_sem,qa,qb,qc,qd,qe,qf,reduceCtorEq,yG];rfl
 by_cases h3:s=[59]
 ·subst h3;simp (decide:=true) only [go_sem,qa,qb,qc,qd,qe,qf,reduceCtorEq,yG];rfl
 by_cases h4:s=[45,62]
 ·subst h4;simp (decide:=true) only [go_sem,qa,qb,qc,qd,qe,qf,reduceCtorEq,yG];rfl
 by_cases h5:s=[44]
 ·subst h5;simp (decide:=true) only [go_sem,qa,qb,qc,qd,qe,qf,reduceCtorEq,yG];rfl
 by_cases h6:s=[61]
 ·subst h6;simp (decide:=true) only [go_sem,qa,qb,qc,qd,qe,qf,reduceCtorEq,yG];rfl
 by_cases h7:s=[92,61]
 ·subst h7;simp (decide:=true) only [go_sem,qa,qb,qc,qd,qe,qf,reduceCtorEq,yG];rfl
 by_cases h8:s=[61,61]
 ·subst h8;simp (decide:=true) only [go_sem,qa,qb,qc,qd,qe,qf,reduceCtorEq,yG];rfl
 by_cases h9:s=[105,115]
 ·subst h9;simp (decide:=true) only [go_sem,qa,qb,qc,qd,qe,qf,reduceCtorEq,yG];rfl
 by_cases h10:s=[60]
 ·subst h10;simp (decide:=true) only [go_sem,qa,qb,qc,qd,qe,qf,reduceCtorEq,yG];rfl
 by_cases h11:s=[61,58,61]
 ·subst h11;simp (decide:=true) only [go_sem,qa,qb,qc,qd,qe,qf,reduceCtorEq,yG];rfl
 by_cases h12:s=[43]
 ·subst h12;simp (decide:=true) only [go_sem,qa,qb,qc,qd,qe,qf,reduceCtorEq,yG];rfl
 by_cases h13:s=[45]
 ·subst h13;simp (decide:=true) only [go_sem,qa,qb,qc,qd,qe,qf,reduceCtorEq,yG];rfl
 by_cases h14:s=[42]
 ·subst h14;simp (decide:=true) only [go_sem,qa,qb,qc,qd,qe,qf,reduceCtorEq,yG];rfl
 by_cases h15:s=[47,47]
 ·subst h15;simp (decide:=true) only [go_sem,qa,qb,qc,qd,qe,qf,reduceCtorEq,yG];rfl
 simp only [go_sem,qa,qb,qc,qd,qe,qf,reduceCtorEq,yG,h1,h2,h3,h4,h5,h6,h7,h8,h9,h10,h11,h12,h13,h14,h15]
 simp [opV,qD,h1,h2,h3,h4,h5,h6,h7,h8,h9,h10,h11,h12,h13,h14,h15]
theorem kZ(s:Str):cr qg Zc [S s]=some (opV s):=by
 rw [← Yh,qn qwM rfl,qn qmX rfl];rfl
def zh(t:Tm):Int:=if t.kind=4∧t.kids.length=2 then (qD t.name).prio else 0
theorem qiP(t:Tm) (v:V) (h:BT t v):cr qg qax [v]=some (I (zh t)):=by
 obtain ⟨τ,vs,rfl,hv⟩:=qy h
 rw [qn qwS rfl]
 unfold zh
 by_cases h1:t.kind=4
 ·by_cases h2:(t.kids.length:Int)=2
  ·have h2':t.kids.length=2:=by omega
   rw [if_pos ⟨h1,h2'⟩]
   by_cases h3:(qD t.name).prio=0
   ·simp only [go_sem,qa,qb,qc,qd,qe,qf,reduceCtorEq,Q1,zk hv,h1,h2,kZ,opV,h3]
   ·simp only [go_sem,qa,qb,qc,qd,qe,qf,reduceCtorEq,Q1,zk hv,h1,h2,kZ,opV,h3]
  ·have h2': ¬ t.kids.length=2:=by omega
   rw [if_neg (fun h=>h2' h.2)]
   simp only [go_sem,qa,qb,qc,qd,qe,qf,reduceCtorEq,Q1,zk hv,h1,h2]
 ·rw [if_neg (fun h=>h1 h.1)]
  simp only [go_sem,qa,qb,qc,qd,qe,qf,reduceCtorEq,Q1,h1]
theorem qlJ(t:Tm) (v:V) (h:BT t v):cr qg qdp [v]=some (B (decide (zh t ≠ 0))):=by
 obtain ⟨τ,vs,rfl,hv⟩:=qy h
 rw [qn qwf rfl]
 unfold zh
 by_cases h1:t.kind=4
 ·by_cases h2:(t.kids.length:Int)=2
  ·have h2':t.kids.length=2:=by omega
   rw [if_pos ⟨h1,h2'⟩]
   by_cases h3:(qD t.name).prio=0
   ·simp only [go_sem,qa,qb,qc,qd,qe,qf,reduceCtorEq,QY,zk hv,h1,h2,Yh,opV,h3]
   ·simp only [go_sem,qa,qb,qc,qd,qe,qf,reduceCtorEq,QY,zk hv,h1,h2,Yh,opV,h3]
  ·have h2': ¬ t.kids.length=2:=by omega
   rw [if_neg (fun h=>h2' h.2)]
   by_cases h3:(qD t.name).prio=0<;>simp only [go_sem,qa,qb,qc,qd,qe,qf,reduceCtorEq,QY,zk hv,h1,h2,Yh,opV,h3]
 ·rw [if_neg (fun h=>h1 h.1)]
  by_cases h3:(qD t.name).prio=0<;>simp only [go_sem,qa,qb,qc,qd,qe,qf,reduceCtorEq,QY,h1,Yh,opV,h3]
theorem qho(t:Tm) (v:V) (h:BT t v):cr qg qao [v]=some (I (zh t)):=by
 have hi:=qlJ t v h
 obtain ⟨τ,vs,rfl,hv⟩:=qy h
 rw [qn qv3 rfl]
 by_cases h0:zh t=0
 ·simp only [go_sem,qa,qb,qc,qd,qe,qf,reduceCtorEq,Yx,hi,h0]
 ·have h1:zh t=(qD t.name).prio:=by unfold zh at h0 ⊢;split at h0<;>simp_all
  simp only [go_sem,qa,qb,qc,qd,qe,qf,reduceCtorEq,Yx,hi,h0,Yh,opV,h1]
  rw [h1]at h0
  simp only [go_sem,qa,qb,qc,qd,qe,qf,reduceCtorEq,h0]
end Go.Vm
namespace Go.Vm
open Go.Lib (itoa join)
def Sg.near'(x:Sg) (b:Bool):Sg:={x with near:=b}
def sgs(s:Str):Nat→Nat→List Sg
 |0,_=>[]
 |n+1,i=>match s[i]? with
  |none=>[]
  |some c=>
   if kR c=true then sgs s n (i+1)
   else if isB 37 c=true then sgs s n (i+pre (fun d=> !isB 10 d) (s.drop i))
   else (sgn s i c).1.near' (decide (s[(sgn s i c).2]? =some 40))::sgs s n (sgn s i c).2
def xa(s:Str):List Sg:=sgs s s.length 0
theorem jv {p:UInt8→Bool} {s:Str} {i:Nat} (h:i≤s.length):i+pre p (s.drop i)≤s.length:=by
 have:=qnj p (s.drop i)
 rw [List.length_drop]at this
 omega
theorem Jv {p:UInt8→Bool} {s:Str} {i:Nat} {c:UInt8} (hc:s[i]? =some c) (h:p c=true):1≤pre p (s.drop i):=by
 rw [y1 hc,pre,if_pos h];omega
theorem qia: ∀ {r:Str} {m:Nat},kW r=some m→m < r.length
 |[],m,h=>by cases h
 |c::r,m,h=>by
  simp only [kW]at h
  split at h
  ·cases h;simp
  ·rw [Option.map_eq_some_iff]at h
   obtain ⟨k,hk,rfl⟩:=h
   have:=qia hk
   simp only [List.length_cons];omega
theorem qnr {r:Str} {m:Nat} (h:QN r=some m):m < r.length∧y5 (r.take m)=true:=by
 unfold QN at h
 split at h
 ·rename_i k hk
  split at h
  ·rename_i h2;cases h;exact ⟨qia hk,h2⟩
  ·cases h
 ·cases h
theorem qiD(s:Str) (i:Nat) (c:UInt8) (hc:s[i]? =some c):i < (sgn s i c).2∧(sgn s i c).2≤s.length:=by
 have hi:i < s.length:=(List.getElem?_eq_some_iff.1 hc).1
 have hb:i < (bad s i).2∧(bad s i).2≤s.length:=⟨Nat.lt_succ_self i,hi⟩
 unfold sgn
 split
 ·rename_i h
  split
  ·have h1:=jv (p:=zI) (s:=s) (i:=i) (by omega)
   have h2:1≤pre zI (s.drop i):=Jv hc (by unfold zI;rw [h,Bool.true_or])
   exact ⟨by show i < i+_;omega,h1⟩
  ·exact hb
 split
 ·rename_i h
  split
  ·have h1:=jv (p:=inB 48 57) (s:=s) (i:=i) (by omega)
   have h2:1≤pre (inB 48 57) (s.drop i):=Jv hc h
   exact ⟨by show i < i+_;omega,h1⟩
  ·exact hb
 split
 ·cases hq:QN (s.drop (i+1))with
  |none=>exact hb
  |some m=>
   have:=(qnr hq).1
   rw [List.length_drop]at this
   exact ⟨by show i < i+1+m+1;omega,by show i+1+m+1≤_;omega⟩
 split
 ·exact ⟨Nat.lt_succ_self i,hi⟩
 split
 ·exact ⟨Nat.lt_succ_self i,hi⟩
 split
 ·exact ⟨Nat.lt_succ_self i,hi⟩
 split
 ·rename_i h
  split
  ·have h1:=jv (p:=zc) (s:=s) (i:=i) (by omega)
   have h2:1≤pre zc (s.drop i):=Jv hc h
   exact ⟨by show i < i+_;omega,h1⟩
  ·exact hb
 ·exact hb
theorem qfs(s:Str): ∀ (n i:Nat),(sgs s n i).length≤n
 |0,i=>Nat.le_refl _
 |n+1,i=>by
  simp only [sgs]
  split
  ·simp
  ·rename_i c hc
   split
   ·have:=qfs s n (i+1);omega
   split
   ·have:=qfs s n (i+pre (fun d=> !isB 10 d) (s.drop i));omega
   ·have:=qfs s n (sgn s i c).2
    simp only [List.length_cons];omega
theorem qox(s:Str): ∀ (n i:Nat),s.length≤i→sgs s n i=[]
 |0,i,_=>rfl
 |n+1,i,h=>by simp only [sgs,List.getElem?_eq_none h]
def qb5(s:Str):Str:=[39]++s++[39]
def zN(s:Str):Str:=match xa s with
 |[x]=>if x.kind=1∧x.text=s then s else qb5 s
 |_=>qb5 s
theorem qbB(s:Str):(zN s).length≤s.length+2:=by
 have:(qb5 s).length=s.length+2:=by simp [qb5]
 unfold zN
 split
 ·split<;>omega
 ·omega
def zH(s:Str):Op3:=
 if s=[58,45]then ⟨1200,0,1199⟩else if s=[92,43]then ⟨900,0,900⟩else if s=[45]then ⟨200,0,200⟩else ⟨0,0,0⟩
def ju(s:Str):V:= .t [.a [S (if (zH s).prio=0 then []else s),I (zH s).prio,I (zH s).left,I (zH s).right],B (decide ((zH s).prio ≠ 0))]
def Yj(s:Str):Bool:=decide ((qD s).prio ≠ 0)||decide ((zH s).prio ≠ 0)
def yF(s:Str):Str:=if s=[44]then [44]else zN s
theorem qfu(s:Str):(yF s).length≤s.length+2:=by
 unfold yF
 split
 ·simp
 ·exact qbB s
def zr(p:Bool) (most prio:Int) (s:Str):Str:=if p=true∧most < prio then [40]++s++[41]else s
theorem Xi(p:Bool) (m q:Int) (s:Str):(zr p m q s).length≤s.length+2:=by
 unfold zr;split<;>simp<;>omega
structure Kd where
 raw:Str
 rest:Str
 prio:Int
def qUS(p:Bool):List Kd→Option (Kd × Kd)
 |[a,b]=>some (a,b)
 |_=>none
def Jh(p:Bool) (s:Str) (ks:List Kd):Str:=zN s++[40]++join (ks.map fun k=>zr p 999 k.prio k.raw) [44]++[41]
def Yi(p:Bool) (s:Str) (a b:Kd):Str:=
 if p=true then zr true (qD s).left a.prio a.raw++[32]++yF s++[32]++zr true (qD s).right b.prio b.raw
 else [40]++a.raw++[32]++yF s++[32]++b.raw++[41]
def QO(p:Bool) (k:Int) (s:Str) (n:Int) (ks:List Kd):Str:=
 if k=1 then [95]++itoa n
 else if k=3 then itoa n
 else if k=2 then (if s=[91,93]then [91,93]else if Yj s=true then [40]++zN s++[41]else zN s)
 else match ks with
  |[a,b]=>if s=[46]then [91]++zr p 999 a.prio a.raw++b.rest else if (qD s).prio ≠ 0 then Yi p s a b else Jh p s ks
  |_=>Jh p s ks
def JG(p:Bool) (k:Int) (s:Str) (prio:Int) (ks:List Kd) (raw:Str):Str:=
 if k=2∧s=[91,93]then [93]
 else match ks with
  |[a,b]=>if k=4∧s=[46]then [44]++zr p 999 a.prio a.raw++b.rest else [124]++zr p 999 prio raw++[93]
  |_=>[124]++zr p 999 prio raw++[93]
mutual
def wk(p:Bool):Tm→Kd
 | .mk k s n ks=>⟨QO p k s n (wks p ks),JG p k s (zh (.mk k s n ks)) (wks p ks) (QO p k s n (wks p ks)),zh (.mk k s n ks)⟩
def wks(p:Bool):List Tm→List Kd
 |[]=>[]
 |t::ts=>wk p t::wks p ts
end
theorem qi5(p:Bool): ∀ (ts:List Tm),wks p ts=ts.map (wk p)
 |[]=>rfl
 |t::ts=>by simp only [wks,List.map_cons,qi5 p ts]
def wr(p:Bool) (t:Tm):Str:=(wk p t).raw
def wrR(p:Bool) (t:Tm):Str:=(wk p t).rest
theorem qAp(p:Bool) (t:Tm):(wk p t).prio=zh t:=by cases t;rfl
theorem XJ(p:Bool) (t:Tm):wr p t=QO p t.kind t.name t.num (t.kids.map (wk p)):=by
 cases t;simp only [wr,wk,qi5];rfl
theorem qfH(p:Bool) (t:Tm):wrR p t=JG p t.kind t.name (zh t) (t.kids.map (wk p)) (wr p t):=by
 cases t;simp only [wrR,wr,wk,qi5];rfl
def held(p:Bool) (m:Int) (t:Tm):Str:=zr p m (zh t) (wr p t)
theorem qhn(m:Int) (t:Tm):held false m t=wr false t:=by unfold held zr;rw [if_neg (by simp)]
theorem qir {d:Int} {t:Tm} (h:xo d t=true):jX t=true∧ ∀ u ∈ t.kids,xo (d+1) u=true:=by
 cases t with
 |mk k s n ks=>
  simp only [xo,Bool.and_eq_true]at h
  refine ⟨h.2.1, ?_⟩
  have: ∀ ts:List Tm,yz (d+1) ts=true→ ∀ u ∈ ts,xo (d+1) u=true:=by
   intro ts
   induction ts with
   |nil=>intro _ u hu;cases hu
   |cons x xs ih=>
    intro h u hu
    simp only [yz,Bool.and_eq_true]at h
    rcases List.mem_cons.1 hu with rfl|hu
    ·exact h.1
    ·exact ih h.2 u hu
  exact this ks h.2.2
theorem Jq {t:Tm} (h:jX t=true):(t.kind=1∨t.kind=2∨t.kind=3∨t.kind=4)∧t.name.length≤20∧(t.kind=3∨t.kind=1→ -999999999≤t.num∧t.num≤999999999)∧(t.kind=4→1≤t.kids.length∧t.kids.length≤5)∧(t.kind ≠ 4→t.kids=[]):=by
 have hn:y5 t.name=true→t.name.length≤20:=by
  intro h
  unfold y5 at h
  simp only [Bool.and_eq_true,decide_eq_true_eq]at h
  exact h.2.2
 have hk:(t.kids.length:Int)=0→t.kids=[]:=fun h=>List.length_eq_zero_iff.1 (by omega)
 unfold jX at h
 split at h
 ·rename_i k
  simp only [Bool.and_eq_true,decide_eq_true_eq]at h
  refine ⟨.inl k,by rw [h.2.1];simp,fun _=>by omega,fun e=>by omega,fun _=>hk h.2.2⟩
 split at h
 ·rename_i k
  simp only [Bool.and_eq_true,decide_eq_true_eq]at h
  refine ⟨.inr (.inl k),hn h.1,fun e=>by omega,fun e=>by omega,fun _=>hk h.2.2⟩
 split at h
 ·rename_i k
  simp only [Bool.and_eq_true,decide_eq_true_eq]at h
  refine ⟨.inr (.inr (.inl k)),by rw [h.2.1];simp,fun _=>by omega,fun e=>by omega,fun _=>hk h.2.2⟩
 split at h
 ·rename_i k
  simp only [Bool.and_eq_true,decide_eq_true_eq]at h
  refine ⟨.inr (.inr (.inr k)),hn h.1,fun e=>by omega,fun _=>by omega,fun e=>absurd k e⟩
 ·cases h
theorem qlU(p:Str): ∀ (ss:List Str),(Go.Lib.joinTail p ss).length=(ss.map fun s=>s.length+p.length).sum
 |[]=>rfl
 |s::ss=>by
  have:=qlU p ss
  unfold Go.Lib.joinTail at this ⊢
  simp only [List.map_cons,List.flatten_cons,List.length_append,List.sum_cons,this]
  omega
theorem qrp(p:Str): ∀ (ss:List Str),(join ss p).length≤(ss.map fun s=>s.length+p.length).sum
 |[]=>by rw [Go.Lib.join_nil];exact Nat.zero_le _
 |s::ss=>by
  rw [Go.Lib.join_cons,List.length_append,qlU,List.map_cons,List.sum_cons];omega
theorem qAr(p:Bool): ∀ (t:Tm) (d:Int),xo d t=true→(wr p t).length+10≤60*nT t∧(wrR p t).length≤60*nT t:=by
 refine Z4 ?_
 intro k s n ks ih d h
 obtain ⟨ho,hks⟩:=qir h
 obtain ⟨-,hs,hn,-,-⟩:=Jq ho
 simp only [yq,yr,yC,z8]at hs hn hks
 have hat:=qbB s
 have hst:=qfu s
 have hg:(Jh p s (ks.map (wk p))).length≤24+60*nTs ks:=by
  unfold Jh
  have h1:=qrp [44] ((ks.map (wk p)).map fun k=>zr p 999 k.prio k.raw)
  have h2: ∀ (l:List Tm),(∀ u ∈ l,(wr p u).length+10≤60*nT u)→(((l.map (wk p)).map fun k=>zr p 999 k.prio k.raw).map fun s=>s.length+([44]:Str).length).sum≤60*nTs l:=by
   intro l
   induction l with
   |nil=>intro _;simp [nTs]
   |cons x xs ihx=>
    intro hl
    have h3:=ihx fun u hu=>hl u (by simp [hu])
    have h4:=hl x (by simp)
    have h5:=Xi p 999 (wk p x).prio (wk p x).raw
    simp only [List.map_cons,List.sum_cons,List.length_cons,List.length_nil,nTs]at h3 ⊢
    unfold wr at h4
    omega
  have h3:=h2 ks fun u hu=>(ih u hu (d+1) (hks u hu)).1
  simp only [List.length_append,List.length_cons,List.length_nil]
  omega
 have hraw:(wr p (.mk k s n ks)).length+10≤60*nT (.mk k s n ks):=by
  rw [XJ]
  simp only [yq,yr,yC,z8,nT]
  unfold QO
  split
  ·have:=Jj n (by omega) (by omega)
   simp only [List.length_append,List.length_cons,List.length_nil];omega
  split
  ·have:=Jj n (by omega) (by omega)
   omega
  split
  ·split
   ·simp only [List.length_cons,List.length_nil];omega
   split
   ·simp only [List.length_append,List.length_cons,List.length_nil];omega
   ·omega
  split
  ·rename_i a b hab
   rcases ks with _|⟨x,_|⟨y,_|⟨z,r⟩⟩⟩<;>simp at hab
   obtain ⟨rfl,rfl⟩:=hab
   have hx:=ih x (by simp) (d+1) (hks x (by simp))
   have hy:=ih y (by simp) (d+1) (hks y (by simp))
   unfold wr wrR at hx hy
   have hl1:=Xi p 999 (wk p x).prio (wk p x).raw
   simp only [nTs]
   split
   ·simp only [List.length_append,List.length_cons,List.length_nil];omega
   split
   ·unfold Yi
    have hl2:=Xi true (qD s).left (wk p x).prio (wk p x).raw
    have hl3:=Xi true (qD s).right (wk p y).prio (wk p y).raw
    split<;>simp only [List.length_append,List.length_cons,List.length_nil]<;>omega
   ·simp only [nTs,List.map_cons,List.map_nil]at hg ⊢;omega
  ·omega
 refine ⟨hraw, ?_⟩
 rw [qfH]
 have hh:=Xi p 999 (zh (.mk k s n ks)) (wr p (.mk k s n ks))
 simp only [yq,yr,z8]
 unfold JG
 split
 ·have:=ye (.mk k s n ks);simp only [List.length_cons,List.length_nil];omega
 split
 ·rename_i a b hab
  rcases ks with _|⟨x,_|⟨y,_|⟨z,r⟩⟩⟩<;>simp at hab
  obtain ⟨rfl,rfl⟩:=hab
  have hx:=ih x (by simp) (d+1) (hks x (by simp))
  have hy:=ih y (by simp) (d+1) (hks y (by simp))
  unfold wr wrR at hx hy
  have hl1:=Xi p 999 (wk p x).prio (wk p x).raw
  split
  ·simp only [List.length_append,List.length_cons,List.length_nil,nT,nTs];omega
  ·simp only [List.length_append,List.length_cons,List.length_nil];omega
 ·simp only [List.length_append,List.length_cons,List.length_nil];omega
end Go.Vm
namespace Go.Vm
theorem QS(s:Str) (a b:Nat) (h:a≤b) (hb:b≤s.length):XF (S s) (some (I a)) (some (I b))=some (S (zx s a b)):=by
 have h1:Z9 0 (some (I a))=some (a:Int):=rfl
 have h2:Z9 s.length (some (I b))=some (b:Int):=rfl
 rw [qz0 h1 h2 (by omega) (by omega) (by omega)]
 rfl
theorem quU(s:Str) (hl:s.length≤2^61) (at_:Nat) (m:Nat): ∀ i,i+m=s.length→at_+1≤i→
 lw qg qa0 ⟨[(0,S s),(1,I at_),(5,I i)],[]⟩=match kW (s.drop i)with
  |none=>some (.exit 0,⟨[],[]⟩)
  |some k=>some (.ret,⟨[(4,I (if y5 (zx s (at_+1) (i+k))=true then ((i+k+1:Nat):Int)else 0))],[]⟩):=by
 induction m with
 |zero=>
  intro i hi ha
  rw [List.drop_eq_nil_of_le (by omega),qr]
  have h: ¬ (i:Int) < s.length:=by omega
  simp only [kW]
  simp only [go_sem,qa,qb,qc,qd,qe,qf,reduceCtorEq,Y7,h]
 |succ m ih=>
  intro i hi ha
  have h:(i:Int) < s.length:=by omega
  obtain ⟨c,hc⟩:=zm (l:=s) (i:=i) (by omega)
  have ix:=yn (l:=s) (i:=(i:Int)) (c:=c) (by omega) (by simpa using hc)
  have e1:w64 ((i:Int)+1)=((i+1:Nat):Int):=by rw [qp]<;>omega
  have e2:w64 ((at_:Int)+1)=((at_+1:Nat):Int):=by rw [qp]<;>omega
  rw [y1 hc,qr]
  simp only [kW]
  by_cases h39:isB 39 c=true
  ·have d:decide ((c.toNat:Int)=39)=true:=h39
   rw [if_pos h39]
   have sl:=QS s (at_+1) i ha (by omega)
   have nm:=ql6 (zx s (at_+1) i) (by unfold zx;simp only [List.length_drop,List.length_take];omega)
   simp only [Nat.add_zero]
   cases hn:y5 (zx s (at_+1) i)with
   |true=>rw [hn]at nm;rw [if_pos rfl];simp only [go_sem,qa,qb,qc,qd,qe,qf,reduceCtorEq,Y7,h,ix,e1,e2,d,sl,nm]
   |false=>rw [hn]at nm;rw [if_neg (by decide)];simp only [go_sem,qa,qb,qc,qd,qe,qf,reduceCtorEq,Y7,h,ix,e1,e2,d,sl,nm]
  ·have d:decide ((c.toNat:Int)=39)=false:=by simpa [isB]using h39
   have i1:=ih (i+1) (by omega) (by omega)
   rw [if_neg h39]
   have hq: ∀ k,i+1+k=i+(k+1):=fun k=>by omega
   cases hk:kW (s.drop (i+1))with
   |none=>
    rw [hk]at i1
    simp only [Option.map_none]at i1 ⊢
    simp only [go_sem,qa,qb,qc,qd,qe,qf,reduceCtorEq,Y7,h,ix,e1,d]
    exact i1
   |some k=>
    rw [hk]at i1
    simp only [Option.map_some,hq]at i1 ⊢
    simp only [go_sem,qa,qb,qc,qd,qe,qf,reduceCtorEq,Y7,h,ix,e1,d]
    exact i1
def qic(s:Str) (i:Nat):Int:=match QN (s.drop (i+1))with
 |some k=>((i+1+k+1:Nat):Int)
 |none=>0
theorem quV(s:Str) (hl:s.length≤2^61) (i:Nat) (hi:i < s.length):cr qg qgl [S s,I i]=some (I (qic s i)):=by
 have h:=quU s hl i (s.length - (i+1)) (i+1) (by omega) (Nat.le_refl _)
 have e2:w64 ((i:Int)+1)=((i+1:Nat):Int):=by rw [qp]<;>omega
 rw [qn qxi rfl]
 unfold qic QN
 cases hk:kW (s.drop (i+1))with
 |none=>
  rw [hk]at h
  simp only at h
  simp only [go_sem,qa,qb,qc,qd,qe,qf,reduceCtorEq,ZL,e2,h]
 |some k=>
  rw [hk]at h
  have hs:zx s (i+1) (i+1+k)=(s.drop (i+1)).take k:=by
   unfold zx;rw [List.drop_take,Nat.add_sub_cancel_left]
  simp only [hs]at h
  simp only
  by_cases hn:y5 ((s.drop (i+1)).take k)=true
  ·rw [if_pos hn]at h;simp only [if_pos hn];simp only [go_sem,qa,qb,qc,qd,qe,qf,reduceCtorEq,ZL,e2,h]
  ·rw [if_neg hn]at h;simp only [if_neg hn];simp only [go_sem,qa,qb,qc,qd,qe,qf,reduceCtorEq,ZL,e2,h]
theorem qzo(s:Str) (hl:s.length≤2^61) (i:Nat) (e:Nat) (x:Str) (m:Nat): ∀ n,n+m=s.length→
 lw qg qa2 ⟨[(0,S s),(1,I i),(4,.p (100000,0) 0 0),(7,.p (100000,1) 0 0),(8,I e),(13,I n)],[((100000,0),5,[.a [I 0,S [],I 0,I 0,B false]]),((100000,1),5,[.a [I 6,S x,I 0,I i,B false]])]⟩=some (.exit 3,⟨[(0,S s),(1,I i),(4,.p (100000,0) 0 0),(7,.p (100000,1) 0 0),(8,I e),(13,I ((n+pre zc (s.drop n):Nat):Int))],[((100000,0),5,[.a [I 0,S [],I 0,I 0,B false]]),((100000,1),5,[.a [I 6,S x,I 0,I i,B false]])]⟩):=by
 induction m with
 |zero=>
  intro n hn
  rw [List.drop_eq_nil_of_le (by omega),qr]
  have h: ¬ (n:Int) < s.length:=by omega
  simp only [go_sem,qa,qb,qc,qd,qe,qf,reduceCtorEq,qbn,h,pre]
 |succ m ih=>
  intro n hn
  have h:(n:Int) < s.length:=by omega
  obtain ⟨c,hc⟩:=zm (l:=s) (i:=n) (by omega)
  have ix:=yn (l:=s) (i:=(n:Int)) (c:=c) (by omega) (by simpa using hc)
  have w:=qiQ c
  have e1:w64 ((n:Int)+1)=((n+1:Nat):Int):=by rw [qp]<;>omega
  rw [y1 hc,qr,pre]
  cases hw:zc c with
  |true=>
   rw [hw]at w
   have i1:=ih (n+1) (by omega)
   rw [if_pos rfl,show n+(pre zc (s.drop (n+1))+1)=n+1+pre zc (s.drop (n+1))by omega]
   simp only [go_sem,qa,qb,qc,qd,qe,qf,reduceCtorEq,qbn,h,ix,w,e1]
   exact i1
  |false=>
   rw [hw]at w
   rw [if_neg (by decide)]
   simp only [go_sem,qa,qb,qc,qd,qe,qf,reduceCtorEq,qbn,h,ix,w,e1]
theorem qzn(s:Str) (hl:s.length≤2^61) (i:Nat) (e:Nat) (x:Str) (m:Nat): ∀ (n:Nat) (a:Int),n+m=s.length→0≤a→a≤9999999999→
 lw qg qa3 ⟨[(0,S s),(1,I i),(4,.p (100000,0) 0 0),(7,.p (100000,1) 0 0),(8,I e),(10,I n),(11,I a)],[((100000,0),5,[.a [I 0,S [],I 0,I 0,B false]]),((100000,1),5,[.a [I 6,S x,I 0,I i,B false]])]⟩=some (.exit 1,⟨[(1,I i),(4,.p (100000,0) 0 0),(7,.p (100000,1) 0 0),(8,I e),(10,I ((n+nk (s.drop n) a:Nat):Int)),(11,I (nf (s.drop n) a))],[((100000,0),5,[.a [I 0,S [],I 0,I 0,B false]]),((100000,1),5,[.a [I 6,S x,I 0,I i,B false]])]⟩):=by
 induction m with
 |zero=>
  intro n a hn h0 h1
  rw [List.drop_eq_nil_of_le (by omega),qr]
  have h: ¬ (n:Int) < s.length:=by omega
  simp only [go_sem,qa,qb,qc,qd,qe,qf,reduceCtorEq,KZ,h,nf,nk]
 |succ m ih=>
  intro n a hn h0 h1
  have h:(n:Int) < s.length:=by omega
  obtain ⟨c,hc⟩:=zm (l:=s) (i:=n) (by omega)
  have ix:=yn (l:=s) (i:=(n:Int)) (c:=c) (by omega) (by simpa using hc)
  have w:=qhB c
  have e1:w64 ((n:Int)+1)=((n+1:Nat):Int):=by rw [qp]<;>omega
  rw [y1 hc,qr,nf,nk]
  cases hw:inB 48 57 c with
  |true=>
   rw [hw]at w
   have hb:=hw
   simp only [inB,Bool.and_eq_true,decide_eq_true_eq]at hb
   by_cases ha:a≤999999999
   ·have da:decide (a≤999999999)=true:=decide_eq_true ha
    have i1:=ih (n+1) (10*a+c.toNat - 48) (by omega) (by omega) (by omega)
    have e3:w64 (10*a)=10*a:=by rw [qp]<;>omega
    have e4:w64 (c.toNat:Int)=c.toNat:=by rw [qp]<;>omega
    have e5:w64 (10*a+c.toNat)=10*a+c.toNat:=by rw [qp]<;>omega
    have e6:w64 (10*a+c.toNat - 48)=10*a+c.toNat - 48:=by rw [qp]<;>omega
    rw [da,Bool.and_self,if_pos rfl,if_pos rfl,show n+(nk (s.drop (n+1)) (10*a+c.toNat - 48)+1)=n+1+nk (s.drop (n+1)) (10*a+c.toNat - 48)by omega]
    simp only [go_sem,qa,qb,qc,qd,qe,qf,reduceCtorEq,KZ,h,ix,w,e1,da,ha,e3,e4,e5,e6]
    exact i1
   ·have da:decide (a≤999999999)=false:=decide_eq_false ha
    rw [da,Bool.and_false,if_neg (by decide),if_neg (by decide)]
    simp only [go_sem,qa,qb,qc,qd,qe,qf,reduceCtorEq,KZ,h,ix,w,e1,da,ha,Nat.add_zero]
  |false=>
   rw [hw]at w
   rw [Bool.false_and,if_neg (by decide),if_neg (by decide)]
   simp only [go_sem,qa,qb,qc,qd,qe,qf,reduceCtorEq,KZ,h,ix,w,e1,Nat.add_zero]
end Go.Vm
namespace Go.Vm
open Go.Lib (indexByte)
theorem qiW {s:Str} {i:Nat} {c:UInt8} (hc:s[i]? =some c):zx s i (i+1)=[c]:=by
 unfold zx
 rw [List.drop_take,y1 hc,Nat.add_sub_cancel_left]
 rfl
theorem qiV {s:Str} {i n:Nat} (h:i+n≤s.length):(zx s i (i+n)).length=n:=by
 unfold zx;simp only [List.length_drop,List.length_take];omega
theorem x8 {n:Nat} {c:UInt8} (h:isB n c=true):c=UInt8.ofNat n:=by
 unfold isB at h
 have h1:(c.toNat:Int)=n:=of_decide_eq_true h
 have h2:c.toNat=n:=by omega
 rw [← h2];simp
theorem qoP {c:UInt8} (h:zc c=true):(inB 97 122 c||yE c)=false∧inB 48 57 c=false∧isB 39 c=false∧(isB 33 c||isB 59 c)=false∧(isB 40 c||isB 41 c||isB 91 c||isB 93 c||isB 44 c||isB 124 c)=false:=by
 unfold zc at h
 have h1:c ∈ ko:=of_decide_eq_true h
 have h2:ko.all (fun c=> !(inB 97 122 c||yE c)&& !inB 48 57 c&& !isB 39 c&& !(isB 33 c||isB 59 c)&& !(isB 40 c||isB 41 c||isB 91 c||isB 93 c||isB 44 c||isB 124 c))=true:=by decide
 have h3:=List.all_eq_true.1 h2 c h1
 simp only [Bool.and_eq_true,Bool.not_eq_true']at h3
 exact ⟨h3.1.1.1.1,h3.1.1.1.2,h3.1.1.2,h3.1.2,h3.2⟩
theorem qqP {s:Str} {i:Nat} {c:UInt8} (h:jU s i c=true):c=46∧zc c=true:=by
 unfold jU at h
 simp only [Bool.and_eq_true]at h
 have:c=46:=x8 (n:=46) h.1
 subst this
 exact ⟨rfl,by decide⟩
def qiC(s:Str) (i:Nat) (c:UInt8):Sg × Nat:=
 if jU s i c=true then (⟨5,[46],0,i,false⟩,i+1)
 else if (inB 97 122 c||yE c)=true then
  if pre zI (s.drop i)≤20 then (⟨if yE c=true then 2 else 1,zx s i (i+pre zI (s.drop i)),0,i,false⟩,i+pre zI (s.drop i))else bad s i
 else if inB 48 57 c=true then
  if nf (s.drop i) 0≤999999999 then (⟨3,[],nf (s.drop i) 0,i,false⟩,i+pre (inB 48 57) (s.drop i))else bad s i
 else if zc c=true then
  if pre zc (s.drop i)≤20 then (⟨1,zx s i (i+pre zc (s.drop i)),0,i,false⟩,i+pre zc (s.drop i))else bad s i
 else if (isB 33 c||isB 59 c)=true then (⟨1,zx s i (i+1),0,i,false⟩,i+1)
 else if (isB 40 c||isB 41 c||isB 91 c||isB 93 c||isB 44 c||isB 124 c)=true then (⟨4,zx s i (i+1),0,i,false⟩,i+1)
 else if isB 39 c=true then
  match QN (s.drop (i+1))with
  |some m=>(⟨1,zx s (i+1) (i+1+m),0,i,false⟩,i+1+m+1)
  |none=>bad s i
 else bad s i
theorem qzr {s:Str} {i:Nat} {c:UInt8} (hc:s[i]? =some c):sgn s i c=qiC s i c:=by
 unfold sgn qiC
 by_cases hE:jU s i c=true
 ·obtain ⟨h46,hs⟩:=qqP hE
  obtain ⟨h1,h2,h3,h4,h5⟩:=qoP hs
  rw [h1,h2,h3,h4,h5,if_pos hE,if_pos hE,qiW hc,h46]
  rfl
 rw [if_neg hE,if_neg hE]
 by_cases hY:zc c=true
 ·obtain ⟨h1,h2,h3,h4,h5⟩:=qoP hY
  rw [h1,h2,h3,h4,h5,if_pos hY,if_pos hY]
  rfl
 rw [if_neg hY,if_neg hY]
 by_cases h1:(inB 97 122 c||yE c)=true
 ·rw [if_pos h1,if_pos h1]
 rw [if_neg h1,if_neg h1]
 by_cases h2:inB 48 57 c=true
 ·rw [if_pos h2,if_pos h2]
 rw [if_neg h2,if_neg h2]
 by_cases h3:isB 39 c=true
 ·have:=x8 (n:=39) h3
  subst this
  rw [if_pos (show isB 39 (UInt8.ofNat 39)=true by decide)]
  rfl
 ·rw [if_neg h3,if_neg h3]
theorem qnq: ∀ (r:Str),r[pre zW r]? =some 39→kW r=some (pre zW r)∧kg (r.take (pre zW r))=true
 |[],h=>by simp at h
 |c::r,h=>by
  simp only [pre]at h ⊢
  by_cases hc:zW c=true
  ·rw [if_pos hc]at h ⊢
   rw [List.getElem?_cons_succ]at h
   obtain ⟨h1,h2⟩:=qnq r h
   have h3:isB 39 c=false:=by
    cases hi:isB 39 c with
    |false=>rfl
    |true=>have:=x8 (n:=39) hi;subst this;cases hc
   refine ⟨by simp only [kW,h3,h1,Bool.false_eq_true,if_false,Option.map_some], ?_⟩
   unfold kg at h2 ⊢
   rw [List.take_succ_cons,List.all_cons,hc,h2];rfl
  ·rw [if_neg hc]at h ⊢
   simp only [List.getElem?_cons_zero,Option.some.injEq]at h
   subst h
   exact ⟨rfl,rfl⟩
theorem qnk: ∀ (r:Str) (k:Nat),kW r=some k→kg (r.take k)=true→pre zW r=k∧r[k]? =some 39
 |[],k,h,_=>by cases h
 |c::r,k,h,h2=>by
  simp only [kW]at h
  split at h
  ·rename_i h3
   cases h
   have:=x8 (n:=39) h3
   subst this
   exact ⟨rfl,rfl⟩
  ·rw [Option.map_eq_some_iff]at h
   obtain ⟨m,hm,rfl⟩:=h
   unfold kg at h2
   rw [List.take_succ_cons,List.all_cons,Bool.and_eq_true]at h2
   obtain ⟨h4,h5⟩:=qnk r m hm h2.2
   refine ⟨by simp only [pre,h2.1,if_true,h4],by rw [List.getElem?_cons_succ];exact h5⟩
theorem qx2(r:Str):QN r=if r[pre zW r]? =some 39∧1≤pre zW r∧pre zW r≤20 then some (pre zW r)else none:=by
 have hl: ∀ k,k < r.length→(r.take k).length=k:=fun k h=>by rw [List.length_take];omega
 unfold QN
 by_cases h:r[pre zW r]? =some 39
 ·obtain ⟨h1,h2⟩:=qnq r h
  have h3:=hl _ (qia h1)
  rw [h1]
  simp only [y5,h2,Bool.true_and,decide_eq_true_eq,h3,h,true_and]
 ·rw [if_neg fun h'=>h h'.1]
  split
  ·rename_i k hk
   split
   ·rename_i hn
    unfold y5 at hn
    rw [Bool.and_eq_true]at hn
    obtain ⟨h4,h5⟩:=qnk r k hk hn.1
    rw [h4]at h
    exact absurd h5 h
   ·rfl
  ·rfl
theorem qvB(c:UInt8):decide (0≤indexByte [40,41,91,93,44,124] c)=(isB 40 c||isB 41 c||isB 91 c||isB 93 c||isB 44 c||isB 124 c):=by
 have h:=qhw [40,41,91,93,44,124] c
 have e: ∀ n:Nat,n < 256→(isB n c=true↔c=UInt8.ofNat n):=fun n hn=>⟨x8,by
  rintro rfl
  unfold isB
  refine decide_eq_true ?_
  rw [UInt8.toNat_ofNat']
  omega⟩
 have e40:=e 40 (by decide)
 have e41:=e 41 (by decide)
 have e91:=e 91 (by decide)
 have e93:=e 93 (by decide)
 have e44:=e 44 (by decide)
 have e124:=e 124 (by decide)
 rw [Bool.eq_iff_iff,decide_eq_true_iff,h]
 simp only [Bool.or_eq_true]
 simp only [Int.cast_ofNat_Int]at e40 e41 e91 e93 e44 e124
 rw [e40,e41,e91,e93,e44,e124]
 simp only [List.mem_cons,List.not_mem_nil,or_false,or_assoc]
 rfl
theorem qvz {c:UInt8} (h:inB 97 122 c=true):yE c=false:=by
 unfold inB at h
 simp only [Bool.and_eq_true,decide_eq_true_eq]at h
 unfold yE inB isB
 simp only [Bool.or_eq_false_iff,Bool.and_eq_false_iff,decide_eq_false_iff_not]
 omega
end Go.Vm
