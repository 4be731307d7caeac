import Derived.Test.YtcaejgdpplbcbaaGreatDoorT07
import Derived.Test.YtcaejgdpplbcbaaGreatDoorT05
import Derived.Test.YtcaejgdpplbcbaaGreatDoorT03
import Derived.Shelf.Strconv.Itoa3
import Derived.Shelf.Strings.OnBuilder
import Derived.Shelf.Small.Strs
import Derived.Shelf.Strings.SplitShaped
import Derived.Shelf.Strings.Trim
import Derived.Test.YtcaejgdpplbcbaaGreatDoorProg
import Derived.KernelRfl
open Nat renaming reduceAdd → qa, reduceSub → qb, reduceMul → qc, reduceEqDiff → qd, reduceLeDiff → qe, reduceBEq → qf
set_option autoImplicit false
set_option maxHeartbeats 8000000
set_option maxRecDepth 100000
set_option linter.unusedSimpArgs false
set_option linter.unusedVariables false
namespace Go.Vm
def nl4:Str:=[10,32,32,32,32]
def bl:Nat→Tm→Str
 |0,_=>[]
 |n+1,t=>match zj t [44] 2,t.kids with
  |true,[a,b]=>nl4++held true 999 a++[44]++bl n b
  |_,_=>nl4++held true 999 t++[46,10]
theorem qgT {n:Nat} {t:Tm} (h:zj t [44] 2=false):bl (n+1) t=nl4++held true 999 t++[46,10]:=by
 simp only [bl,h]
theorem qgU {n:Nat} {t a b:Tm} (h:zj t [44] 2=true) (hk:t.kids=[a,b]):bl (n+1) t=nl4++held true 999 a++[44]++bl n b:=by
 simp only [bl,h,hk]
theorem qkw: ∀ (n:Nat) (t:Tm),Rt t→(bl n t).length≤60*nT t
 |0,t,_=>by simp [bl]
 |n+1,t,hr=>by
  cases h:zj t [44] 2 with
  |false=>
   have:=yL true 999 hr
   rw [qgT h]
   simp only [nl4,List.length_append,List.length_cons,List.length_nil];omega
  |true=>
   obtain ⟨-,-,a,b,hk⟩:=jW h
   have hnt:=js hk
   have h1:=yL true 999 (z7 hr a (by rw [hk];simp))
   have h2:=qkw n b (z7 hr b (by rw [hk];simp))
   rw [qgU h hk]
   simp only [nl4,List.length_append,List.length_cons,List.length_nil];omega
theorem qzL: ∀ (n:Nat) (t:Tm),nT t≤n→nT t≤400→Rt t→WT t→ ∀ (v:V),BT t v→ ∀ acc:Str,acc.length+60*nT t≤2^40→
 ∃ t' v' acc',BT t' v'∧zj t' [44] 2=false∧nT t'≤400∧Rt t'∧WT t'∧acc'++(nl4++held true 999 t'++[46,10])=acc++bl n t∧acc'.length+60*nT t'≤2^40∧
  lw qg qaT ⟨[(3,S acc),(4,.p (100000,0) 0 0)],[((100000,0),4,[v])]⟩=some (.exit 0,⟨[(3,S acc'),(4,.p (100000,0) 0 0)],[((100000,0),4,[v'])]⟩):=by
 intro n
 induction n with
 |zero=>intro t hn;have:=ye t;omega
 |succ n ih=>
  intro t hn hN hr hw v hb acc hacc
  have is:=Jn t v hb [44] 2
  cases h:zj t [44] 2 with
  |false=>
   rw [h]at is
   refine ⟨t,v,acc,hb,h,hN,hr,hw,by rw [qgT h],hacc, ?_⟩
   obtain ⟨τb,vsb,rfl,-⟩:=qy hb
   rw [qr]
   simp only [go_sem,qa,qb,qc,qd,qe,qf,reduceCtorEq,qei,is]
  |true=>
   rw [h]at is
   obtain ⟨-,-,a,b,hk⟩:=jW h
   have hnt:=js hk
   have hpa:=ye a
   have ra:=z7 hr a (by rw [hk];simp)
   have rb:=z7 hr b (by rw [hk];simp)
   have wa:=zp hw a (by rw [hk];simp)
   have wb:=zp hw b (by rw [hk];simp)
   have hl:=yL true 999 ra
   obtain ⟨τ,vs,rfl,hv⟩:=qy hb
   rw [hk]at hv
   obtain ⟨va,vb,rfl,ha,hb'⟩:=x3 hv
   have ca:=qmd a (by omega) ra wa 999 va ha
   obtain ⟨t',v',acc',g1,g2,g3,g4,g5,g6,g7,g8⟩:=ih b (by omega) (by omega) rb wb vb hb' (acc++nl4++held true 999 a++[44]) (by simp only [nl4,List.length_append,List.length_cons,List.length_nil];omega)
   refine ⟨t',v',acc',g1,g2,g3,g4,g5, ?_,g7, ?_⟩
   ·rw [g6,qgU h hk];simp only [List.append_assoc]
   ·have s1:qo .add (S acc) (S [10,32,32,32,32])=some (S (acc++nl4)):=qw (by simp only [List.length_cons,List.length_nil];omega)
    have s2:qo .add (S (acc++nl4)) (S (held true 999 a))=_:=qw (by simp only [nl4,List.length_append,List.length_cons,List.length_nil];omega)
    have s3:qo .add (S (acc++nl4++held true 999 a)) (S [44])=_:=qw (by simp only [nl4,List.length_append,List.length_cons,List.length_nil];omega)
    obtain ⟨τa,vsa,rfl,-⟩:=qy ha
    obtain ⟨τ2,vs2,rfl,-⟩:=qy hb'
    rw [qr]
    simp only [go_sem,qa,qb,qc,qd,qe,qf,reduceCtorEq,qei,is,ca,s1,s2,s3]
    exact g8
theorem qrg: ∀ (n:Nat) (t:Tm),nT t≤n→nT t≤400→Rt t→WT t→ ∀ (v:V),BT t v→ ∀ acc:Str,acc.length+60*nT t≤2^40→
 ∃ t' v' acc',BT t' v'∧zj t' [44] 2=false∧nT t'≤400∧Rt t'∧WT t'∧acc'++(nl4++held true 999 t'++[46,10])=acc++bl n t∧acc'.length+60*nT t'≤2^40∧
  lw qg qaK ⟨[(3,S acc),(4,.p (100000,0) 0 0)],[((100000,0),4,[v])]⟩=some (.exit 0,⟨[(3,S acc'),(4,.p (100000,0) 0 0)],[((100000,0),4,[v'])]⟩):=by
 intro n
 induction n with
 |zero=>intro t hn;have:=ye t;omega
 |succ n ih=>
  intro t hn hN hr hw v hb acc hacc
  have is:=qlL t v hb [44] 2
  cases h:zj t [44] 2 with
  |false=>
   rw [h]at is
   refine ⟨t,v,acc,hb,h,hN,hr,hw,by rw [qgT h],hacc, ?_⟩
   obtain ⟨τb,vsb,rfl,-⟩:=qy hb
   rw [qr]
   simp only [go_sem,qa,qb,qc,qd,qe,qf,reduceCtorEq,qed,is]
  |true=>
   rw [h]at is
   obtain ⟨-,-,a,b,hk⟩:=jW h
   have hnt:=js hk
   have hpa:=ye a
   have ra:=z7 hr a (by rw [hk];simp)
   have rb:=z7 hr b (by rw [hk];simp)
   have wa:=zp hw a (by rw [hk];simp)
   have wb:=zp hw b (by rw [hk];simp)
   have hl:=yL true 999 ra
   obtain ⟨τ,vs,rfl,hv⟩:=qy hb
   rw [hk]at hv
   obtain ⟨va,vb,rfl,ha,hb'⟩:=x3 hv
   have ca:=qkA a (by omega) ra wa 999 va ha
   obtain ⟨t',v',acc',g1,g2,g3,g4,g5,g6,g7,g8⟩:=ih b (by omega) (by omega) rb wb vb hb' (acc++(nl4++held true 999 a++[44])) (by simp only [nl4,List.length_append,List.length_cons,List.length_nil];omega)
   refine ⟨t',v',acc',g1,g2,g3,g4,g5, ?_,g7, ?_⟩
   ·rw [g6,qgU h hk];simp only [List.append_assoc]
   ·have s1:qo .add (S [10,32,32,32,32]) (S (held true 999 a))=some (S (nl4++held true 999 a)):=qw (by simp only [List.length_cons,List.length_nil];omega)
    have s2:qo .add (S (nl4++held true 999 a)) (S [44])=_:=qw (by simp only [nl4,List.length_append,List.length_cons,List.length_nil];omega)
    have s3:qo .add (S acc) (S (nl4++held true 999 a++[44]))=_:=qw (by simp only [nl4,List.length_append,List.length_cons,List.length_nil];omega)
    obtain ⟨τa,vsa,rfl,-⟩:=qy ha
    obtain ⟨τ2,vs2,rfl,-⟩:=qy hb'
    rw [qr]
    simp only [go_sem,qa,qb,qc,qd,qe,qf,reduceCtorEq,qed,is,ca,s1,s2,s3]
    exact g8
def Xt(c:Cl):Bool:=zb c.head&&(zb c.body&&decide (zh c.head≤1199))
def jZ(c:Cl):Str:=
 if Xt c=true then
  if yM c.body [116,114,117,101]=true then wr true c.head++[46,10]else wr true c.head++[32,58,45]++bl (nT c.body) c.body
 else xr true (yK c)++[32,46,10]
theorem qh3 {c:Cl} (h:Xt c=true):zb c.head=true∧zb c.body=true∧zh c.head≤1199:=by
 unfold Xt at h
 simp only [Bool.and_eq_true,decide_eq_true_eq]at h
 exact h
theorem qnf(c:Cl):(jZ c).length≤50000:=by
 unfold jZ
 split
 ·rename_i h
  obtain ⟨h1,h2,-⟩:=qh3 h
  obtain ⟨n1,r1⟩:=QT h1
  obtain ⟨n2,r2⟩:=QT h2
  have l1:=(Qv true r1).1
  have l2:=qkw (nT c.body) c.body r2
  split<;>simp only [List.length_append,List.length_cons,List.length_nil]<;>omega
 ·have:=qfL true (yK c)
  simp only [List.length_append,List.length_cons,List.length_nil];omega
theorem qvf(t:Tm) (v:V) (hb:BT t v):cr qg qgD [v]=some (B (yM t [116,114,117,101])):=by
 obtain ⟨τ,vs,rfl,hv⟩:=qy hb
 rw [qn qxE rfl]
 unfold yM
 cases h1:decide (t.kind=2)<;>simp only [go_sem,qa,qb,qc,qd,qe,qf,reduceCtorEq,Kx,h1,Bool.true_and,Bool.false_and]
theorem qmP(c:Cl):oT (yK c)= .a [I 4,S [58,45],I 0,.o 4 [oT c.head,oT c.body]]:=by
 rw [qv];rfl
theorem qkn(τ τ':Bool) (c:Cl):BT (yK c) (.a [I 4,S [58,45],I 0,.i τ [iT τ' c.head,iT τ' c.body]]):=by
 unfold yK
 exact KE.2 ⟨τ,_,rfl,_,_,rfl,yY τ' c.head,_,_,rfl,yY τ' c.body,rfl⟩
theorem qlI(c:Cl) (hw:wCl c) (v:V) (h:bCl c v):cr qg qdk [v]=some (S (jZ c)):=by
 have hct:=qq7 c hw v h
 rw [qmP]at hct
 have hwp:=qhr (yK c) (qg0 c hw).1 _ (qkn true true c)
 obtain ⟨τ0,vs0,τ1,vs1,rfl,h0,h1⟩:=h
 have t1:=qhq c.head hw.1.1 _ (yH (τ:=τ0) h0)
 have t2:=qhq c.body hw.2.1.1 _ (yH (τ:=τ1) h1)
 have pr:=qho c.head _ (yH (τ:=τ0) h0)
 have wh:=qhr c.head hw.1.1 _ (yH (τ:=τ0) h0)
 have ia:=qht c.body _ (yH (τ:=τ1) h1) [116,114,117,101]
 have lw1:=qfL true (yK c)
 have sx:qo .add (S (xr true (yK c))) (S [32,46,10])=_:=qw (by simp only [List.length_cons,List.length_nil];omega)
 rw [qn qv0 rfl]
 unfold jZ
 cases hp:Xt c with
 |false=>
  rw [if_neg (by decide)]
  unfold Xt at hp
  cases d1:zb c.head with
  |false=>rw [d1]at t1;simp only [go_sem,qa,qb,qc,qd,qe,qf,reduceCtorEq,Qb,t1,hct,hwp,sx]
  |true=>
  rw [d1]at t1 hp
  cases d2:zb c.body with
  |false=>rw [d2]at t2;simp only [go_sem,qa,qb,qc,qd,qe,qf,reduceCtorEq,Qb,t1,t2,hct,hwp,sx]
  |true=>
  rw [d2]at t2 hp
  have d3:(1199:Int) < zh c.head:=by simpa using hp
  simp only [go_sem,qa,qb,qc,qd,qe,qf,reduceCtorEq,Qb,t1,t2,pr,d3,hct,hwp,sx]
 |true=>
  rw [if_pos rfl]
  obtain ⟨k1,k2,k3⟩:=qh3 hp
  obtain ⟨n1,r1⟩:=QT k1
  obtain ⟨n2,r2⟩:=QT k2
  have l1:=(Qv true r1).1
  have d3: ¬ (1199:Int) < zh c.head:=by omega
  have hwr:xr true c.head=wr true c.head:=by unfold xr;rw [if_pos k1]
  rw [k1]at t1
  rw [k2]at t2
  rw [hwr]at wh
  cases hi:yM c.body [116,114,117,101]with
  |true=>
   have s1:qo .add (S (wr true c.head)) (S [46,10])=_:=qw (by simp only [List.length_cons,List.length_nil];omega)
   rw [hi]at ia
   rw [if_pos rfl]
   simp only [go_sem,qa,qb,qc,qd,qe,qf,reduceCtorEq,Qb,t1,t2,pr,d3,wh,ia,s1]
  |false=>
   have s1:qo .add (S (wr true c.head)) (S [32,58,45])=_:=qw (by simp only [List.length_cons,List.length_nil];omega)
   rw [hi]at ia
   rw [if_neg (by decide)]
   obtain ⟨t',v',acc',g1,g2,g3,g4,g5,g6,g7,g8⟩:=qrg (nT c.body) c.body (Nat.le_refl _) n2 r2 hw.2.1.1 _ (yH (τ:=τ1) h1) (wr true c.head++[32,58,45]) (by simp only [List.length_append,List.length_cons,List.length_nil];omega)
   have hl:=yL true 999 g4
   have cb:=qkA t' g3 g4 g5 999 v' g1
   have s2:qo .add (S acc') (S [10,32,32,32,32])=some (S (acc'++nl4)):=qw (by simp only [List.length_cons,List.length_nil];omega)
   have s3:qo .add (S (acc'++nl4)) (S (held true 999 t'))=_:=qw (by simp only [nl4,List.length_append,List.length_cons,List.length_nil];omega)
   have s4:qo .add (S (acc'++nl4++held true 999 t')) (S [46,10])=_:=qw (by simp only [nl4,List.length_append,List.length_cons,List.length_nil];omega)
   have he:acc'++(nl4++held true 999 t'++[46,10])=acc'++nl4++held true 999 t'++[46,10]:=by simp only [List.append_assoc]
   rw [← g6,he]
   obtain ⟨τc,vsc,rfl,-⟩:=qy g1
   simp only [go_sem,qa,qb,qc,qd,qe,qf,reduceCtorEq,Qb,t1,t2,pr,d3,wh,ia,s1,g8,cb,s2,s3,s4]
theorem qoD(c:Cl) (hw:wCl c) (v:V) (h:bCl c v) (hn:qW v=true):cr qg qdE [v]=some (S (jZ c)):=by
 have hct:=qzB c hw v h hn
 rw [qmP]at hct
 have hwp:=qoG (yK c) (qg0 c hw).1 _ (qkn true true c)
 obtain ⟨τ0,vs0,τ1,vs1,rfl,h0,h1⟩:=h
 have t1:=k9 c.head hw.1.1 _ (yH (τ:=τ0) h0)
 have t2:=k9 c.body hw.2.1.1 _ (yH (τ:=τ1) h1)
 have pr:=qiP c.head _ (yH (τ:=τ0) h0)
 have ia:=qvf c.body _ (yH (τ:=τ1) h1)
 have lw1:=qfL true (yK c)
 have sx:qo .add (S (xr true (yK c))) (S [32,46,10])=_:=qw (by simp only [List.length_cons,List.length_nil];omega)
 rw [qn qwO rfl]
 unfold jZ
 cases hp:Xt c with
 |false=>
  rw [if_neg (by decide)]
  unfold Xt at hp
  cases d1:zb c.head with
  |false=>rw [d1]at t1;simp only [go_sem,qa,qb,qc,qd,qe,qf,reduceCtorEq,Qe,t1,hct,hwp,sx]
  |true=>
  rw [d1]at t1 hp
  cases d2:zb c.body with
  |false=>rw [d2]at t2;simp only [go_sem,qa,qb,qc,qd,qe,qf,reduceCtorEq,Qe,t1,t2,hct,hwp,sx]
  |true=>
  rw [d2]at t2 hp
  have d3:(1199:Int) < zh c.head:=by simpa using hp
  simp only [go_sem,qa,qb,qc,qd,qe,qf,reduceCtorEq,Qe,t1,t2,pr,d3,hct,hwp,sx]
 |true=>
  rw [if_pos rfl]
  obtain ⟨k1,k2,k3⟩:=qh3 hp
  obtain ⟨n1,r1⟩:=QT k1
  obtain ⟨n2,r2⟩:=QT k2
  have l1:=(Qv true r1).1
  have d3: ¬ (1199:Int) < zh c.head:=by omega
  have wh:=qhE (nT c.head) c.head (Nat.le_refl _) n1 r1 hw.1.1 _ (yH (τ:=τ0) h0)
  rw [k1]at t1
  rw [k2]at t2
  cases hi:yM c.body [116,114,117,101]with
  |true=>
   have s1:qo .add (S (wr true c.head)) (S [46,10])=_:=qw (by simp only [List.length_cons,List.length_nil];omega)
   rw [hi]at ia
   rw [if_pos rfl]
   simp only [go_sem,qa,qb,qc,qd,qe,qf,reduceCtorEq,Qe,t1,t2,pr,d3,wh,ia,s1]
  |false=>
   have s1:qo .add (S (wr true c.head)) (S [32,58,45])=_:=qw (by simp only [List.length_cons,List.length_nil];omega)
   rw [hi]at ia
   rw [if_neg (by decide)]
   obtain ⟨t',v',acc',g1,g2,g3,g4,g5,g6,g7,g8⟩:=qzL (nT c.body) c.body (Nat.le_refl _) n2 r2 hw.2.1.1 _ (yH (τ:=τ1) h1) (wr true c.head++[32,58,45]) (by simp only [List.length_append,List.length_cons,List.length_nil];omega)
   have hl:=yL true 999 g4
   have cb:=qmd t' g3 g4 g5 999 v' g1
   have s2:qo .add (S acc') (S [10,32,32,32,32])=some (S (acc'++nl4)):=qw (by simp only [List.length_cons,List.length_nil];omega)
   have s3:qo .add (S (acc'++nl4)) (S (held true 999 t'))=_:=qw (by simp only [nl4,List.length_append,List.length_cons,List.length_nil];omega)
   have s4:qo .add (S (acc'++nl4++held true 999 t')) (S [46,10])=_:=qw (by simp only [nl4,List.length_append,List.length_cons,List.length_nil];omega)
   have he:acc'++(nl4++held true 999 t'++[46,10])=acc'++nl4++held true 999 t'++[46,10]:=by simp only [List.append_assoc]
   rw [← g6,he]
   obtain ⟨τc,vsc,rfl,-⟩:=qy g1
   simp only [go_sem,qa,qb,qc,qd,qe,qf,reduceCtorEq,Qe,t1,t2,pr,d3,wh,ia,s1,g8,cb,s2,s3,s4]
end Go.Vm
namespace Go.Vm
def Zy:List Cl→Str
 |[]=>[]
 |c::cs=>jZ c++Zy cs
theorem qmF: ∀ {vs:List V} {i:Nat} {v:V},qJ vs=true→vs[i]? =some v→qW v=true
 |[],i,v,_,h=>by simp at h
 |x::xs,0,v,h,hv=>by
  simp only [List.getElem?_cons_zero,Option.some.injEq]at hv
  subst hv
  simp only [qJ,Bool.and_eq_true]at h
  exact h.1
 |x::xs,i+1,v,h,hv=>by
  rw [List.getElem?_cons_succ]at hv
  simp only [qJ,Bool.and_eq_true]at h
  exact qmF h.2 hv
theorem qzD(x:Db) (τ0 τ1:Bool) (vs:List V) (hv:RL bCl x.clauses vs) (hlim:x.clauses.length≤Lm) (hw: ∀ c ∈ x.clauses,wCl c) (hnt:qJ vs=true) (m:Nat):
 ∀ (i:Nat) (acc:Str),i+m=x.clauses.length→acc.length≤i*50000→
 lw qg qaU ⟨[(1,.p (100000,0) 0 0),(3,S acc),(4,I i)],[((100000,0),2,[.a [.i τ0 vs,.i τ1 (x.opn.map S)]])]⟩=
  some (.exit 0,⟨[(3,S (acc++Zy (x.clauses.drop i)))],[((100000,0),2,[.a [.i τ0 vs,.i τ1 (x.opn.map S)]])]⟩):=by
 unfold Lm at hlim
 have hn:=zk hv
 induction m with
 |zero=>
  intro i acc hi ha
  have h: ¬ (i:Int) < x.clauses.length:=by omega
  rw [List.drop_eq_nil_of_le (by omega),qr]
  simp only [go_sem,qa,qb,qc,qd,qe,qf,reduceCtorEq,qej,hn,h,Zy,List.append_nil]
 |succ m ih=>
  intro i acc hi ha
  have h:(i:Int) < x.clauses.length:=by omega
  obtain ⟨c,hc⟩:=zm (l:=x.clauses) (i:=i) (by omega)
  obtain ⟨v,gv,hbt⟩:=xZ hv hc
  have a1:=fun T=>zy (τ:=τ0) (T:=T) (e:=9) gv (by obtain ⟨_,_,_,_,rfl,_⟩:=hbt;rfl)
  have cc:=qoD c (hw c (List.mem_of_getElem? hc)) v hbt (qmF hnt gv)
  have hl:=qnf c
  have e1:w64 ((i:Int)+1)=((i+1:Nat):Int):=by rw [qp]<;>omega
  have s1:qo .add (S acc) (S (jZ c))=_:=qw (by omega)
  have i1:=ih (i+1) (acc++jZ c) (by omega) (by simp only [List.length_append];omega)
  rw [y1 hc,Zy, ← List.append_assoc]
  obtain ⟨_,_,_,_,rfl,_⟩:=hbt
  rw [qr]
  simp only [go_sem,qa,qb,qc,qd,qe,qf,reduceCtorEq,qej,hn,h,a1,gv,cc,e1,s1]
  exact i1
theorem qq8(x:Db) (τ0:Bool) (vs:List V) (hv:RL bCl x.clauses vs) (hlim:x.clauses.length≤Lm) (hw: ∀ c ∈ x.clauses,wCl c) (m:Nat):
 ∀ (i:Nat) (acc:Str),i+m=x.clauses.length→acc.length≤i*50000→
 lw qg qaL ⟨[(3,S acc),(7,.i τ0 vs),(8,I x.clauses.length),(9,I i)],[]⟩=
  some (.exit 0,⟨[(3,S (acc++Zy (x.clauses.drop i)))],[]⟩):=by
 unfold Lm at hlim
 have hn:=zk hv
 induction m with
 |zero=>
  intro i acc hi ha
  have h: ¬ (i:Int) < x.clauses.length:=by omega
  rw [List.drop_eq_nil_of_le (by omega),qr]
  simp only [go_sem,qa,qb,qc,qd,qe,qf,reduceCtorEq,qee,hn,h,Zy,List.append_nil]
 |succ m ih=>
  intro i acc hi ha
  have h:(i:Int) < x.clauses.length:=by omega
  obtain ⟨c,hc⟩:=zm (l:=x.clauses) (i:=i) (by omega)
  obtain ⟨v,gv,hbt⟩:=xZ hv hc
  have a1:=fun T=>zy (τ:=τ0) (T:=T) (e:=9) gv (by obtain ⟨_,_,_,_,rfl,_⟩:=hbt;rfl)
  have cc:=qlI c (hw c (List.mem_of_getElem? hc)) v hbt
  have hl:=qnf c
  have e1:w64 ((i:Int)+1)=((i+1:Nat):Int):=by rw [qp]<;>omega
  have s1:qo .add (S acc) (S (jZ c))=_:=qw (by omega)
  have i1:=ih (i+1) (acc++jZ c) (by omega) (by simp only [List.length_append];omega)
  rw [y1 hc,Zy, ← List.append_assoc]
  obtain ⟨_,_,_,_,rfl,_⟩:=hbt
  rw [qr]
  simp only [go_sem,qa,qb,qc,qd,qe,qf,reduceCtorEq,qee,hn,h,a1,gv,cc,e1,s1]
  exact i1
theorem qzE(x:Db) (hw:wDb x) (v:V) (h:bDb x v) (hn:qW v=true):cr qg qge [v]=some (S (Zy x.clauses)):=by
 obtain ⟨τ0,vs,τ1,rfl,hv⟩:=h
 simp only [qW,qJ,Bool.and_eq_true]at hn
 have lp:=qzD x τ0 τ1 vs hv hw.1.1 hw.1.2 hn.1.2 x.clauses.length 0 [] (by omega) (Nat.zero_le _)
 simp only [Int.natCast_zero,List.nil_append,List.drop_zero]at lp
 rw [qn qwP rfl]
 simp only [go_sem,qa,qb,qc,qd,qe,qf,reduceCtorEq,X9,lp]
theorem qq9(x:Db) (hw:wDb x) (v:V) (h:bDb x v):cr qg qfS [v]=some (S (Zy x.clauses)):=by
 obtain ⟨τ0,vs,τ1,rfl,hv⟩:=h
 have hn:=zk hv
 have lp:=qq8 x τ0 vs hv hw.1.1 hw.1.2 x.clauses.length 0 [] (by omega) (Nat.zero_le _)
 simp only [Int.natCast_zero,List.nil_append,List.drop_zero]at lp
 rw [qn qv1 rfl]
 simp only [go_sem,qa,qb,qc,qd,qe,qf,reduceCtorEq,XM,hn,lp]
end Go.Vm
set_option maxHeartbeats 16000000
namespace Go.Vm
theorem qu9(bs:List UInt8) (hl:bs.length≤2^40) (i:Nat) (h:Int) (hi:i≤bs.length):
 ∃ (i':Nat) (h':Int) (x:Db),cw qg qgw [CU bs i h]=some (oF x,[CU bs i' h'])∧i'≤bs.length∧DD 150 x∧1≤x.clauses.length:=by
 obtain ⟨i1,h1,k,b1,p1,q1,r1⟩:=xN bs hl i h hi 10 (by decide) (by decide)
 obtain ⟨i2,h2,x,b2,p2,dx,lx⟩:=qvd bs hl i1 h1 p1
 have dl:=dx.l
 have cp:=qhC x (by unfold Lm;omega) (by have:=dx.o.1;unfold Lm;omega) false false _ (K2 (K6 false) _) (Zs _)
 have tko:=List.take_of_length_le (l:=x.opn.map S) (i:=x.opn.length) (by simp)
 have tkc: ∀ l:List Cl,(l.map (iCl false)).take l.length=l.map (iCl false):=fun l=>List.take_of_length_le (by simp)
 unfold iDb at b2
 unfold CU at b1 b2
 by_cases k0:k=0
 ·have d0:decide (k=0)=true:=decide_eq_true k0
  obtain ⟨i3,h3,t,b3,p3,w3⟩:=Yk bs hl i2 h2 p2
  obtain ⟨i4,h4,u,b4,p4,w4⟩:=Yk bs hl i3 h3 p3
  refine ⟨i4,h4,⟨x.clauses++[⟨t,u,[]⟩],x.opn⟩, ?_,p4,⟨?_,by simp only [List.length_append,List.length_cons,List.length_nil];omega,dx.o⟩,by simp⟩
  ·have b1':decide ((x.clauses.length+1)*128≤lim)=true:=decide_eq_true (by rw [ze];omega)
   have b2':decide (x.clauses.length+1≤lim)=true:=decide_eq_true (by rw [ze];omega)
   have e:(x.clauses++[(⟨t,u,[]⟩:Cl)]).map (iCl false)=x.clauses.map (iCl false)++[.a [I t.kind,S t.name,I t.num,.i false (t.kids.map (iT false)),I u.kind,S u.name,I u.num,.i false (u.kids.map (iT false)),S []]]:=by
    rw [List.map_append];rfl
   have tk1: ∀ w:V,(x.clauses.map (iCl false)++[w]).take (x.clauses.length+1)=x.clauses.map (iCl false)++[w]:=fun w=>List.take_of_length_le (by simp)
   rw [qK qeY rfl]
   unfold oF
   rw [e]
   unfold CU at b3 b4 ⊢
   rw [qv]at b3 b4
   simp only [go_sem,qa,qb,qc,qd,qe,qf,reduceCtorEq,Q7,qC,b1,b2,b3,b4,cp,d0,b1',b2',tko,tkc,tk1,Zk,Jl,Jo,JC,Jc,Zs,List.length_map]
  ·intro c hc
   rcases List.mem_append.1 hc with hc|hc
   ·exact dx.c c hc
   ·simp only [List.mem_singleton]at hc;subst hc
    exact ⟨zJ w3 (by decide),zJ w4 (by decide),by simp⟩
 have d0:decide (k=0)=false:=decide_eq_false k0
 by_cases k1:k=1
 ·have d1:decide (k=1)=true:=decide_eq_true k1
  obtain ⟨c,hc⟩:=zm (l:=x.clauses) (i:=0) (by omega)
  have lp:=qu8 bs i2 h2 x.opn c 120 0 x.clauses (by omega) (by omega) hc
  simp only [Int.natCast_zero]at lp
  refine ⟨i2,h2,⟨x.clauses++List.replicate 120 c,x.opn⟩, ?_,p2,⟨?_,by simp only [List.length_append,List.length_replicate];omega,dx.o⟩,by simp only [List.length_append];omega⟩
  ·generalize x.clauses++List.replicate 120 c=cs at lp ⊢
   rw [qK qeY rfl]
   unfold oF CU
   simp only [go_sem,qa,qb,qc,qd,qe,qf,reduceCtorEq,Q7,qC,b1,b2,cp,d0,d1,lp,tko,tkc,Zk,Jl,Jo,JC,Jc,Zs,List.length_map]
  ·intro y hy
   rcases List.mem_append.1 hy with hy|hy
   ·exact dx.c y hy
   ·rw [(List.mem_replicate.1 hy).2];exact dx.c c (List.mem_of_getElem? hc)
 have d1:decide (k=1)=false:=decide_eq_false k1
 by_cases k2:k=2
 ·have d2:decide (k=2)=true:=decide_eq_true k2
  refine ⟨i2,h2,⟨x.clauses,List.replicate 41 []⟩, ?_,p2,⟨dx.c,by simp only;omega,by simp only [List.length_replicate];exact ⟨by omega,fun s hs=>by rw [(List.mem_replicate.1 hs).2];simp⟩⟩,lx⟩
  have mk: ∀ σ T,mkK 1 16 (S []) (I 41) (I 41) 41 σ T=_:=fun σ T=>qvC (σ:=σ) (T:=T) (e:=1) (bytes:=16) (z:=S []) (n:=41) (d:=41) (by decide) (by decide) rfl rfl rfl
  have tk41:(List.replicate 41 (S [])).take 41=List.replicate 41 (S []):=List.take_of_length_le (by simp)
  rw [qK qeY rfl]
  unfold oF CU
  rw [List.map_replicate]
  simp only [go_sem,qa,qb,qc,qd,qe,qf,reduceCtorEq,Q7,qC,b1,b2,cp,d0,d1,d2,mk,tk41,tko,tkc,Zk,Jl,Jo,JC,Jc,Zs,List.length_map]
 have d2:decide (k=2)=false:=decide_eq_false k2
 refine ⟨i2,h2,x, ?_,p2,qjj dx (by decide),lx⟩
 rw [qK qeY rfl]
 unfold oF CU
 simp only [go_sem,qa,qb,qc,qd,qe,qf,reduceCtorEq,Q7,qC,b1,b2,cp,d0,d1,d2,tko,tkc,Zk,Jl,Jo,JC,Jc,Zs,List.length_map]
theorem qph(bs:List UInt8) (hl:bs.length≤2^40): ∃ x:Db,cr qg qf9 [.i false (bs.map qY)]=some (oF x)∧DD 150 x:=by
 obtain ⟨h,n⟩:=Jm bs hl
 obtain ⟨i1,h1,x,b1,p1,w,-⟩:=qu9 bs hl 0 h (Nat.zero_le _)
 refine ⟨x, ?_,w⟩
 have tko:=List.take_of_length_le (l:=x.opn.map S) (i:=x.opn.length) (by simp)
 have tkc: ∀ l:List Cl,(l.map (iCl false)).take l.length=l.map (iCl false):=fun l=>List.take_of_length_le (by simp)
 rw [qn qwK rfl]
 unfold CU at n b1
 unfold oF at*
 simp only [Int.natCast_zero]at n b1
 simp only [go_sem,qa,qb,qc,qd,qe,qf,reduceCtorEq,X6,n,b1,tko,tkc,Zk,Jl,Jo,JC,Jc,Zs,List.length_map]
end Go.Vm
namespace Go.Vm
theorem qvu(bs:List UInt8):cr qg qfZ [.i false (bs.map qY)]=some (B (decide ((1048576:Int) < bs.length))):=by
 rw [qn qwA rfl]
 simp only [go_sem,qa,qb,qc,qd,qe,qf,reduceCtorEq,X2,List.length_map]
section
variable {P:Program}
def cU(c:UInt8) (xs:List V):Prop:=xs=[qY c]
def RU(c:UInt8) (v:V):Prop:=v=qY c
theorem qyf {t:TypeId} (hu:P.underlying t=some (.int .u8)):RdC P t cU (fun _=>True):=fun n xs h hb=>by
 cases n with
 |zero=>simp [Shp]at h
 |succ n=>
  simp only [Shp,hu]at h
  obtain ⟨m,rfl,hw⟩:=h
  simp only [Lit.wf,IntKind.min,IntKind.max,IntKind.signed,IntKind.bits,Bool.and_eq_true,decide_eq_true_eq]at hw
  simp at hw
  refine ⟨by simp [zl,x6],UInt8.ofNat m.toNat, ?_,trivial⟩
  unfold cU qY
  have:((UInt8.ofNat m.toNat).toNat:Int)=m:=by
   rw [UInt8.toNat_ofNat']
   omega
  rw [this]
theorem qAt {te:TypeId} (hu:P.underlying te=some (.int .u8)): ∀ (x:UInt8) (zs:List V),cU x zs→RU x (xq P te zs)∧(yN P te=false→ ∃ z,zs=[z]):=fun x zs h=>by
 unfold cU at h;subst h
 rw [qAu hu]
 exact ⟨rfl,fun _=>⟨_,rfl⟩⟩
theorem qpL {l:List UInt8} {vs:List V} (h:RL RU l vs):vs=l.map qY:=qjW (fun _ _ h=>h) h
end
end Go.Vm
namespace Go.Vm
theorem qjn {m:Nat} {t:Tm} (h:Dr m t) (hm:m≤10000):wTm t:=⟨h.1,by have:=h.2;unfold Lm;omega⟩
theorem qfQ {c:Cl} (h:DC c):wCl c:=⟨qjn h.h (by decide),qjn h.b (by decide),by have:=h.f;unfold wS Lm;omega⟩
theorem qjk {n:Nat} {x:Db} (h:DD n x) (hn:n≤1000):wDb x:=
 ⟨⟨by have:=h.l;unfold Lm;omega,fun c hc=>qfQ (h.c c hc)⟩,by have:=h.o.1;unfold Lm;omega,fun s hs=>by have:=h.o.2 s hs;unfold wS Lm;omega⟩
theorem qvr(bs:List UInt8) (hw:bs.length≤Lm): ∃ outs,cw qg qfY [.i false (bs.map qY)]=some (B true,outs):=by
 have hl:bs.length≤2^40:=by unfold Lm at hw;omega
 have bg:=qvu bs
 obtain ⟨t,dt,wt⟩:=qpk bs hl
 obtain ⟨c,dc,wc⟩:=qpg bs hl
 obtain ⟨x,dx,wx⟩:=qph bs hl
 obtain ⟨u,du,wu⟩:=qpi bs hl
 have i1:=qhr t wt.1 (iT false t) (yY false t)
 have s1:=qoG t wt.1 (iT false t) (yY false t)
 have i2:=qlI c (qfQ wc) (iCl false c) (K6 false c)
 have s2:=qoD c (qfQ wc) (iCl false c) (K6 false c) (qhP c)
 have i3:=qq9 x (qjk wx (by decide)) (iDb false x) (qko false x)
 have s3:=qzE x (qjk wx (by decide)) (iDb false x) (qko false x) (qhQ x)
 have i4:=qho u (iT false u) (yY false u)
 have s4:=qiP u (iT false u) (yY false u)
 have cx: ∀ τ,qU τ (x.clauses.map (iCl false))=x.clauses.map (iCl false):=fun τ=>Jc τ false _
 unfold iDb at i3 s3
 unfold oF at dx
 apply qqE
 rw [qn qwz rfl]
 cases hb:decide ((1048576:Int) < bs.length)with
 |true=>
  rw [hb]at bg
  simp only [go_sem,qa,qb,qc,qd,qe,qf,reduceCtorEq,YF,bg]
 |false=>
  rw [hb]at bg
  simp only [go_sem,qa,qb,qc,qd,qe,qf,reduceCtorEq,YF,qje,qjf,bg,dt,dc,dx,du,i1,s1,i2,s2,i3,s3,i4,s4,cx,Zs]
theorem qvq(x:List UInt8) (hw:wL (fun _=>True) x) (τ:Bool) (vs:List V) (hv:RL RU x vs): ∃ outs,cw qg qfY [.i false vs]=some (B true,outs):=by
 rw [qpL hv]
 exact qvr x hw.1
end Go.Vm
namespace Go.Proofs
open Go.Shelf
def K3:Go.Shelf.Ren:=⟨fun|146=>158|221=>238|268=>303|138=>304|143=>305|195=>347|197=>307|218=>348|219=>349|260=>350|217=>371|225=>372|224=>373|267=>374|266=>404|314=>405|n=>n,fun|9=>9|31=>23|3=>3|4=>4|0=>0|105=>253|21=>21|5=>5|46=>242|119=>301|139=>304|138=>303|146=>338|51=>337|n=>n,fun|1=>0|3=>1|4=>2|n=>n⟩
theorem qew:Go.Proofs.LaysM.n146 Tryz.prog K3 where
 mixed:=by kernel_rfl
 f138:=Tryz.func304.trans (congrArg some (by kernel_rfl))
 f143:=Tryz.func305.trans (congrArg some (by kernel_rfl))
 f146:=Tryz.func158.trans (congrArg some (by kernel_rfl))
 f195:=Tryz.func347.trans (congrArg some (by kernel_rfl))
 f197:=Tryz.func307.trans (congrArg some (by kernel_rfl))
 f217:=Tryz.func371.trans (congrArg some (by kernel_rfl))
 f218:=Tryz.func348.trans (congrArg some (by kernel_rfl))
 f219:=Tryz.func349.trans (congrArg some (by kernel_rfl))
 f221:=Tryz.func238.trans (congrArg some (by kernel_rfl))
 f224:=Tryz.func373.trans (congrArg some (by kernel_rfl))
 f225:=Tryz.func372.trans (congrArg some (by kernel_rfl))
 f260:=Tryz.func350.trans (congrArg some (by kernel_rfl))
 f266:=Tryz.func404.trans (congrArg some (by kernel_rfl))
 f267:=Tryz.func374.trans (congrArg some (by kernel_rfl))
 f268:=Tryz.func303.trans (congrArg some (by kernel_rfl))
 f314:=Tryz.func405.trans (congrArg some (by kernel_rfl))
 t0:=Tryz.underlying0
 a0:=Tryz.isAgg0
 z0:=Tryz.sizeOf0
 v0:=Tryz.zeroValue0
 t3:=Tryz.underlying3
 a3:=Tryz.isAgg3
 z3:=Tryz.sizeOf3
 v3:=Tryz.zeroValue3
 t4:=Tryz.underlying4
 a4:=Tryz.isAgg4
 z4:=Tryz.sizeOf4
 v4:=Tryz.zeroValue4
 t5:=Tryz.underlying5
 a5:=Tryz.isAgg5
 z5:=Tryz.sizeOf5
 v5:=Tryz.zeroValue5
 t9:=Tryz.underlying9
 a9:=Tryz.isAgg9
 z9:=Tryz.sizeOf9
 v9:=Tryz.zeroValue9
 t21:=Tryz.underlying21
 a21:=Tryz.isAgg21
 z21:=Tryz.sizeOf21
 v21:=Tryz.zeroValue21
 t31:=Tryz.underlying23
 a31:=Tryz.isAgg23
 z31:=Tryz.sizeOf23
 v31:=Tryz.zeroValue23
 t46:=Tryz.underlying242
 a46:=Tryz.isAgg242
 z46:=Tryz.sizeOf242
 v46:=Tryz.zeroValue242
 t51:=Tryz.underlying337
 a51:=Tryz.isAgg337
 z51:=Tryz.sizeOf337
 v51:=Tryz.zeroValue337
 t105:=Tryz.underlying253
 a105:=Tryz.isAgg253
 z105:=Tryz.sizeOf253
 v105:=Tryz.zeroValue253
 t119:=Tryz.underlying301
 a119:=Tryz.isAgg301
 z119:=Tryz.sizeOf301
 t138:=Tryz.underlying303
 a138:=Tryz.isAgg303
 z138:=Tryz.sizeOf303
 v138:=Tryz.zeroValue303
 t139:=Tryz.underlying304
 a139:=Tryz.isAgg304
 z139:=Tryz.sizeOf304
 v139:=Tryz.zeroValue304
 t146:=Tryz.underlying338
 a146:=Tryz.isAgg338
 z146:=Tryz.sizeOf338
 v146:=Tryz.zeroValue338
 g1:=by kernel_rfl
 g3:=by kernel_rfl
 g4:=by kernel_rfl
 i0:=by kernel_rfl
 i3:=by kernel_rfl
 i4:=by kernel_rfl
 i5:=by kernel_rfl
 i9:=by kernel_rfl
 i21:=by kernel_rfl
 i31:=by kernel_rfl
 i46:=by kernel_rfl
 i51:=by kernel_rfl
 i105:=by kernel_rfl
 i138:=by kernel_rfl
 i139:=by kernel_rfl
 i146:=by kernel_rfl
 m1:=by kernel_rfl
 s1_3:=fun w h=>Go.Proofs.cell_of_shapedOpen_int (zero:= #[.int .i64 0]) (t:=3) h (of_decide_eq_true (by kernel_rfl)) (by kernel_rfl) rfl (by kernel_rfl) (by kernel_rfl) Tryz.underlying3
 m3:=by kernel_rfl
 m4:=by kernel_rfl
def qj3:Go.Shelf.Ren:=⟨fun|160=>159|232=>240|231=>239|227=>241|234=>243|233=>242|236=>245|235=>244|228=>306|271=>309|151=>308|197=>307|120=>352|152=>351|260=>350|137=>375|119=>376|224=>373|225=>372|217=>371|266=>404|n=>n,fun|9=>9|4=>4|3=>3|5=>5|117=>218|116=>217|0=>0|124=>221|21=>21|105=>253|46=>242|119=>301|139=>304|138=>303|n=>n,fun|3=>1|4=>2|n=>n⟩
theorem qj2:Go.Proofs.Lays.n160 Tryz.prog qj3 where
 mixed:=by kernel_rfl
 f119:=Tryz.func376.trans (congrArg some (by kernel_rfl))
 f120:=Tryz.func352.trans (congrArg some (by kernel_rfl))
 f137:=Tryz.func375.trans (congrArg some (by kernel_rfl))
 f151:=Tryz.func308.trans (congrArg some (by kernel_rfl))
 f152:=Tryz.func351.trans (congrArg some (by kernel_rfl))
 f160:=Tryz.func159.trans (congrArg some (by kernel_rfl))
 f197:=Tryz.func307.trans (congrArg some (by kernel_rfl))
 f217:=Tryz.func371.trans (congrArg some (by kernel_rfl))
 f224:=Tryz.func373.trans (congrArg some (by kernel_rfl))
 f225:=Tryz.func372.trans (congrArg some (by kernel_rfl))
 f227:=Tryz.func241.trans (congrArg some (by kernel_rfl))
 f228:=Tryz.func306.trans (congrArg some (by kernel_rfl))
 f231:=Tryz.func239.trans (congrArg some (by kernel_rfl))
 f232:=Tryz.func240.trans (congrArg some (by kernel_rfl))
 f233:=Tryz.func242.trans (congrArg some (by kernel_rfl))
 f234:=Tryz.func243.trans (congrArg some (by kernel_rfl))
 f235:=Tryz.func244.trans (congrArg some (by kernel_rfl))
 f236:=Tryz.func245.trans (congrArg some (by kernel_rfl))
 f260:=Tryz.func350.trans (congrArg some (by kernel_rfl))
 f266:=Tryz.func404.trans (congrArg some (by kernel_rfl))
 f271:=Tryz.func309.trans (congrArg some (by kernel_rfl))
 t0:=Tryz.underlying0
 a0:=Tryz.isAgg0
 z0:=Tryz.sizeOf0
 v0:=Tryz.zeroValue0
 t3:=Tryz.underlying3
 a3:=Tryz.isAgg3
 z3:=Tryz.sizeOf3
 v3:=Tryz.zeroValue3
 t4:=Tryz.underlying4
 a4:=Tryz.isAgg4
 z4:=Tryz.sizeOf4
 v4:=Tryz.zeroValue4
 t5:=Tryz.underlying5
 a5:=Tryz.isAgg5
 z5:=Tryz.sizeOf5
 v5:=Tryz.zeroValue5
 t9:=Tryz.underlying9
 a9:=Tryz.isAgg9
 z9:=Tryz.sizeOf9
 v9:=Tryz.zeroValue9
 t21:=Tryz.underlying21
 a21:=Tryz.isAgg21
 z21:=Tryz.sizeOf21
 v21:=Tryz.zeroValue21
 t46:=Tryz.underlying242
 a46:=Tryz.isAgg242
 z46:=Tryz.sizeOf242
 v46:=Tryz.zeroValue242
 t105:=Tryz.underlying253
 a105:=Tryz.isAgg253
 z105:=Tryz.sizeOf253
 v105:=Tryz.zeroValue253
 t116:=Tryz.underlying217
 a116:=Tryz.isAgg217
 z116:=Tryz.sizeOf217
 t117:=Tryz.underlying218
 a117:=Tryz.isAgg218
 z117:=Tryz.sizeOf218
 v117:=Tryz.zeroValue218
 t119:=Tryz.underlying301
 a119:=Tryz.isAgg301
 z119:=Tryz.sizeOf301
 t124:=Tryz.underlying221
 a124:=Tryz.isAgg221
 z124:=Tryz.sizeOf221
 v124:=Tryz.zeroValue221
 t138:=Tryz.underlying303
 a138:=Tryz.isAgg303
 z138:=Tryz.sizeOf303
 v138:=Tryz.zeroValue303
 t139:=Tryz.underlying304
 a139:=Tryz.isAgg304
 z139:=Tryz.sizeOf304
 v139:=Tryz.zeroValue304
 g3:=by kernel_rfl
 g4:=by kernel_rfl
end Go.Proofs
namespace Go.Proofs
open Go.Shelf
def qgM:Go.Shelf.Ren:=⟨fun|171=>251|243=>313|246=>353|283=>377|284=>378|285=>379|286=>380|129=>407|317=>406|318=>408|319=>409|320=>410|337=>422|338=>423|n=>n,fun|3=>3|9=>9|2=>2|4=>4|171=>306|0=>0|53=>307|37=>38|5=>5|173=>310|212=>341|51=>337|20=>20|213=>342|46=>242|232=>365|233=>366|n=>n,fun|17=>3|18=>4|19=>5|n=>n⟩
theorem qgL:Go.Proofs.LaysM.n171 Tryz.prog qgM where
 mixed:=by kernel_rfl
 f129:=Tryz.func407.trans (congrArg some (by kernel_rfl))
 f171:=Tryz.func251.trans (congrArg some (by kernel_rfl))
 f243:=Tryz.func313.trans (congrArg some (by kernel_rfl))
 f246:=Tryz.func353.trans (congrArg some (by kernel_rfl))
 f283:=Tryz.func377.trans (congrArg some (by kernel_rfl))
 f284:=Tryz.func378.trans (congrArg some (by kernel_rfl))
 f285:=Tryz.func379.trans (congrArg some (by kernel_rfl))
 f286:=Tryz.func380.trans (congrArg some (by kernel_rfl))
 f317:=Tryz.func406.trans (congrArg some (by kernel_rfl))
 f318:=Tryz.func408.trans (congrArg some (by kernel_rfl))
 f319:=Tryz.func409.trans (congrArg some (by kernel_rfl))
 f320:=Tryz.func410.trans (congrArg some (by kernel_rfl))
 f337:=Tryz.func422.trans (congrArg some (by kernel_rfl))
 f338:=Tryz.func423.trans (congrArg some (by kernel_rfl))
 t0:=Tryz.underlying0
 a0:=Tryz.isAgg0
 z0:=Tryz.sizeOf0
 v0:=Tryz.zeroValue0
 t2:=Tryz.underlying2
 a2:=Tryz.isAgg2
 z2:=Tryz.sizeOf2
 v2:=Tryz.zeroValue2
 t3:=Tryz.underlying3
 a3:=Tryz.isAgg3
 z3:=Tryz.sizeOf3
 v3:=Tryz.zeroValue3
 t4:=Tryz.underlying4
 a4:=Tryz.isAgg4
 z4:=Tryz.sizeOf4
 v4:=Tryz.zeroValue4
 t5:=Tryz.underlying5
 a5:=Tryz.isAgg5
 z5:=Tryz.sizeOf5
 v5:=Tryz.zeroValue5
 t9:=Tryz.underlying9
 a9:=Tryz.isAgg9
 z9:=Tryz.sizeOf9
 v9:=Tryz.zeroValue9
 t20:=Tryz.underlying20
 a20:=Tryz.isAgg20
 z20:=Tryz.sizeOf20
 v20:=Tryz.zeroValue20
 t37:=Tryz.underlying38
 a37:=Tryz.isAgg38
 z37:=Tryz.sizeOf38
 v37:=Tryz.zeroValue38
 t46:=Tryz.underlying242
 a46:=Tryz.isAgg242
 z46:=Tryz.sizeOf242
 v46:=Tryz.zeroValue242
 t51:=Tryz.underlying337
 a51:=Tryz.isAgg337
 z51:=Tryz.sizeOf337
 v51:=Tryz.zeroValue337
 t53:=Tryz.underlying307
 a53:=Tryz.isAgg307
 z53:=Tryz.sizeOf307
 v53:=Tryz.zeroValue307
 t171:=Tryz.underlying306
 a171:=Tryz.isAgg306
 z171:=Tryz.sizeOf306
 v171:=Tryz.zeroValue306
 t173:=Tryz.underlying310
 a173:=Tryz.isAgg310
 z173:=Tryz.sizeOf310
 v173:=Tryz.zeroValue310
 t212:=Tryz.underlying341
 a212:=Tryz.isAgg341
 z212:=Tryz.sizeOf341
 v212:=Tryz.zeroValue341
 t213:=Tryz.underlying342
 a213:=Tryz.isAgg342
 z213:=Tryz.sizeOf342
 t232:=Tryz.underlying365
 a232:=Tryz.isAgg365
 z232:=Tryz.sizeOf365
 v232:=Tryz.zeroValue365
 t233:=Tryz.underlying366
 a233:=Tryz.isAgg366
 z233:=Tryz.sizeOf366
 v233:=Tryz.zeroValue366
 g17:=by kernel_rfl
 g18:=by kernel_rfl
 g19:=by kernel_rfl
 i0:=by kernel_rfl
 i2:=by kernel_rfl
 i3:=by kernel_rfl
 i4:=by kernel_rfl
 i5:=by kernel_rfl
 i9:=by kernel_rfl
 i20:=by kernel_rfl
 i37:=by kernel_rfl
 i46:=by kernel_rfl
 i51:=by kernel_rfl
 i53:=by kernel_rfl
 i171:=by kernel_rfl
 i173:=by kernel_rfl
 i212:=by kernel_rfl
 i232:=by kernel_rfl
 i233:=by kernel_rfl
 m17:=by kernel_rfl
 m18:=by kernel_rfl
 m19:=by kernel_rfl
end Go.Proofs
namespace Go.Vm
open Go.Proofs
instance layD:Lay where
 B b:=b=qgM.g 17∨b=K3.g 1
 L w:=Lib.TabIs Tryz.prog w "internal/strconv.uint64pow10" .u64 Lib.pow10Tab∧ ∃ m,w.cell? ⟨K3.g 1,0,none⟩=some (.int .i64 m)
 st w w' h hL:=by
  obtain ⟨h1,m,hm⟩:=hL
  refine ⟨?_,m, ?_⟩
  ·unfold Lib.TabIs World.var? at*
   rw [qgL.m17]at*
   simp only [Option.bind_some]at*
   rw [h _ (.inl rfl)];exact h1
  ·rw [← hm]
   simp only [World.cell?,h _ (.inr rfl)]
theorem qrl: ∀ args r outs,Xk args=some (r,outs)→Q9 Tryz.prog (qgM.f 171) args r outs:=by
 intro args r outs h
 unfold Xk at h
 split at h
 case h_2=>cases h
 rename_i n
 split at h
 case isFalse=>cases h
 rename_i hb
 simp only [Option.some.injEq,Prod.mk.injEq]at h
 obtain ⟨rfl,rfl⟩:=h
 have hz: ∀ (E:Env) vs c,qk E.cl [I n] vs c→c=c0∧vs=[.int .i64 n]:=by
  intro E vs c hx
  simp only [qk,I,Rel]at hx
  obtain ⟨y,ys,c1,c2,rfl,⟨rfl,-,rfl⟩,⟨rfl,rfl⟩,rfl⟩:=hx
  exact ⟨rfl,rfl⟩
 refine qeZ (x:= .string ⟨(Lib.itoa n).toArray⟩) qgL.f171 rfl rfl rfl rfl ?_ (fun E vs c hx=>(hz E vs c hx).1)
 intro E vs hx hL
 obtain ⟨-,rfl⟩:=hz E vs c0 hx
 refine (Any.strconv_Itoa qgL n hb.1 hb.2 E.w hL.1).mono ?_
 rintro e w' ⟨rfl,k,os,rfl⟩
 exact ⟨rfl,qp0 _ _ _⟩
end Go.Vm
namespace Go.Proofs
open Go.Shelf
def qj0:Go.Shelf.Ren:=⟨fun|137=>375|217=>371|266=>404|n=>n,fun|9=>9|5=>5|3=>3|n=>n,fun|n=>n⟩
theorem qjZ:Go.Proofs.Lays.n137 Tryz.prog qj0 where
 mixed:=by kernel_rfl
 f137:=Tryz.func375.trans (congrArg some (by kernel_rfl))
 f217:=Tryz.func371.trans (congrArg some (by kernel_rfl))
 f266:=Tryz.func404.trans (congrArg some (by kernel_rfl))
 t3:=Tryz.underlying3
 a3:=Tryz.isAgg3
 z3:=Tryz.sizeOf3
 v3:=Tryz.zeroValue3
 t5:=Tryz.underlying5
 a5:=Tryz.isAgg5
 z5:=Tryz.sizeOf5
 v5:=Tryz.zeroValue5
 t9:=Tryz.underlying9
 a9:=Tryz.isAgg9
 z9:=Tryz.sizeOf9
 v9:=Tryz.zeroValue9
def qev:Go.Shelf.Ren:=⟨fun|156=>270|165=>327|166=>328|169=>329|240=>363|241=>364|276=>401|277=>402|n=>n,fun|31=>23|9=>9|3=>3|4=>4|0=>0|20=>20|72=>275|76=>279|70=>273|37=>38|75=>278|127=>296|164=>333|5=>5|80=>281|n=>n,fun|n=>n⟩
theorem qgN:Go.Proofs.Lays.n156 Tryz.prog qev where
 mixed:=by kernel_rfl
 f156:=Tryz.func270.trans (congrArg some (by kernel_rfl))
 f165:=Tryz.func327.trans (congrArg some (by kernel_rfl))
 f166:=Tryz.func328.trans (congrArg some (by kernel_rfl))
 f169:=Tryz.func329.trans (congrArg some (by kernel_rfl))
 f240:=Tryz.func363.trans (congrArg some (by kernel_rfl))
 f241:=Tryz.func364.trans (congrArg some (by kernel_rfl))
 f276:=Tryz.func401.trans (congrArg some (by kernel_rfl))
 f277:=Tryz.func402.trans (congrArg some (by kernel_rfl))
 t0:=Tryz.underlying0
 a0:=Tryz.isAgg0
 z0:=Tryz.sizeOf0
 v0:=Tryz.zeroValue0
 t3:=Tryz.underlying3
 a3:=Tryz.isAgg3
 z3:=Tryz.sizeOf3
 v3:=Tryz.zeroValue3
 t4:=Tryz.underlying4
 a4:=Tryz.isAgg4
 z4:=Tryz.sizeOf4
 v4:=Tryz.zeroValue4
 t9:=Tryz.underlying9
 a9:=Tryz.isAgg9
 z9:=Tryz.sizeOf9
 v9:=Tryz.zeroValue9
 t20:=Tryz.underlying20
 a20:=Tryz.isAgg20
 z20:=Tryz.sizeOf20
 v20:=Tryz.zeroValue20
 t31:=Tryz.underlying23
 a31:=Tryz.isAgg23
 z31:=Tryz.sizeOf23
 v31:=Tryz.zeroValue23
 t37:=Tryz.underlying38
 a37:=Tryz.isAgg38
 z37:=Tryz.sizeOf38
 v37:=Tryz.zeroValue38
 t70:=Tryz.underlying273
 a70:=Tryz.isAgg273
 z70:=Tryz.sizeOf273
 v70:=Tryz.zeroValue273
 t72:=Tryz.underlying275
 a72:=Tryz.isAgg275
 z72:=Tryz.sizeOf275
 v72:=Tryz.zeroValue275
 t75:=Tryz.underlying278
 a75:=Tryz.isAgg278
 z75:=Tryz.sizeOf278
 v75:=Tryz.zeroValue278
 t76:=Tryz.underlying279
 a76:=Tryz.isAgg279
 z76:=Tryz.sizeOf279
 v76:=Tryz.zeroValue279
 t127:=Tryz.underlying296
 a127:=Tryz.isAgg296
 z127:=Tryz.sizeOf296
 v127:=Tryz.zeroValue296
 t164:=Tryz.underlying333
 a164:=Tryz.isAgg333
 z164:=Tryz.sizeOf333
 v164:=Tryz.zeroValue333
theorem qj1:Go.Proofs.Builder.Extra Tryz.prog qev where
 t5:=Tryz.underlying5
 a5:=Tryz.isAgg5
 z5:=Tryz.sizeOf5
 v5:=Tryz.zeroValue5
 infoByte:=by kernel_rfl
 cellsByte:=by kernel_rfl
 sizeByte:=by kernel_rfl
 neB5:=by decide
 sizeBuilder:=by kernel_rfl
 liesBuilder:=by kernel_rfl
end Go.Proofs
namespace Go.Vm
open Go.Proofs
theorem qrn: ∀ args r outs,qbS args=some (r,outs)→Q9 Tryz.prog (qj0.f 137) args r outs:=by
 intro args r outs h
 unfold qbS at h
 split at h
 case h_2=>cases h
 rename_i s n
 simp only [Option.some.injEq,Prod.mk.injEq]at h
 obtain ⟨rfl,rfl⟩:=h
 have hz: ∀ (E:Env) vs c,qk E.cl [.v (.string s),.v (.int .u8 n)] vs c→c=c0∧vs=[.string s,.int .u8 n]:=by
  intro E vs c hx
  simp only [qk,Rel]at hx
  obtain ⟨y,ys,c1,c2,rfl,⟨rfl,-,rfl⟩,⟨y',ys',c3,c4,rfl,⟨rfl,-,rfl⟩,⟨rfl,rfl⟩,rfl⟩,rfl⟩:=hx
  exact ⟨rfl,rfl⟩
 refine qeZ (x:= .int .i64 (Lib.indexByte s.data.toList n.toNat.toUInt8)) qjZ.f137 rfl rfl rfl rfl ?_ (fun E vs c hx=>(hz E vs c hx).1)
 intro E vs hx hL
 obtain ⟨-,rfl⟩:=hz E vs c0 hx
 refine (Any.strings_IndexByte qjZ s n E.w).mono ?_
 rintro e w' ⟨rfl,rfl⟩
 exact ⟨rfl,Adds.refl _⟩
theorem qro: ∀ args r outs,Xl args=some (r,outs)→Q9 Tryz.prog (qev.f 156) args r outs:=by
 intro args r outs h
 unfold Xl at h
 split at h
 case h_2=>cases h
 rename_i τ xs p
 split at h
 case h_2=>cases h
 rename_i ss hss
 split at h
 case isFalse=>cases h
 rename_i hb
 simp only [Option.some.injEq,Prod.mk.injEq]at h
 obtain ⟨rfl,rfl⟩:=h
 obtain rfl:=qoO hss
 rw [List.length_map]at hb
 refine qeZ (x:= .string ⟨(Lib.join ss p.data.toList).toArray⟩) qgN.f156 rfl rfl rfl rfl ?_ ?_
 ·intro E vs hx hL
  simp only [qk,Rel]at hx
  obtain ⟨y,ys,c1,c2,rfl,⟨-,A,cap,rfl,hcap,hxs⟩,⟨y',ys',c3,c4,rfl,⟨rfl,-,-⟩,⟨rfl,-⟩,-⟩,-⟩:=hx
  rw [List.length_map]at hcap ⊢
  have hm:(ss.map fun s=>(⟨s.toArray⟩:ByteArray)).map (·.data.toList)=ss:=by
   rw [List.map_map]
   conv => rhs;rw [← List.map_id ss]
   exact List.map_congr_left fun s _=>by simp
  have key:Calls Tryz.prog (qev.f 156) #[.slice A ss.length cap,.string p] E.w fun e w'=>e= .returned (.string ⟨(Lib.join ss p.data.toList).toArray⟩)∧Go.RowKit.Below E.w.heap.size E.w w':=by
   rcases hxs with h0|⟨b,base,e,cells,T,fz,rfl,-,hcell,hr⟩
   ·obtain rfl:ss=[]:=by simpa using h0
    exact (Any.strings_Join_none qgN qj1 A cap p E.w).mono fun e w' ⟨he,hw⟩=>⟨he,hw ▸ Go.RowKit.Below.refl _ _⟩
   ·obtain ⟨he,hs⟩:=qnR hr
    have:=Any.strings_Join qgN qj1 b base cap (ss.map fun s=>⟨s.toArray⟩) p E.w (by
     intro j x hj
     rw [List.getElem?_map,Option.map_eq_some_iff]at hj
     obtain ⟨s,hj,rfl⟩:=hj
     have he1:e=1:=by rcases he with rfl|he;(cases hj);exact he
     subst he1
     have h1:(seg cells base ((ss.map S).length*1))[j]? =some (.string ⟨s.toArray⟩):=by rw [hs,List.getElem?_map,hj];rfl
     have hlt:j < ss.length:=(List.getElem?_eq_some_iff.1 hj).1
     rw [seg,List.getElem?_take_of_lt (by rw [List.length_map];omega),List.getElem?_drop,Array.getElem?_toList]at h1
     have hc:E.cl.w.heap[b]? =E.w.heap[b]? :=rfl
     rw [hc]at hcell
     simp only [World.cell?,hcell]
     exact h1) (by have:=(Array.getElem?_eq_some_iff.1 hcell).1;exact this) (by rw [List.length_map];exact hb.1) (by rw [List.length_map];exact hcap) (by rw [hm];exact hb.2)
    rw [hm,List.length_map]at this
    exact this
  refine key.mono ?_
  rintro e w' ⟨rfl,hB⟩
  exact ⟨rfl,⟨hB.os,hB.tape,hB.output,hB.size,hB.block⟩⟩
 ·intro E vs c hx
  simp only [qk,Rel]at hx
  obtain ⟨y,ys,c1,c2,rfl,⟨rfl,-⟩,⟨y',ys',c3,c4,rfl,⟨-,-,rfl⟩,⟨-,rfl⟩,rfl⟩,rfl⟩:=hx
  rfl
theorem qAg: ∀ args r outs,qi1 args=some (r,outs)→Q9 Tryz.prog (qj3.f 160) args r outs:=by
 intro args r outs h
 unfold qi1 at h
 split at h
 case h_2=>cases h
 rename_i s p
 split at h
 case h_2=>cases h
 rename_i c hp
 split at h
 case isFalse=>cases h
 rename_i hb
 simp only [Option.some.injEq,Prod.mk.injEq]at h
 obtain ⟨rfl,rfl⟩:=h
 obtain rfl:p=⟨#[c]⟩:=by
  obtain ⟨a⟩:=p
  have:a.toList=[c]:=hp
  rw [show a= #[c]by apply Array.toList_inj.1;simpa using this]
 have hz: ∀ (E:Env) vs cc,qk E.cl [.v (.string s),.v (.string ⟨#[c]⟩)] vs cc→cc=c0∧vs=[.string s,.string ⟨#[c]⟩]:=by
  intro E vs cc hx
  simp only [qk,Rel]at hx
  obtain ⟨y,ys,c1,c2,rfl,⟨rfl,-,rfl⟩,⟨y',ys',c3,c4,rfl,⟨rfl,-,rfl⟩,⟨rfl,rfl⟩,rfl⟩,rfl⟩:=hx
  exact ⟨rfl,rfl⟩
 refine qeZ (x:= .string ⟨(Lib.trimB s.data.toList c).toArray⟩) qj2.f160 rfl rfl rfl rfl ?_ (fun E vs c hx=>(hz E vs c hx).1)
 intro E vs hx hL
 obtain ⟨-,rfl⟩:=hz E vs c0 hx
 refine (Any.strings_Trim_one qj2 s c hb.1 E.w hb.2).mono ?_
 rintro e w' ⟨rfl,rfl|rfl⟩
 ·exact ⟨rfl,Adds.refl _⟩
 ·exact ⟨rfl,⟨rfl,rfl,rfl,Nat.le_refl _,fun _ _=>rfl⟩⟩
theorem qzW: ∀ args r outs,qiR args=some (r,outs)→Q9 Tryz.prog (K3.f 146) args r outs:=by
 intro args r outs h
 unfold qiR at h
 split at h
 case h_2=>cases h
 rename_i s p
 split at h
 case h_2=>cases h
 rename_i c hp
 split at h
 case isFalse=>cases h
 rename_i hb
 simp only [Option.some.injEq,Prod.mk.injEq]at h
 obtain ⟨rfl,rfl⟩:=h
 obtain rfl:p=⟨#[c]⟩:=by
  obtain ⟨a⟩:=p
  have:a.toList=[c]:=hp
  rw [show a= #[c]by apply Array.toList_inj.1;simpa using this]
 have hz: ∀ (E:Env) vs cc,qk E.cl [.v (.string s),.v (.string ⟨#[c]⟩)] vs cc→cc=c0∧vs=[.string s,.string ⟨#[c]⟩]:=by
  intro E vs cc hx
  simp only [qk,Rel]at hx
  obtain ⟨y,ys,c1,c2,rfl,⟨rfl,-,rfl⟩,⟨y',ys',c3,c4,rfl,⟨rfl,-,rfl⟩,⟨rfl,rfl⟩,rfl⟩,rfl⟩:=hx
  exact ⟨rfl,rfl⟩
 have hd:(Lib.splitB ⟨#[c]⟩ 0 (Lib.countB s ⟨#[c]⟩) s).map (·.data.toList)=Lib.split s.data.toList [c]:=Lib.splitB_data _ _ _ _
 have hl:=Lib.splitB_all ⟨#[c]⟩ (Nat.le_refl 1) 0 _ s rfl
 refine qx0 qew.f146 rfl rfl ?_ (fun E vs c hx=>(hz E vs c hx).1)
 intro E vs hx hL
 obtain ⟨-,rfl⟩:=hz E vs c0 hx
 obtain ⟨-,m,hm⟩:=hL
 refine (Any.strings_Split {qew with} qew.i9 s ⟨#[c]⟩ m E.w hb hm (Nat.le_refl 1)).mono ?_
 rintro e w' ⟨rfl,rfl⟩
 refine ⟨K3.t 9, ?_, ?_⟩
 ·rw [← hd,List.length_map,hl]
 ·rw [← hd,List.map_map]
  rw [show ((fun s=>Value.string ⟨s.toArray⟩) ∘ fun x:ByteArray=>x.data.toList)=Value.string from funext fun x=>by simp]
end Go.Vm
