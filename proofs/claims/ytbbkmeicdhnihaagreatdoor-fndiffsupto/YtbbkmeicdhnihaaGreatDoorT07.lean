import Derived.Test.YtbbkmeicdhnihaaGreatDoorT06
import Derived.Test.YtbbkmeicdhnihaaGreatDoorT05
import Derived.Test.YtbbkmeicdhnihaaGreatDoorT03
open Nat renaming reduceAdd → qa, reduceSub → qb, reduceMul → qc, reduceEqDiff → qd, reduceLeDiff → qe, reduceBEq → qf
set_option autoImplicit false
set_option maxHeartbeats 16000000
set_option maxRecDepth 100000
set_option linter.unusedSimpArgs false
set_option linter.unusedVariables false
namespace Go.Vm
theorem qpG(l:List Sg) (τ:Bool) (hg:GoodL l) (i:Nat) (hi:i≤l.length) (nm:List Str) (d:Nat) (most:Int) (hk:(sgD l i).kind=1) (t:Tm) (q:Int) (a1:Nat) (nm1:List Str) (d1:Int) (b1:Bool)
 (hA:cw qg ZF [.b (.a [.i τ (l.map Sg.v),I i,B false,I (d),.o 1 (List.map S nm)]),I most]=some (.t [oT t,I q],[.b (.a [.i τ (l.map Sg.v),I a1,B b1,I (d1),.o 1 (List.map S nm1)]),I most])):
 cw qg Qg [.b (.a [.i τ (l.map Sg.v),I i,B false,I (d),.o 1 (List.map S nm)]),I most]=some (.t [oT t,I q],[.b (.a [.i τ (l.map Sg.v),I a1,B b1,I (d1),.o 1 (List.map S nm1)]),I most]):=by
 have hlen:=hg.len
 have i1:=zR l τ hlen i (by omega) (.i true (nm.map S)) d false 1 []
 rw [yl l i 1 (by decide)]at i1
 have i2:=zR l τ hlen i (by omega) (.i true (nm.map S)) d false 2 []
 rw [yl l i 2 (by decide)]at i2
 have i3:=zR l τ hlen i (by omega) (.i true (nm.map S)) d false 3 []
 rw [yl l i 3 (by decide)]at i3
 have e1:w64 ((i:Int)+1)=((i+1:Nat):Int):=by rw [qm]<;>omega
 have e3:w64 (((i+1:Nat):Int) - 1)=(i:Int):=by rw [qm]<;>omega
 have tk: ∀ x:Tm,(x.kids.map oT).take x.kids.length=x.kids.map oT:=fun x=>List.take_of_length_le (by simp)
 have m40:=xC l τ hlen i (by omega) nm d false [40] (by decide)
 have m91:=xC l τ hlen i (by omega) nm d false [91] (by decide)
 have y40:=xP l τ hlen i (by omega) nm d [40] (by decide)
 have y91:=xP l τ hlen i (by omega) nm d [91] (by decide)
 rw [decide_eq_true hk]at i1
 rw [qv t]at hA
 rw [qI qag rfl,qv t]
 simp only [go_sem,qa,qb,qc,qd,qe,qf,reduceCtorEq,Qb,qw,List.length_map,e1,e3,i1,i2,i3,tk,Bool.not_false,Bool.true_and,hA]
theorem qgE(l:List Sg) (τ:Bool) (hg:GoodL l) (i:Nat) (hi:i≤l.length) (nm:List Str) (d:Nat) (most:Int) (hm:isM l i [40]=true) (t:Tm) (a1:Nat) (nm1:List Str) (d1:Int) (b1:Bool)
 (hA:cw qg Xt [.b (.a [.i τ (l.map Sg.v),I ((i+1:Nat):Int),B false,I (d),.o 1 (List.map S nm)])]=some (oT t,[.b (.a [.i τ (l.map Sg.v),I a1,B b1,I (d1),.o 1 (List.map S nm1)])])):
 cw qg Qg [.b (.a [.i τ (l.map Sg.v),I i,B false,I (d),.o 1 (List.map S nm)]),I most]=some (.t [oT t,I 0],[.b (.a [.i τ (l.map Sg.v),I a1,B b1,I (d1),.o 1 (List.map S nm1)]),I most]):=by
 have hlen:=hg.len
 have i1:=zR l τ hlen i (by omega) (.i true (nm.map S)) d false 1 []
 rw [yl l i 1 (by decide)]at i1
 have i2:=zR l τ hlen i (by omega) (.i true (nm.map S)) d false 2 []
 rw [yl l i 2 (by decide)]at i2
 have i3:=zR l τ hlen i (by omega) (.i true (nm.map S)) d false 3 []
 rw [yl l i 3 (by decide)]at i3
 have e1:w64 ((i:Int)+1)=((i+1:Nat):Int):=by rw [qm]<;>omega
 have e3:w64 (((i+1:Nat):Int) - 1)=(i:Int):=by rw [qm]<;>omega
 have tk: ∀ x:Tm,(x.kids.map oT).take x.kids.length=x.kids.map oT:=fun x=>List.take_of_length_le (by simp)
 have m40:=xC l τ hlen i (by omega) nm d false [40] (by decide)
 have m91:=xC l τ hlen i (by omega) nm d false [91] (by decide)
 have y40:=xP l τ hlen i (by omega) nm d [40] (by decide)
 have y91:=xP l τ hlen i (by omega) nm d [91] (by decide)
 have hk:decide ((sgD l i).kind=1)=false:=by rw [(ym hm).2.1];rfl
 rw [hk]at i1
 have mk:=y40 hm
 rw [qv t]at hA
 rw [qI qag rfl,qv t]
 simp only [go_sem,qa,qb,qc,qd,qe,qf,reduceCtorEq,Qb,qw,List.length_map,e1,e3,i1,i2,i3,tk,Bool.not_false,Bool.true_and,hA,mk]
theorem qpH(l:List Sg) (τ:Bool) (hg:GoodL l) (i:Nat) (hi:i≤l.length) (nm:List Str) (d:Nat) (most:Int) (hm:isM l i [91]=true) (t:Tm) (a1:Nat) (nm1:List Str) (d1:Int) (b1:Bool)
 (hA:cw qg qbx [.b (.a [.i τ (l.map Sg.v),I ((i+1:Nat):Int),B false,I (d),.o 1 (List.map S nm)])]=some (oT t,[.b (.a [.i τ (l.map Sg.v),I a1,B b1,I (d1),.o 1 (List.map S nm1)])])):
 cw qg Qg [.b (.a [.i τ (l.map Sg.v),I i,B false,I (d),.o 1 (List.map S nm)]),I most]=some (.t [oT t,I 0],[.b (.a [.i τ (l.map Sg.v),I a1,B b1,I (d1),.o 1 (List.map S nm1)]),I most]):=by
 have hlen:=hg.len
 have i1:=zR l τ hlen i (by omega) (.i true (nm.map S)) d false 1 []
 rw [yl l i 1 (by decide)]at i1
 have i2:=zR l τ hlen i (by omega) (.i true (nm.map S)) d false 2 []
 rw [yl l i 2 (by decide)]at i2
 have i3:=zR l τ hlen i (by omega) (.i true (nm.map S)) d false 3 []
 rw [yl l i 3 (by decide)]at i3
 have e1:w64 ((i:Int)+1)=((i+1:Nat):Int):=by rw [qm]<;>omega
 have e3:w64 (((i+1:Nat):Int) - 1)=(i:Int):=by rw [qm]<;>omega
 have tk: ∀ x:Tm,(x.kids.map oT).take x.kids.length=x.kids.map oT:=fun x=>List.take_of_length_le (by simp)
 have m40:=xC l τ hlen i (by omega) nm d false [40] (by decide)
 have m91:=xC l τ hlen i (by omega) nm d false [91] (by decide)
 have y40:=xP l τ hlen i (by omega) nm d [40] (by decide)
 have y91:=xP l τ hlen i (by omega) nm d [91] (by decide)
 have hk:decide ((sgD l i).kind=1)=false:=by rw [(ym hm).2.1];rfl
 rw [hk]at i1
 have mk0:=m40 (by rw [qcL l i [91] [40] hm (by decide)];rfl)
 have mk:=y91 hm
 rw [qv t]at hA
 rw [qI qag rfl,qv t]
 simp only [go_sem,qa,qb,qc,qd,qe,qf,reduceCtorEq,Qb,qw,List.length_map,e1,e3,i1,i2,i3,tk,Bool.not_false,Bool.true_and,hA,mk0,mk]
theorem qB0(l:List Sg) (τ:Bool) (hg:GoodL l) (i:Nat) (hi:i≤l.length) (nm:List Str) (d:Nat) (most:Int) (hk:(sgD l i).kind=3):
 cw qg Qg [.b (.a [.i τ (l.map Sg.v),I i,B false,I (d),.o 1 (List.map S nm)]),I most]=some (.t [oT (.mk 3 [] (sgD l i).num []),I 0],[.b (.a [.i τ (l.map Sg.v),I ((i+1:Nat):Int),B false,I (d),.o 1 (List.map S nm)]),I most]):=by
 have hlen:=hg.len
 have i1:=zR l τ hlen i (by omega) (.i true (nm.map S)) d false 1 []
 rw [yl l i 1 (by decide)]at i1
 have i2:=zR l τ hlen i (by omega) (.i true (nm.map S)) d false 2 []
 rw [yl l i 2 (by decide)]at i2
 have i3:=zR l τ hlen i (by omega) (.i true (nm.map S)) d false 3 []
 rw [yl l i 3 (by decide)]at i3
 have e1:w64 ((i:Int)+1)=((i+1:Nat):Int):=by rw [qm]<;>omega
 have e3:w64 (((i+1:Nat):Int) - 1)=(i:Int):=by rw [qm]<;>omega
 have tk: ∀ x:Tm,(x.kids.map oT).take x.kids.length=x.kids.map oT:=fun x=>List.take_of_length_le (by simp)
 have m40:=xC l τ hlen i (by omega) nm d false [40] (by decide)
 have m91:=xC l τ hlen i (by omega) nm d false [91] (by decide)
 have y40:=xP l τ hlen i (by omega) nm d [40] (by decide)
 have y91:=xP l τ hlen i (by omega) nm d [91] (by decide)
 have k1:decide ((sgD l i).kind=1)=false:=by rw [hk];rfl
 rw [k1]at i1
 rw [decide_eq_true hk]at i3
 have mk0:=m40 (by unfold isM;rw [hk];rfl)
 have mk:=m91 (by unfold isM;rw [hk];rfl)
 have g0:=zu (f:=Sg.v) (xN (l:=l) (i:=i) (yW (by rw [hk];decide)))
 have a0:=fun T=>qZ (τ:=τ) (T:=T) (e:=5) g0 rfl
 rw [Sg.v]at g0
 have nk:=qgA (sgD l i).num
 rw [zj]at nk
 rw [qI qag rfl,zj]
 simp only [go_sem,qa,qb,qc,qd,qe,qf,reduceCtorEq,Qb,qw,List.length_map,e1,e3,i1,i2,i3,tk,Bool.not_false,Bool.true_and,nk,mk0,mk,g0,a0]
theorem qB1(l:List Sg) (τ:Bool) (hg:GoodL l) (i:Nat) (hi:i≤l.length) (nm:List Str) (d:Nat) (most:Int) (hk:(sgD l i).kind=2) (hn:nm.length≤2^30):
 cw qg Qg [.b (.a [.i τ (l.map Sg.v),I i,B false,I (d),.o 1 (List.map S nm)]),I most]=some (.t [oT (Zl nm (sgD l i).text).1,I 0],[.b (.a [.i τ (l.map Sg.v),I ((i+1:Nat):Int),B false,I (d),.o 1 (List.map S ((Zl nm (sgD l i).text).2))]),I most]):=by
 have hlen:=hg.len
 have i1:=zR l τ hlen i (by omega) (.i true (nm.map S)) d false 1 []
 rw [yl l i 1 (by decide)]at i1
 have i2:=zR l τ hlen i (by omega) (.i true (nm.map S)) d false 2 []
 rw [yl l i 2 (by decide)]at i2
 have i3:=zR l τ hlen i (by omega) (.i true (nm.map S)) d false 3 []
 rw [yl l i 3 (by decide)]at i3
 have e1:w64 ((i:Int)+1)=((i+1:Nat):Int):=by rw [qm]<;>omega
 have e3:w64 (((i+1:Nat):Int) - 1)=(i:Int):=by rw [qm]<;>omega
 have tk: ∀ x:Tm,(x.kids.map oT).take x.kids.length=x.kids.map oT:=fun x=>List.take_of_length_le (by simp)
 have m40:=xC l τ hlen i (by omega) nm d false [40] (by decide)
 have m91:=xC l τ hlen i (by omega) nm d false [91] (by decide)
 have y40:=xP l τ hlen i (by omega) nm d [40] (by decide)
 have y91:=xP l τ hlen i (by omega) nm d [91] (by decide)
 have k1:decide ((sgD l i).kind=1)=false:=by rw [hk];rfl
 have k3:decide ((sgD l i).kind=3)=false:=by rw [hk];rfl
 rw [k1]at i1
 rw [k3]at i3
 rw [decide_eq_true hk]at i2
 have mk0:=m40 (by unfold isM;rw [hk];rfl)
 have mk:=m91 (by unfold isM;rw [hk];rfl)
 have g0:=zu (f:=Sg.v) (xN (l:=l) (i:=i) (yW (by rw [hk];decide)))
 have a0:=fun T=>qZ (τ:=τ) (T:=T) (e:=5) g0 rfl
 rw [Sg.v]at g0
 have nk:=qBV l τ ((i+1:Nat):Int) nm hn d false (sgD l i).text
 rw [qv]at nk
 rw [qI qag rfl,qv]
 simp only [go_sem,qa,qb,qc,qd,qe,qf,reduceCtorEq,Qb,qw,List.length_map,e1,e3,i1,i2,i3,tk,Bool.not_false,Bool.true_and,nk,mk0,mk,g0,a0]
theorem qBZ(l:List Sg) (τ:Bool) (hg:GoodL l) (i:Nat) (hi:i≤l.length) (nm:List Str) (d:Nat) (most:Int) (k1:(sgD l i).kind ≠ 1) (k2:(sgD l i).kind ≠ 2) (k3:(sgD l i).kind ≠ 3) (n40:isM l i [40]=false) (n91:isM l i [91]=false):
 cw qg Qg [.b (.a [.i τ (l.map Sg.v),I i,B false,I (d),.o 1 (List.map S nm)]),I most]=some (.t [oT (.mk 0 [] 0 []),I 0],[.b (.a [.i τ (l.map Sg.v),I i,B true,I (d),.o 1 (List.map S nm)]),I most]):=by
 have hlen:=hg.len
 have i1:=zR l τ hlen i (by omega) (.i true (nm.map S)) d false 1 []
 rw [yl l i 1 (by decide)]at i1
 have i2:=zR l τ hlen i (by omega) (.i true (nm.map S)) d false 2 []
 rw [yl l i 2 (by decide)]at i2
 have i3:=zR l τ hlen i (by omega) (.i true (nm.map S)) d false 3 []
 rw [yl l i 3 (by decide)]at i3
 have e1:w64 ((i:Int)+1)=((i+1:Nat):Int):=by rw [qm]<;>omega
 have e3:w64 (((i+1:Nat):Int) - 1)=(i:Int):=by rw [qm]<;>omega
 have tk: ∀ x:Tm,(x.kids.map oT).take x.kids.length=x.kids.map oT:=fun x=>List.take_of_length_le (by simp)
 have m40:=xC l τ hlen i (by omega) nm d false [40] (by decide)
 have m91:=xC l τ hlen i (by omega) nm d false [91] (by decide)
 have y40:=xP l τ hlen i (by omega) nm d [40] (by decide)
 have y91:=xP l τ hlen i (by omega) nm d [91] (by decide)
 rw [decide_eq_false k1]at i1
 rw [decide_eq_false k2]at i2
 rw [decide_eq_false k3]at i3
 have mk0:=m40 (by rw [n40];rfl)
 have mk:=m91 (by rw [n91];rfl)
 rw [qI qag rfl,zj]
 simp only [go_sem,qa,qb,qc,qd,qe,qf,reduceCtorEq,Qb,qw,List.length_map,e1,e3,i1,i2,i3,tk,Bool.not_false,Bool.true_and,mk0,mk]
theorem qqZ(l:List Sg) (τ:Bool) (hg:GoodL l) (n:Nat) (hn20:n≤2^20) (hT:ST l τ n) (hS: ∀ m,m+1=n→SS l τ m) (hR: ∀ m,m+1=n→SR l τ m):SP l τ (n+1):=by
 intro i nm d most hn hi hnm hd
 have hlen:=hg.len
 have pa: ∀ i nm d,∀ m,n=m+1→pA l n i nm d=pC l m i nm d []:=fun i nm d m h=>by
  subst h
  simp only [pA,pC]
  cases pT l m i nm d 999<;>rfl
 simp only [pP]
 by_cases c1:(sgD l i).kind=1∧(sgD l i).near=true
 ·have h40:=hg.near i c1.2
  have hlt:=(ym h40).1
  obtain ⟨m,rfl⟩: ∃ m,n=m+1:=⟨n - 1,by omega⟩
  obtain ⟨a1,a2⟩:=hS m rfl (i+2) nm d (sgD l i).text [] (by omega) (by omega) (by omega) (by simp) hd
  rw [if_pos c1,pa (i+2) nm d m rfl]
  have done: ∀ (ks:List Tm) (a:Nat) (nm':List Str) (d':Int) (b:Bool) (st:St),EXs l τ (sgD l i).text a nm' d' b ks st→lw qg ki ⟨[(0,.p (0,0) 0 0),(4,.p (100000,0) 0 0),(5,.p (100000,1) 0 0)],[((0,0),5,[.a [.i τ (l.map Sg.v),I ((i+2:Nat):Int),B false,I (d),.o 1 (List.map S nm)]]),((100000,0),4,[.a [I 0,S [],I 0,.s (100000,2) 0 0]]),((100000,1),4,[.a [I (Tm.kind (Tm.mk 4 (sgD l i).text 0 [])),S (Tm.name (Tm.mk 4 (sgD l i).text 0 [])),I (Tm.num (Tm.mk 4 (sgD l i).text 0 [])),.s (100000,3) 0 (Tm.kids (Tm.mk 4 (sgD l i).text 0 [])).length]]),((100000,2),4,[]),((100000,3),4,(Tm.kids (Tm.mk 4 (sgD l i).text 0 [])).map oT)]⟩=some (.exit 0,st)→
   cw qg Qg [.b (.a [.i τ (l.map Sg.v),I i,B false,I (d),.o 1 (List.map S nm)]),I most]=some (.t [oT (.mk 4 (sgD l i).text 0 ks),I 0],[.b (.a [.i τ (l.map Sg.v),I a,B b,I (d'),.o 1 (List.map S nm')]),I most]):=fun ks a nm' d' b st he hl=>
   qpG l τ hg i hi nm d most c1.1 _ _ _ _ _ _ (qBn l τ hg i hi nm d most c1.1 c1.2 _ a nm' d' b (qBD l τ (i+2) nm d (sgD l i).text a nm' d' b ks st he hl))
  cases hp:pC l m (i+2) nm d []with
  |none=>
   refine ⟨fun t q i' nm' h=>by simp at h,fun _=> ?_⟩
   obtain ⟨ks,a,nm',d',st,ha,he,hl⟩:=a2 (fun ks i' nm' h=>by rw [hp]at h;cases h)
   exact ⟨_,_,_,⟨a,nm',d',by omega,rfl⟩,done ks a nm' d' true st he hl⟩
  |some r=>
   obtain ⟨ks,i1,nm1⟩:=r
   simp only
   by_cases hm:isM l i1 [41]=true∧ks.length≤5
   ·rw [if_pos hm]
    refine ⟨fun t q i' nm' h=> ?_,fun h=>by simp at h⟩
    simp only [Option.some.injEq,Prod.mk.injEq]at h
    obtain ⟨rfl,rfl,rfl,rfl⟩:=h
    obtain ⟨st,he,hl⟩:=a1 ks i1 nm1 hp hm.1 hm.2
    exact done ks (i1+1) nm1 d false st he hl
   ·rw [if_neg hm]
    refine ⟨fun t q i' nm' h=>by simp at h,fun _=> ?_⟩
    obtain ⟨ks',a,nm',d',st,ha,he,hl⟩:=a2 (fun ks' i' nm' h=>by
     rw [hp]at h
     simp only [Option.some.injEq,Prod.mk.injEq]at h
     obtain ⟨rfl,rfl,rfl⟩:=h
     exact hm)
    exact ⟨_,_,_,⟨a,nm',d',by omega,rfl⟩,done ks' a nm' d' true st he hl⟩
 rw [if_neg c1]
 by_cases c2:isM l i [40]=true
 ·have hlt:=(ym c2).1
  rw [if_pos c2]
  by_cases c3:(sgD l (i+1)).kind=1∧isM l (i+2) [41]=true
  ·rw [if_pos c3]
   refine ⟨fun t q i' nm' h=> ?_,fun h=>by simp at h⟩
   simp only [Option.some.injEq,Prod.mk.injEq]at h
   obtain ⟨rfl,rfl,rfl,rfl⟩:=h
   exact qgE l τ hg i hi nm d most c2 _ _ _ _ _ (qAz l τ hg (i+1) nm d c3.1 c3.2)
  ·rw [if_neg c3]
   obtain ⟨t1,t2⟩:=hT (i+1) nm d 1200 (by omega) (by omega) (by omega) hd
   cases hp:pT l n (i+1) nm d 1200 with
   |none=>
    refine ⟨fun t q i' nm' h=>by simp at h,fun _=> ?_⟩
    obtain ⟨g,cs,⟨a,nm1,d1,ha,rfl⟩,hc⟩:=t2 hp
    have:=(qo9 l τ hg (i+1) (by omega) nm d c3 g a (by omega) nm1 d1 true hc).2 rfl
    exact ⟨_,_,_,⟨a,nm1,d1,by omega,rfl⟩,qgE l τ hg i hi nm d most c2 _ _ _ _ _ this⟩
   |some r=>
    obtain ⟨g,i1,nm1⟩:=r
    have adv:=(Qy l n).1 _ _ _ _ _ _ _ hp
    obtain ⟨r1,r2⟩:=qo9 l τ hg (i+1) (by omega) nm d c3 g i1 (by omega) nm1 d false (t1 _ _ _ hp)
    simp only
    by_cases hm:isM l i1 [41]=true
    ·rw [if_pos hm]
     refine ⟨fun t q i' nm' h=> ?_,fun h=>by simp at h⟩
     simp only [Option.some.injEq,Prod.mk.injEq]at h
     obtain ⟨rfl,rfl,rfl,rfl⟩:=h
     exact qgE l τ hg i hi nm d most c2 _ _ _ _ _ (r1 rfl hm)
    ·rw [if_neg hm]
     have hb:isM l i1 [41]=false:=by cases h:isM l i1 [41];rfl;exact absurd h hm
     exact ⟨fun t q i' nm' h=>by simp at h,fun _=>⟨_,_,_,⟨i1,nm1,d,by omega,rfl⟩,qgE l τ hg i hi nm d most c2 _ _ _ _ _ (r2 (by rw [hb];rfl))⟩⟩
 rw [if_neg c2]
 have n40:isM l i [40]=false:=by cases h:isM l i [40];rfl;exact absurd h c2
 by_cases c4:isM l i [91]=true
 ·have hlt:=(ym c4).1
  rw [if_pos c4]
  by_cases c5:isM l (i+1) [93]=true
  ·rw [if_pos c5]
   refine ⟨fun t q i' nm' h=> ?_,fun h=>by simp at h⟩
   simp only [Option.some.injEq,Prod.mk.injEq]at h
   obtain ⟨rfl,rfl,rfl,rfl⟩:=h
   exact qpH l τ hg i hi nm d most c4 xL (i+2) nm d false (qAE l τ hg (i+1) (by omega) nm d c5)
  rw [if_neg c5]
  have n93:isM l (i+1) [93]=false:=by cases h:isM l (i+1) [93];rfl;exact absurd h c5
  obtain ⟨m,hm1⟩: ∃ m,n=m+1:=⟨n - 1,by omega⟩
  obtain ⟨a1,a2⟩:=hR m hm1.symm (i+1) nm d [] (by omega) (by omega) (by omega) (by simp) hd
  rw [pa (i+1) nm d m hm1]
  have done:=fun (ks:List Tm) (hk:ks.length≤2^30) (out:Tm) (a:Nat) (nm':List Str) (d':Int) (b:Bool) (st:St) (he:EXr l τ a nm' d' b ks out st) hl=>
   qpH l τ hg i hi nm d most c4 (xu ks out) a nm' d' b (qAC l τ hg (i+1) (by omega) nm d n93 a nm' d' b ks hk out st he hl)
  cases hp:pC l m (i+1) nm d []with
  |none=>
   refine ⟨fun t q i' nm' h=>by simp at h,fun _=> ?_⟩
   obtain ⟨ks,a,nm',d',st,ha,hkl,he,hl⟩:=a1 hp
   exact ⟨_,_,_,⟨a,nm',d',by omega,rfl⟩,done ks (by omega) xL a nm' d' true st he hl⟩
  |some r=>
   obtain ⟨ks,i1,nm1⟩:=r
   obtain ⟨j1,j2,j3,j4⟩:=a2 ks i1 nm1 hp
   have hpa:pA l n (i+1) nm d=some (ks,i1,nm1):=by rw [pa (i+1) nm d m hm1,hp]
   have adv:=(Qy l n).2.2.2.1 _ _ _ _ _ _ hpa
   have nl:=(ZX l n).2.2.2.1 _ _ _ _ _ _ hpa
   simp only
   cases hb:isM l i1 [124]with
   |true=>
    have hlt1:=(ym hb).1
    rw [if_pos rfl]
    obtain ⟨t1,t2⟩:=hT (i1+1) nm1 d 999 (by omega) (by omega) (by omega) hd
    cases hp2:pT l n (i1+1) nm1 d 999 with
    |none=>
     refine ⟨fun t q i' nm' h=>by simp at h,fun _=> ?_⟩
     obtain ⟨g,cs,⟨a,nm2,d1,ha,rfl⟩,hc2⟩:=t2 hp2
     obtain ⟨st,he,hl⟩:=j3 hb g a nm2 d1 true a true hc2 (qaw l τ hlen a (by omega) nm2 d1 true [93] (by decide) rfl)
     exact ⟨_,_,_,⟨a,nm2,d1,by omega,rfl⟩,done ks (by omega) g a nm2 d1 true st he hl⟩
    |some r2=>
     obtain ⟨r,i2,nm2⟩:=r2
     have adv2:=(Qy l n).1 _ _ _ _ _ _ _ hp2
     simp only
     by_cases hm:isM l i2 [93]=true
     ·rw [if_pos hm]
      refine ⟨fun t q i' nm' h=> ?_,fun h=>by simp at h⟩
      simp only [Option.some.injEq,Prod.mk.injEq]at h
      obtain ⟨rfl,rfl,rfl,rfl⟩:=h
      obtain ⟨st,he,hl⟩:=j3 hb r i2 nm2 d false (i2+1) false (t1 _ _ _ hp2) (qgB l τ hlen i2 (by omega) nm2 d [93] (by decide) hm)
      exact done ks (by omega) r (i2+1) nm2 d false st he hl
     ·rw [if_neg hm]
      have hf:isM l i2 [93]=false:=by cases h:isM l i2 [93];rfl;exact absurd h hm
      obtain ⟨st,he,hl⟩:=j3 hb r i2 nm2 d false i2 true (t1 _ _ _ hp2) (qaw l τ hlen i2 (by omega) nm2 d false [93] (by decide) (by rw [hf];rfl))
      exact ⟨fun t q i' nm' h=>by simp at h,fun _=>⟨_,_,_,⟨i2,nm2,d,by omega,rfl⟩,done ks (by omega) r i2 nm2 d true st he hl⟩⟩
   |false=>
    rw [if_neg (by decide)]
    by_cases hm:isM l i1 [93]=true
    ·rw [if_pos hm]
     refine ⟨fun t q i' nm' h=> ?_,fun h=>by simp at h⟩
     simp only [Option.some.injEq,Prod.mk.injEq]at h
     obtain ⟨rfl,rfl,rfl,rfl⟩:=h
     obtain ⟨st,he,hl⟩:=j2 hm
     exact done ks (by omega) xL (i1+1) nm1 d false st he hl
    ·rw [if_neg hm]
     have hf:isM l i1 [93]=false:=by cases h:isM l i1 [93];rfl;exact absurd h hm
     obtain ⟨st,he,hl⟩:=j4 hf hb
     exact ⟨fun t q i' nm' h=>by simp at h,fun _=>⟨_,_,_,⟨i1,nm1,d,by omega,rfl⟩,done ks (by omega) xL i1 nm1 d true st he hl⟩⟩
 rw [if_neg c4]
 have n91:isM l i [91]=false:=by cases h:isM l i [91];rfl;exact absurd h c4
 by_cases c6:(sgD l i).kind=3
 ·rw [if_pos c6]
  refine ⟨fun t q i' nm' h=> ?_,fun h=>by simp at h⟩
  simp only [Option.some.injEq,Prod.mk.injEq]at h
  obtain ⟨rfl,rfl,rfl,rfl⟩:=h
  exact qB0 l τ hg i hi nm d most c6
 rw [if_neg c6]
 by_cases c7:(sgD l i).kind=2
 ·rw [if_pos c7]
  refine ⟨fun t q i' nm' h=> ?_,fun h=>by simp at h⟩
  simp only [Option.some.injEq,Prod.mk.injEq]at h
  obtain ⟨rfl,rfl,rfl,rfl⟩:=h
  exact qB1 l τ hg i hi nm d most c7 (by omega)
 rw [if_neg c7]
 by_cases k1:(sgD l i).kind=1
 ·have hnr:(sgD l i).near=false:=by
   cases h:(sgD l i).near with
   |true=>exact absurd ⟨k1,h⟩ c1
   |false=>rfl
  have wrap:=fun (t:Tm) (q:Int) (a:Nat) (nm':List Str) (d':Int) (b:Bool) h=>qpG l τ hg i hi nm d most k1 t q a nm' d' b h
  by_cases c8:(sgD l i).kind=1∧(sgD l i).text=[45]∧(sgD l (i+1)).kind=3∧(sgD l (i+1)).at_=(sgD l i).at_+1
  ·rw [if_pos c8]
   refine ⟨fun t q i' nm' h=> ?_,fun h=>by simp at h⟩
   simp only [Option.some.injEq,Prod.mk.injEq]at h
   obtain ⟨rfl,rfl,rfl,rfl⟩:=h
   exact wrap _ _ _ _ _ _ (qBo l τ hg i hi nm d most k1 hnr c8.2.1 (by unfold jP;rw [decide_eq_true c8.2.2.1,decide_eq_true c8.2.2.2];rfl))
  rw [if_neg c8]
  have hneg:(decide ((sgD l i).text=[45])&&jP l i)=false:=by
   cases h:(decide ((sgD l i).text=[45])&&jP l i)with
   |false=>rfl
   |true=>
    unfold jP at h
    simp only [Bool.and_eq_true,decide_eq_true_eq]at h
    exact absurd ⟨k1,h.1,h.2.1,h.2.2⟩ c8
  have hlt:i < l.length:=yW (by rw [k1];decide)
  by_cases hp0:(zO (sgD l i).text).prio=0
  ·rw [if_neg fun h=>h.2.1 hp0]
   by_cases hq0:(qP (sgD l i).text).prio=0
   ·rw [if_pos ⟨k1,hp0,hq0⟩]
    refine ⟨fun t q i' nm' h=> ?_,fun h=>by simp at h⟩
    simp only [Option.some.injEq,Prod.mk.injEq]at h
    obtain ⟨rfl,rfl,rfl,rfl⟩:=h
    exact wrap _ _ _ _ _ _ (qBk l τ hg i hi nm d most k1 hnr hneg hp0 hq0)
   ·rw [if_neg fun h=>hq0 h.2.2]
    exact ⟨fun t q i' nm' h=>by simp at h,fun _=>⟨_,_,_,⟨i,nm,d,by omega,rfl⟩,wrap _ _ _ _ _ _ (qBm l τ hg i hi nm d most k1 hnr hneg hp0 hq0)⟩⟩
  ·by_cases hm:(zO (sgD l i).text).prio≤most
   ·rw [if_pos ⟨k1,hp0,hm⟩]
    obtain ⟨t1,t2⟩:=hT (i+1) nm d (zO (sgD l i).text).right (by omega) (by omega) (by omega) hd
    cases hp:pT l n (i+1) nm d (zO (sgD l i).text).right with
    |none=>
     refine ⟨fun t q i' nm' h=>by simp at h,fun _=> ?_⟩
     obtain ⟨g,cs,⟨a,nm1,d1,ha,rfl⟩,hc⟩:=t2 hp
     exact ⟨_,_,_,⟨a,nm1,d1,by omega,rfl⟩,wrap _ _ _ _ _ _ (qpm l τ hg i hi nm d most k1 hnr hneg hp0 hm g a nm1 d1 true hc)⟩
    |some r=>
     obtain ⟨x,i1,nm1⟩:=r
     refine ⟨fun t q i' nm' h=> ?_,fun h=>by simp at h⟩
     simp only [Option.some.injEq,Prod.mk.injEq]at h
     obtain ⟨rfl,rfl,rfl,rfl⟩:=h
     exact wrap _ _ _ _ _ _ (qpm l τ hg i hi nm d most k1 hnr hneg hp0 hm x i1 nm1 d false (t1 _ _ _ hp))
   ·rw [if_neg fun h=>hm h.2.2,if_neg fun h=>hp0 h.2.1]
    exact ⟨fun t q i' nm' h=>by simp at h,fun _=>⟨_,_,_,⟨i,nm,d,by omega,rfl⟩,wrap _ _ _ _ _ _ (qBl l τ hg i hi nm d most k1 hnr hneg hp0 hm)⟩⟩
 ·rw [if_neg fun h=>k1 h.1,if_neg fun h=>k1 h.1,if_neg fun h=>k1 h.1]
  exact ⟨fun t q i' nm' h=>by simp at h,fun _=>⟨_,_,_,⟨i,nm,d,by omega,rfl⟩,qBZ l τ hg i hi nm d most k1 c7 c6 n40 n91⟩⟩
theorem qkZ(l:List Sg) (τ:Bool) (hg:GoodL l): ∀ n:Nat,n≤2^20→ST l τ n∧SL l τ n∧SP l τ n∧(∀ m,m+1=n→SS l τ m)∧(∀ m,m+1=n→SR l τ m)
 |0,_=>⟨fun i nm d most h=>by omega,fun i nm d most t q h=>by omega,fun i nm d most h=>by omega,fun m h=>by omega,fun m h=>by omega⟩
 |n+1,hn=>by
  obtain ⟨hT,hL,hP,hS,hR⟩:=qkZ l τ hg n (by omega)
  refine ⟨qq2 l τ n hP hL,qqY l τ hg n hT hL,qqZ l τ hg n (by omega) hT hS hR,fun m h=> ?_,fun m h=> ?_⟩
  ·obtain rfl:m=n:=by omega
   exact qq1 l τ hg m (by omega) hT hS
  ·obtain rfl:m=n:=by omega
   exact qq0 l τ hg m (by omega) hT hR
theorem qBU(l:List Sg) (τ:Bool) (hg:GoodL l) (i:Nat) (hi:i≤l.length):
 (∀ t i' nm',pT l 20000 i [] 0 1200=some (t,i',nm')→cw qg yc [.b (.a [.i τ (l.map Sg.v),I i,B false,I ((0:Nat)),.o 1 (List.map S [])]),I 1200]=some (oT t,[.b (.a [.i τ (l.map Sg.v),I i',B false,I ((0:Nat)),.o 1 (List.map S nm')]),I 1200]))∧
 (pT l 20000 i [] 0 1200=none→ ∃ g cs,qgM l τ (2^20) cs∧cw qg yc [.b (.a [.i τ (l.map Sg.v),I i,B false,I ((0:Nat)),.o 1 (List.map S [])]),I 1200]=some (oT g,[.b (.a cs),I 1200])):=by
 have hlen:=hg.len
 obtain ⟨h1,h2⟩:=(qkZ l τ hg 20000 (by omega)).1 i [] 0 1200 (by omega) hi (by simp) (by omega)
 refine ⟨h1,fun h=> ?_⟩
 obtain ⟨g,cs,⟨a,nm,d,ha,rfl⟩,hc⟩:=h2 h
 exact ⟨g,_,⟨a,nm,d,by omega,rfl⟩,hc⟩
end Go.Vm
namespace Go.Vm
end Go.Vm
namespace Go.Vm
end Go.Vm
namespace Go.Vm
def bhd:List Sg→Nat→Nat
 |[],i=>i
 |x::r,i=>if x.kind=5 then i+1 else bhd r (i+1)
def Ql(l:List Sg) (n:Int):Nat:=if (max n 0).toNat < l.length then bhd (l.drop (max n 0).toNat) (max n 0).toNat else l.length
def k9(l:List Sg) (n:Int):Tm × List Str × Nat × Bool:=
 if 0≤n∧n≤(l.length:Int) - 1 then
  match pT l 20000 n.toNat [] 0 1200 with
  |some (t,i',nm')=>if (sgD l i').kind=5∧zA t=true then (t,nm',i'+1,true)else (.mk 0 [] 0 [],[],Ql l n,false)
  |none=>(.mk 0 [] 0 [],[],Ql l n,false)
 else (.mk 0 [] 0 [],[],Ql l n,false)
theorem qlq(l:List Sg) (τ:Bool) (hl:l.length≤3000): ∀ (r:List Sg) (k:Nat),l.drop k=r→k+r.length=l.length→
 lw qg JE ⟨[(0,.i τ (l.map Sg.v)),(1,I k)],[]⟩=(if ∃ x ∈ r,x.kind=5 then some (.ret,⟨[(4,I (bhd r k:Nat))],[]⟩)else some (.exit 0,⟨[(0,.i τ (l.map Sg.v))],[]⟩))
 |[],k,h,hk=>by
  have h1: ¬ (k:Int) < (l.length:Int):=by simp only [List.length_nil]at hk;omega
  rw [if_neg (by simp),ql]
  simp only [go_sem,qa,qb,qc,qd,qe,qf,reduceCtorEq,JK,List.length_map,h1]
 |x::r,k,h,hk=>by
  simp only [List.length_cons]at hk
  have hx:l[k]? =some x:=by
   have:=congrArg (fun z=>z[0]?) h
   simpa using this
  have hd:l.drop (k+1)=r:=by
   have:=congrArg (fun z=>z.drop 1) h
   simpa [List.drop_drop,Nat.add_comm]using this
  have h1:(k:Int) < (l.length:Int):=by omega
  have e1:w64 ((k:Int)+1)=((k+1:Nat):Int):=by rw [qm]<;>omega
  have e2:w64 (((k+1:Nat):Int) - 1)=(k:Int):=by rw [qm]<;>omega
  have g:=zu (f:=Sg.v) hx
  have a1:=fun T=>qZ (τ:=τ) (T:=T) (e:=5) g rfl
  rw [Sg.v]at g
  by_cases h5:x.kind=5
  ·have d5:decide (x.kind=5)=true:=decide_eq_true h5
   rw [if_pos ⟨x,List.mem_cons_self,h5⟩]
   simp only [bhd,if_pos h5]
   rw [ql]
   simp only [go_sem,qa,qb,qc,qd,qe,qf,reduceCtorEq,JK,List.length_map,h1,e1,e2,g,a1,d5]
  ·have d5:decide (x.kind=5)=false:=decide_eq_false h5
   have ih:=qlq l τ hl r (k+1) hd (by omega)
   have ex:(∃ y ∈ x::r,y.kind=5)↔(∃ y ∈ r,y.kind=5):=by
    simp only [List.mem_cons,exists_eq_or_imp,h5,false_or]
   simp only [bhd,if_neg h5,ex]
   rw [← ih,ql]
   simp only [go_sem,qa,qb,qc,qd,qe,qf,reduceCtorEq,JK,List.length_map,h1,e1,e2,g,a1,d5]
theorem qlr: ∀ (r:List Sg) (i:Nat),(¬ ∃ x ∈ r,x.kind=5)→bhd r i=i+r.length
 |[],i,h=>rfl
 |x::r,i,h=>by
  have h5: ¬ x.kind=5:=fun e=>h ⟨x,List.mem_cons_self,e⟩
  have:=qlr r (i+1) (fun ⟨y,hy,e⟩=>h ⟨y,List.mem_cons_of_mem _ hy,e⟩)
  simp only [bhd,if_neg h5,this,List.length_cons];omega
theorem qdg(l:List Sg) (τ:Bool) (hl:l.length≤3000) (n:Int) (hn:n≤2^40):
 cr qg qht [.i τ (l.map Sg.v),I n]=some (I (Ql l n:Nat)):=by
 rw [qo qzt rfl]
 have core: ∀ k:Nat,(max n 0).toNat=k→ ∃ st,lw qg JE ⟨[(0,.i τ (l.map Sg.v)),(1,I k)],[]⟩=some st∧(st=(.ret,⟨[(4,I (Ql l n:Nat))],[]⟩)∨(Ql l n=l.length∧st=(.exit 0,⟨[(0,.i τ (l.map Sg.v))],[]⟩))):=by
  intro k hk
  unfold Ql
  rw [hk]
  by_cases h:k < l.length
  ·have lp:=qlq l τ hl (l.drop k) k rfl (by rw [List.length_drop];omega)
   rw [if_pos h]
   by_cases hx: ∃ x ∈ l.drop k,x.kind=5
   ·rw [if_pos hx]at lp
    exact ⟨_,lp,.inl rfl⟩
   ·rw [if_neg hx]at lp
    refine ⟨_,lp,.inr ⟨?_,rfl⟩⟩
    rw [qlr _ _ hx,List.length_drop];omega
  ·rw [if_neg h]
   refine ⟨_, ?_,.inr ⟨rfl,rfl⟩⟩
   have h1: ¬ (k:Int) < (l.length:Int):=by omega
   rw [ql]
   simp only [go_sem,qa,qb,qc,qd,qe,qf,reduceCtorEq,JK,List.length_map,h1]
 by_cases hn0:n < 0
 ·have hk:(max n 0).toNat=0:=by omega
  obtain ⟨st,lp,hst⟩:=core 0 hk
  simp only [Int.natCast_zero]at lp
  rcases hst with rfl|⟨hb,rfl⟩
  ·simp only [go_sem,qa,qb,qc,qd,qe,qf,reduceCtorEq,Zv,hn0,lp]
  ·simp only [go_sem,qa,qb,qc,qd,qe,qf,reduceCtorEq,Zv,hn0,lp,List.length_map,hb]
 ·obtain ⟨k,rfl⟩: ∃ k:Nat,n=k:=⟨n.toNat,by omega⟩
  obtain ⟨st,lp,hst⟩:=core k (by omega)
  rcases hst with rfl|⟨hb,rfl⟩
  ·simp only [go_sem,qa,qb,qc,qd,qe,qf,reduceCtorEq,Zv,hn0,lp]
  ·simp only [go_sem,qa,qb,qc,qd,qe,qf,reduceCtorEq,Zv,hn0,lp,List.length_map,hb]
end Go.Vm
namespace Go.Vm
theorem Yx {k:Int} {s:Str} {n:Int} (hk:inI k) (hs:s.length≤Lm) (hn:inI n):WT (.mk k s n []):=xS hk hs hn (Nat.zero_le _) (fun t h=>by cases h)
theorem qiF:inI 0:=by unfold inI;omega
theorem qhV: ∀ (ks:List Tm) (r:Tm),(∀ t ∈ ks,WT t)→WT r→WT (xu ks r)
 |[],r,_,h=>h
 |t::ks,r,h,hr=>by
  refine xS (by unfold inI;omega) (by simp [Lm]) qiF (by simp [Lm]) fun u hu=> ?_
  simp only [List.mem_cons,List.not_mem_nil,or_false]at hu
  rcases hu with rfl|rfl
  ·exact h _ List.mem_cons_self
  ·exact qhV ks r (fun v hv=>h v (List.mem_cons_of_mem _ hv)) hr
theorem qq9 {s:Str} {t y:Tm} (hs:s.length≤3000) (ht:WT t) (hy:WT y):WT (.mk 4 s 0 [t,y]):=
 xS (by unfold inI;omega) (by unfold Lm;omega) qiF (by simp [Lm]) fun u hu=>by
  simp only [List.mem_cons,List.not_mem_nil,or_false]at hu
  rcases hu with rfl|rfl<;>assumption
theorem qra {nm:List Str} {s:Str} (h:nm.length≤2^30):WT (Zl nm s).1:=by
 unfold Zl
 split
 ·rename_i hm
  have:=(qfK s nm 0).1 hm.1
  exact Yx (by unfold inI;omega) (by simp [Lm]) (by unfold inI;omega)
 ·exact Yx (by unfold inI;omega) (by simp [Lm]) (by unfold inI;omega)
theorem qn5(l:List Sg) (hg:GoodL l): ∀ n:Nat,
 (∀ i nm d most t i' nm',nm.length≤i→i≤l.length→pT l n i nm d most=some (t,i',nm')→WT t)∧
 (∀ i nm d most t q t' i' nm',nm.length≤i→i≤l.length→WT t→pL l n i nm d most t q=some (t',i',nm')→WT t')∧
 (∀ i nm d most t q i' nm',nm.length≤i→i≤l.length→pP l n i nm d most=some (t,q,i',nm')→WT t)∧
 (∀ i nm d ks i' nm',nm.length≤i→i≤l.length→pA l n i nm d=some (ks,i',nm')→ ∀ t ∈ ks,WT t)∧
 (∀ i nm d acc ks i' nm',nm.length≤i→i≤l.length→(∀ t ∈ acc,WT t)→pB l n i nm d acc=some (ks,i',nm')→ ∀ t ∈ ks,WT t):=by
 have hlen:=hg.len
 have h0:inI 0:=qiF
 intro n
 induction n with
 |zero=>refine ⟨?_, ?_, ?_, ?_, ?_⟩<;>intros<;>simp_all [pT,pL,pP,pA,pB]
 |succ n ih=>
  obtain ⟨hT,hL,hP,hA,hB⟩:=ih
  have ad:=Qy l n
  have nl:=ZX l n
  refine ⟨?_, ?_, ?_, ?_, ?_⟩
  ·intro i nm d most t i' nm' hn hi h
   simp only [pT]at h
   split at h
   ·cases h
   split at h
   ·cases h
   ·rename_i t1 q1 i1 nm1 h1
    have a:=ad.2.2.1 _ _ _ _ _ _ _ _ h1
    have b:=nl.2.2.1 _ _ _ _ _ _ _ _ h1
    exact hL _ _ _ _ _ _ _ _ _ (by omega) a.2 (hP _ _ _ _ _ _ _ _ hn hi h1) h
  ·intro i nm d most t q t' i' nm' hn hi ht h
   simp only [pL]at h
   split at h
   ·rename_i hgo
    have:=qiv hgo
    split at h
    ·cases h
    ·rename_i y i1 nm1 h1
     have a:=ad.1 _ _ _ _ _ _ _ h1
     have b:=nl.1 _ _ _ _ _ _ _ h1
     exact hL _ _ _ _ _ _ _ _ _ (by omega) a.2 (qq9 (hg.text i) ht (hT _ _ _ _ _ _ _ (by omega) (by omega) h1)) h
   ·cases h;exact ht
  ·intro i nm d most t q i' nm' hn hi h
   have tx:=hg.text i
   simp only [pP]at h
   split at h
   ·rename_i hk
    have h40:=ym (hg.near i hk.2)
    split at h
    ·cases h
    ·rename_i ks i1 nm1 h1
     split at h
     ·rename_i hm
      cases h
      exact xS (by unfold inI;omega) (by unfold Lm;omega) h0 (by unfold Lm;omega) (hA _ _ _ _ _ _ (by omega) (by omega) h1)
     ·cases h
   split at h
   ·rename_i hk
    have:=ym hk
    split at h
    ·have:=hg.text (i+1)
     cases h
     exact Yx (by unfold inI;omega) (by unfold Lm;omega) h0
    ·split at h
     ·cases h
     ·rename_i t1 i1 nm1 h1
      split at h
      ·cases h
       exact hT _ _ _ _ _ _ _ (by omega) (by omega) h1
      ·cases h
   split at h
   ·rename_i hk
    have:=ym hk
    split at h
    ·cases h
     exact Yx (by unfold inI;omega) (by simp [Lm]) h0
    ·split at h
     ·cases h
     ·rename_i ks i1 nm1 h1
      have a:=ad.2.2.2.1 _ _ _ _ _ _ h1
      have b:=nl.2.2.2.1 _ _ _ _ _ _ h1
      have hks:=hA _ _ _ _ _ _ (by omega) (by omega) h1
      split at h
      ·rename_i hb
       have:=ym hb
       split at h
       ·cases h
       ·rename_i r i2 nm2 h2
        split at h
        ·cases h
         exact qhV _ _ hks (hT _ _ _ _ _ _ _ (by omega) (by omega) h2)
        ·cases h
      ·split at h
       ·cases h
        exact qhV _ _ hks (Yx (by unfold inI;omega) (by simp [Lm]) h0)
       ·cases h
   split at h
   ·cases h
    have:=hg.num i
    exact Yx (by unfold inI;omega) (by simp [Lm]) (by unfold inI;omega)
   split at h
   ·cases h
    exact qra (by omega)
   split at h
   ·cases h
    have:=hg.num (i+1)
    exact Yx (by unfold inI;omega) (by simp [Lm]) (by unfold inI;omega)
   split at h
   ·rename_i hk
    have hlt:i < l.length:=yW (by rw [hk.1];decide)
    split at h
    ·cases h
    ·rename_i x i1 nm1 h1
     cases h
     refine xS (by unfold inI;omega) (by unfold Lm;omega) h0 (by simp [Lm]) fun u hu=> ?_
     simp only [List.mem_cons,List.not_mem_nil,or_false]at hu
     subst hu
     exact hT _ _ _ _ _ _ _ (by omega) (by omega) h1
   split at h
   ·cases h
    exact Yx (by unfold inI;omega) (by unfold Lm;omega) h0
   ·cases h
  ·intro i nm d ks i' nm' hn hi h
   simp only [pA]at h
   split at h
   ·cases h
   ·rename_i t i1 nm1 h1
    have a:=ad.1 _ _ _ _ _ _ _ h1
    have b:=nl.1 _ _ _ _ _ _ _ h1
    exact hB _ _ _ _ _ _ _ (by omega) a.2 (fun u hu=>by
     simp only [List.mem_cons,List.not_mem_nil,or_false]at hu
     subst hu
     exact hT _ _ _ _ _ _ _ hn hi h1) h
  ·intro i nm d acc ks i' nm' hn hi hacc h
   simp only [pB]at h
   split at h
   ·rename_i hm
    have:=ym hm
    split at h
    ·cases h
    ·rename_i t i1 nm1 h1
     have a:=ad.1 _ _ _ _ _ _ _ h1
     have b:=nl.1 _ _ _ _ _ _ _ h1
     exact hB _ _ _ _ _ _ _ (by omega) a.2 (fun u hu=>by
      rcases List.mem_append.1 hu with hu|hu
      ·exact hacc u hu
      ·simp only [List.mem_cons,List.not_mem_nil,or_false]at hu
       subst hu
       exact hT _ _ _ _ _ _ _ (by omega) (by omega) h1) h
   ·cases h;exact hacc
end Go.Vm
namespace Go.Vm
def rV(r:Tm × List Str × Nat × Bool):V:= .t [oT r.1,.o 1 (r.2.1.map S),I (r.2.2.1:Nat),B r.2.2.2]
end Go.Vm
namespace Go.Vm
theorem qBT(l:List Sg) (τ:Bool) (hg:GoodL l) (n:Int) (hn:n≤2^40) (ho: ¬ (0≤n∧n≤(l.length:Int) - 1)):
 cr qg Yp [.i τ (l.map Sg.v),I n]=some (.t [oT (.mk 0 [] 0 []),.o 1 [],I (Ql l n:Nat),B false]):=by
 have hlen:=hg.len
 have bh:=qdg l τ hlen n hn
 have e1:w64 ((l.length:Int) - 1)=(l.length:Int) - 1:=by rw [qm]<;>omega
 have wi:=ZS n 0 ((l.length:Int) - 1)
 rw [decide_eq_false ho]at wi
 rw [qo qcW rfl,zj]
 simp only [go_sem,qa,qb,qc,qd,qe,qf,reduceCtorEq,QH,List.length_map,bh,e1,wi]
theorem qBP(l:List Sg) (τ:Bool) (hg:GoodL l) (k:Nat) (hk:k < l.length) (g:Tm) (a:Nat) (ha:a≤2^30) (nm':List Str) (d':Int)
 (hp:cw qg yc [.b (.a [.i τ (l.map Sg.v),I k,B false,I ((0:Nat)),.o 1 (List.map S ([]:List Str))]),I 1200]=some (oT g,[.b (.a [.i τ (l.map Sg.v),I a,B true,I (d'),.o 1 (List.map S nm')]),I 1200])):
 cr qg Yp [.i τ (l.map Sg.v),I k]=some (.t [oT (.mk 0 [] 0 []),.o 1 [],I (Ql l k:Nat),B false]):=by
 have hlen:=hg.len
 have bh:=qdg l τ hlen k (by omega)
 have e1:w64 ((l.length:Int) - 1)=(l.length:Int) - 1:=by rw [qm]<;>omega
 have wi:=ZS k 0 ((l.length:Int) - 1)
 rw [decide_eq_true ⟨by omega,by omega⟩]at wi
 simp only [List.map_nil,Int.natCast_zero]at hp
 have tk: ∀ x:Tm,(x.kids.map oT).take x.kids.length=x.kids.map oT:=fun x=>List.take_of_length_le (by simp)
 rw [qv]at hp
 have i5:=zR l τ hlen a (by omega) (.i true (nm'.map S)) d' true 5 []
 rw [qo qcW rfl,zj]
 simp only [go_sem,qa,qb,qc,qd,qe,qf,reduceCtorEq,QH,List.length_map,bh,e1,wi,hp,tk,i5,Bool.not_true,Bool.false_and]
theorem qBR(l:List Sg) (τ:Bool) (hg:GoodL l) (k:Nat) (hk:k < l.length) (t:Tm) (i':Nat) (hi:i'≤l.length) (nm':List Str) (hw:WT t)
 (hp:cw qg yc [.b (.a [.i τ (l.map Sg.v),I k,B false,I ((0:Nat)),.o 1 (List.map S ([]:List Str))]),I 1200]=some (oT t,[.b (.a [.i τ (l.map Sg.v),I i',B false,I ((0:Nat)),.o 1 (List.map S nm')]),I 1200])) (h5:(sgD l i').kind ≠ 5):
 cr qg Yp [.i τ (l.map Sg.v),I k]=some (.t [oT (.mk 0 [] 0 []),.o 1 [],I (Ql l k:Nat),B false]):=by
 have hlen:=hg.len
 have bh:=qdg l τ hlen k (by omega)
 have e1:w64 ((l.length:Int) - 1)=(l.length:Int) - 1:=by rw [qm]<;>omega
 have wi:=ZS k 0 ((l.length:Int) - 1)
 rw [decide_eq_true ⟨by omega,by omega⟩]at wi
 simp only [List.map_nil,Int.natCast_zero]at hp
 have tk: ∀ x:Tm,(x.kids.map oT).take x.kids.length=x.kids.map oT:=fun x=>List.take_of_length_le (by simp)
 rw [qv]at hp
 have i5:=zR l τ hlen i' (by omega) (.i true (nm'.map S)) (0:Nat) false 5 []
 rw [yl l i' 5 (by decide)]at i5
 simp only [Int.natCast_zero]at i5
 rw [decide_eq_false h5]at i5
 rw [qo qcW rfl,zj]
 simp only [go_sem,qa,qb,qc,qd,qe,qf,reduceCtorEq,QH,List.length_map,bh,e1,wi,hp,tk,i5,Bool.not_false,Bool.true_and]
theorem qBS(l:List Sg) (τ:Bool) (hg:GoodL l) (k:Nat) (hk:k < l.length) (t:Tm) (i':Nat) (hi:i'≤l.length) (nm':List Str) (hw:WT t)
 (hp:cw qg yc [.b (.a [.i τ (l.map Sg.v),I k,B false,I ((0:Nat)),.o 1 (List.map S ([]:List Str))]),I 1200]=some (oT t,[.b (.a [.i τ (l.map Sg.v),I i',B false,I ((0:Nat)),.o 1 (List.map S nm')]),I 1200])) (h5:(sgD l i').kind=5) (hok:zA t=false):
 cr qg Yp [.i τ (l.map Sg.v),I k]=some (.t [oT (.mk 0 [] 0 []),.o 1 [],I (Ql l k:Nat),B false]):=by
 have hlen:=hg.len
 have bh:=qdg l τ hlen k (by omega)
 have e1:w64 ((l.length:Int) - 1)=(l.length:Int) - 1:=by rw [qm]<;>omega
 have wi:=ZS k 0 ((l.length:Int) - 1)
 rw [decide_eq_true ⟨by omega,by omega⟩]at wi
 simp only [List.map_nil,Int.natCast_zero]at hp
 have tk: ∀ x:Tm,(x.kids.map oT).take x.kids.length=x.kids.map oT:=fun x=>List.take_of_length_le (by simp)
 rw [qv]at hp
 have i5:=zR l τ hlen i' (by omega) (.i true (nm'.map S)) (0:Nat) false 5 []
 rw [yl l i' 5 (by decide)]at i5
 simp only [Int.natCast_zero]at i5
 rw [decide_eq_true h5]at i5
 have ok:=YP t hw (iT true t) (xl true t)
 rw [hok]at ok
 rw [ye]at ok
 rw [qo qcW rfl,zj]
 simp only [go_sem,qa,qb,qc,qd,qe,qf,reduceCtorEq,QH,List.length_map,bh,e1,wi,hp,tk,i5,ok,Bool.not_false,Bool.true_and]
theorem qBQ(l:List Sg) (τ:Bool) (hg:GoodL l) (k:Nat) (hk:k < l.length) (t:Tm) (i':Nat) (hi:i'≤l.length) (nm':List Str) (hw:WT t)
 (hp:cw qg yc [.b (.a [.i τ (l.map Sg.v),I k,B false,I ((0:Nat)),.o 1 (List.map S ([]:List Str))]),I 1200]=some (oT t,[.b (.a [.i τ (l.map Sg.v),I i',B false,I ((0:Nat)),.o 1 (List.map S nm')]),I 1200])) (hn:nm'.length≤2^30) (h5:(sgD l i').kind=5) (hok:zA t=true):
 cr qg Yp [.i τ (l.map Sg.v),I k]=some (.t [oT t,.o 1 (nm'.map S),I ((i'+1:Nat):Int),B true]):=by
 have hlen:=hg.len
 have bh:=qdg l τ hlen k (by omega)
 have e1:w64 ((l.length:Int) - 1)=(l.length:Int) - 1:=by rw [qm]<;>omega
 have wi:=ZS k 0 ((l.length:Int) - 1)
 rw [decide_eq_true ⟨by omega,by omega⟩]at wi
 simp only [List.map_nil,Int.natCast_zero]at hp
 have tk: ∀ x:Tm,(x.kids.map oT).take x.kids.length=x.kids.map oT:=fun x=>List.take_of_length_le (by simp)
 rw [qv]at hp
 have i5:=zR l τ hlen i' (by omega) (.i true (nm'.map S)) (0:Nat) false 5 []
 rw [yl l i' 5 (by decide)]at i5
 simp only [Int.natCast_zero]at i5
 rw [decide_eq_true h5]at i5
 have ok:=YP t hw (iT true t) (xl true t)
 rw [hok]at ok
 rw [ye]at ok
 have e2:w64 ((i':Int)+1)=((i'+1:Nat):Int):=by rw [qm]<;>omega
 have z1:ya (nm'.map S)=true:=qdk (f:=S) (fun _=>rfl) nm'
 have z2:xV 1 (nm'.map S)=true:=JP (f:=S) (fun _=>⟨rfl,rfl⟩) nm'
 have l1:decide (nm'.length*16≤lim)=true:=decide_eq_true (by rw [qM];omega)
 have l2:decide (nm'.length≤lim)=true:=decide_eq_true (by rw [qM];omega)
 have tk2:(nm'.map S).take nm'.length=nm'.map S:=List.take_of_length_le (by simp)
 rw [qo qcW rfl,qv]
 simp only [go_sem,qa,qb,qc,qd,qe,qf,reduceCtorEq,QH,List.length_map,bh,e1,wi,hp,tk,i5,ok,e2,l1,l2,z1,z2,tk2,Bool.not_false,Bool.true_and,Nat.zero_add,List.nil_append,List.length_nil]
theorem qpE(l:List Sg) (τ:Bool) (hg:GoodL l) (n:Int) (hn:n≤2^40):
 cr qg Yp [.i τ (l.map Sg.v),I n]=some (rV (k9 l n)):=by
 have hlen:=hg.len
 unfold k9
 by_cases ho:0≤n∧n≤(l.length:Int) - 1
 ·rw [if_pos ho]
  obtain ⟨k,rfl⟩: ∃ k:Nat,n=k:=⟨n.toNat,by omega⟩
  have hk:k < l.length:=by omega
  obtain ⟨h1,h2⟩:=qBU l τ hg k (by omega)
  simp only [Int.toNat_natCast]
  cases hp:pT l 20000 k [] 0 1200 with
  |none=>
   obtain ⟨g,cs,⟨a,nm,d,ha,rfl⟩,hc⟩:=h2 hp
   exact qBP l τ hg k hk g a (by omega) nm d hc
  |some r=>
   obtain ⟨t,i',nm'⟩:=r
   have hc:=h1 _ _ _ hp
   have adv:=(Qy l 20000).1 _ _ _ _ _ _ _ hp
   have nl:=(ZX l 20000).1 _ _ _ _ _ _ _ hp
   simp only [List.length_nil]at nl
   have hw:=(qn5 l hg 20000).1 _ _ _ _ _ _ _ (by simp) (by omega) hp
   simp only
   by_cases h5:(sgD l i').kind=5
   ·cases hok:zA t with
    |true=>
     rw [if_pos ⟨h5,rfl⟩]
     exact qBQ l τ hg k hk t i' adv.2 nm' hw hc (by omega) h5 hok
    |false=>
     rw [if_neg (fun h=>by cases h.2)]
     exact qBS l τ hg k hk t i' adv.2 nm' hw hc h5 hok
   ·rw [if_neg (fun h=>h5 h.1)]
    exact qBR l τ hg k hk t i' adv.2 nm' hw hc h5
 ·rw [if_neg ho]
  exact qBT l τ hg n hn ho
end Go.Vm
namespace Go.Vm
theorem qsx:GoodL []:=⟨by simp,fun i h=>by simp [sgD,sg0]at h,fun i h=>by simp [sgD,sg0]at h,fun i=>by simp [sgD,sg0],fun i=>by simp [sgD,sg0],fun i=>by simp [sgD,sg0]⟩
def Za(s:Str):Bool:=decide (s.length≤3000)&&(k9 (xB s) 0).2.2.2&&decide ((k9 (xB s) 0).2.2.1=(xB s).length)
def zz(s:Str):Tm:=if Za s=true then (k9 (xB s) 0).1 else .mk 0 [] 0 []
def qoG(s:Str):List Str:=if Za s=true then (k9 (xB s) 0).2.1 else []
theorem qAk {l:List Sg} (hg:GoodL l) (n:Int):WT (k9 l n).1:=by
 have h0:WT (.mk 0 [] 0 []):=xS (by unfold inI;omega) (by simp [Lm]) (by unfold inI;omega) (by simp [Lm]) (fun u hu=>by cases hu)
 unfold k9
 split
 ·split
  ·rename_i hb _ t i' nm' hp
   split
   ·exact (qn5 l hg 20000).1 _ _ _ _ _ _ _ (by simp) (by have:=hb.1;have:=hb.2;omega) hp
   ·exact h0
  ·exact h0
 ·exact h0
theorem qAl {l:List Sg} {n:Int} (h:(k9 l n).2.2.2=true):zA (k9 l n).1=true:=by
 revert h
 unfold k9
 split
 ·split
  ·split
   ·rename_i hk;exact fun _=>hk.2
   ·intro h;cases h
  ·intro h;cases h
 ·intro h;cases h
theorem qc2(s:Str):Dr 400 (zz s):=by
 unfold zz
 split
 ·rename_i h
  unfold Za at h
  simp only [Bool.and_eq_true,decide_eq_true_eq]at h
  refine ⟨qAk (qmB h.1.1) 0, ?_⟩
  have:=qAl h.1.2
  unfold zA at this
  simp only [Bool.and_eq_true,decide_eq_true_eq]at this
  exact this.1
 ·exact yA (ZA (by omega) (by simp) (by omega)) (by decide)
theorem qfs(s:Str):cr qg qeC [S s]=some (.t [oT (zz s),.o 1 ((qoG s).map S),B (Za s)]):=by
 have sg:=qBL s
 unfold qat at sg
 unfold zz qoG
 rw [qo qy0 rfl]
 by_cases hl:s.length≤3000
 ·rw [if_pos hl]at sg
  have hg:=qmB hl
  have hb:=hg.len
  have rd:=qpE (xB s) true hg 0 (by decide)
  unfold rV at rd
  unfold Za
  rw [decide_eq_true hl,Bool.true_and]
  generalize hr:k9 (xB s) 0=r at rd ⊢
  obtain ⟨t,nm,i,ok⟩:=r
  have tk:(t.kids.map oT).take t.kids.length=t.kids.map oT:=List.take_of_length_le (by simp)
  have tkn:(nm.map S).take nm.length=nm.map S:=List.take_of_length_le (by simp)
  simp only at rd ⊢
  rw [qv t]at rd
  cases ok with
  |false=>
   simp only [Bool.false_and,Bool.false_eq_true,if_false,List.map_nil]
   rw [zj]
   simp only [go_sem,qa,qb,qc,qd,qe,qf,reduceCtorEq,Zt,sg,rd,tk,tkn,List.length_map,Bool.not_false]
  |true=>
   by_cases he:i=(xB s).length
   ·have d1:decide ((i:Int) ≠ ((xB s).length:Int))=false:=decide_eq_false (by omega)
    simp only [Bool.true_and,decide_eq_true he,if_true]
    rw [qv t]
    simp only [go_sem,qa,qb,qc,qd,qe,qf,reduceCtorEq,Zt,sg,rd,tk,tkn,List.length_map,d1,Bool.not_true]
   ·have d1:decide ((i:Int) ≠ ((xB s).length:Int))=true:=decide_eq_true (by omega)
    simp only [Bool.true_and,decide_eq_false he,Bool.false_eq_true,if_false,List.map_nil]
    rw [zj]
    simp only [go_sem,qa,qb,qc,qd,qe,qf,reduceCtorEq,Zt,sg,rd,tk,tkn,List.length_map,d1,Bool.not_true]
 ·rw [if_neg hl]at sg
  have rd:=qpE [] true qsx 0 (by decide)
  unfold rV at rd
  have e0:k9 [] 0=(.mk 0 [] 0 [],[],0,false):=by
   unfold k9
   rw [if_neg (by simp)]
   rfl
  rw [e0]at rd
  unfold Za
  simp only [decide_eq_false hl,Bool.false_and,Bool.false_eq_true,if_false]
  simp only [zj,List.map_nil]at rd ⊢
  simp only [go_sem,qa,qb,qc,qd,qe,qf,reduceCtorEq,Zt,sg,rd,Bool.not_false]
end Go.Vm
namespace Go.Vm
def jO(t:Tm):Bool:=decide (Zc t ≠ [])&& !zN (Zc t)
def xq(c:Cl):Bool:=(zA c.head&&zA c.body)&&jO c.head
def xr(x:Db):Bool:=x.clauses.all xq&&(decide (x.clauses.length≤120)&&decide (x.opn.length≤40))
theorem qiN(t:Tm) (hw:WT t) (v:V) (hb:BT t v):cr qg qeJ [v]=some (B (jO t)):=by
 have p:=qBI t hw v hb
 have k:=qBG (Zc t)
 obtain ⟨τ,vs,rfl,hv⟩:=qR hb
 rw [qo qzD rfl]
 unfold jO
 cases hp:decide (Zc t ≠ [])with
 |false=>simp only [go_sem,qa,qb,qc,qd,qe,qf,reduceCtorEq,Xk,p,hp,Bool.false_and]
 |true=>simp only [go_sem,qa,qb,qc,qd,qe,qf,reduceCtorEq,Xk,p,hp,k,Bool.true_and]
theorem qwK(c:Cl) (hh:WT c.head) (hbd:WT c.body) (v:V) (h:bCl c v):cr qg qhy [v]=some (B (xq c)):=by
 obtain ⟨τ0,vs0,τ1,vs1,rfl,h0,h1⟩:=h
 have a:=YP c.head hh _ (kJ (τ:=τ0) h0)
 have b:=YP c.body hbd _ (kJ (τ:=τ1) h1)
 have d:=qiN c.head hh _ (kJ (τ:=τ0) h0)
 rw [qo qzz rfl]
 unfold xq
 cases h1:zA c.head with
 |false=>
  rw [h1]at a
  simp only [go_sem,qa,qb,qc,qd,qe,qf,reduceCtorEq,Yj,a,Bool.false_and]
 |true=>
  rw [h1]at a
  cases h2:zA c.body with
  |false=>
   rw [h2]at b
   simp only [go_sem,qa,qb,qc,qd,qe,qf,reduceCtorEq,Yj,a,b,Bool.false_and,Bool.true_and]
  |true=>
   rw [h2]at b
   simp only [go_sem,qa,qb,qc,qd,qe,qf,reduceCtorEq,Yj,a,b,d,Bool.true_and]
theorem jk {c:Cl} {v:V} (h:bCl c v):v.cells.length=9:=by
 obtain ⟨τ0,vs0,τ1,vs1,rfl,-⟩:=h;rfl
theorem qqp(τ σ:Bool) (vs:List V) (cs:List Cl) (ss:List Str) (n:Nat) (hl:cs.length=n) (hv:RL bCl cs vs) (hlim:n≤Lm)
 (hw: ∀ c ∈ cs,WT c.head∧WT c.body) (m:Nat): ∀ (i:Nat),i+m=n→
 lw qg qbQ ⟨[(1,.p (100000,0) 0 0),(3,I i)],[((100000,0),2,[.a [.i τ vs,.i σ (ss.map S)]])]⟩=
  if (cs.drop i).all xq=true then some (.exit 0,⟨[(1,.p (100000,0) 0 0)],[((100000,0),2,[.a [.i τ vs,.i σ (ss.map S)]])]⟩)else some (.ret,⟨[(2,B false)],[((100000,0),2,[.a [.i τ vs,.i σ (ss.map S)]])]⟩):=by
 have hn:vs.length=n:=by rw [qS hv,hl]
 unfold Lm at hlim
 induction m with
 |zero=>
  intro i hi
  obtain rfl:i=n:=by omega
  have h1: ¬ (i:Int) < (i:Int):=by omega
  rw [List.drop_of_length_le (by omega),List.all_nil,if_pos rfl,ql]
  simp only [go_sem,qa,qb,qc,qd,qe,qf,reduceCtorEq,qcf,hn,h1]
 |succ m ih=>
  intro i hi
  have hlt:(i:Int) < (n:Int):=by omega
  obtain ⟨c,hc⟩:=qV (l:=cs) (i:=i) (by omega)
  obtain ⟨v,gv,hbt⟩:=yJ hv hc
  obtain ⟨w1,w2⟩:=hw c (List.mem_of_getElem? hc)
  have ok:=qwK c w1 w2 v hbt
  have a1:=fun T=>qZ (τ:=τ) (T:=T) gv (jk hbt)
  have e1:w64 ((i:Int)+1)=((i+1:Nat):Int):=by rw [qm]<;>omega
  have i1:=ih (i+1) (by omega)
  rw [zP hc,List.all_cons]
  obtain ⟨τ0,vs0,τ1,vs1,rfl,-⟩:=hbt
  cases hk:xq c with
  |true=>
   rw [hk]at ok
   simp only [Bool.true_and]
   rw [← i1,ql]
   simp only [go_sem,qa,qb,qc,qd,qe,qf,reduceCtorEq,qcf,hn,hlt,a1,gv,ok,e1]
  |false=>
   rw [hk]at ok
   simp only [Bool.false_and,Bool.false_eq_true,if_false]
   rw [ql]
   simp only [go_sem,qa,qb,qc,qd,qe,qf,reduceCtorEq,qcf,hn,hlt,a1,gv,ok,e1]
theorem qgN(x:Db) (hl:x.clauses.length≤Lm) (hw: ∀ c ∈ x.clauses,WT c.head∧WT c.body) (v:V) (h:bDb x v):cr qg qbm [v]=some (B (xr x)):=by
 obtain ⟨τ0,vs0,τ1,rfl,h0⟩:=h
 have lp:=qqp τ0 τ1 vs0 x.clauses x.opn x.clauses.length rfl h0 hl hw x.clauses.length 0 (by omega)
 rw [List.drop_zero]at lp
 simp only [Int.natCast_zero]at lp
 have ln:=qS h0
 rw [qo qyT rfl]
 unfold xr
 cases ha:x.clauses.all xq with
 |false=>
  rw [ha]at lp
  simp only [Bool.false_eq_true,if_false]at lp
  simp only [go_sem,qa,qb,qc,qd,qe,qf,reduceCtorEq,Yb,lp,Bool.false_and]
 |true=>
  rw [ha,if_pos rfl]at lp
  by_cases h1:x.clauses.length≤120
  ·have d1:(x.clauses.length:Int)≤120:=by omega
   have d2:decide ((x.opn.length:Int)≤40)=decide (x.opn.length≤40):=by simp only [decide_eq_decide];omega
   rw [decide_eq_true h1]
   simp only [Bool.true_and]
   simp only [go_sem,qa,qb,qc,qd,qe,qf,reduceCtorEq,Yb,lp,ln,d1,d2,List.length_map]
  ·have d1: ¬ (x.clauses.length:Int)≤120:=by omega
   rw [decide_eq_false h1]
   simp only [Bool.true_and,Bool.false_and]
   simp only [go_sem,qa,qb,qc,qd,qe,qf,reduceCtorEq,Yb,lp,ln,d1,List.length_map]
def jD:Tm:= .mk 2 [116,114,117,101] 0 []
def zT:Tm:= .mk 0 [] 0 []
def zCl:Cl:=⟨zT,zT,[]⟩
def jJ(t:Tm):Tm:= .mk 4 [99,97,108,108] 0 [t]
def zC(t:Tm) (file:Str):Cl:=
 if yE t [58,45] 2=true then
  match t.kids with
  |[a,b]=>⟨a,if b.kind=1 then jJ b else b,file⟩
  |_=>⟨t,jD,file⟩
 else ⟨t,jD,file⟩
def Q2(t:Tm):Bool:=zA t&&(jO (zC t []).head&&zA (zC t []).body)
def yi(t:Tm) (file:Str):Cl:=if Q2 t=true then zC t file else zCl
theorem qjj(t:Tm) (f:Str):zC t f=⟨(zC t []).head,(zC t []).body,f⟩:=by
 unfold zC
 split
 ·split<;>rfl
 ·rfl
theorem qhX:WT jD:=xS (by unfold inI;omega) (by unfold Lm;simp) (by unfold inI;omega) (by unfold Lm;simp) (fun u hu=>by cases hu)
theorem qk4:WT zT:=xS (by unfold inI;omega) (by unfold Lm;simp) (by unfold inI;omega) (by unfold Lm;simp) (fun u hu=>by cases hu)
theorem qhT {t:Tm} (h:WT t):WT (jJ t):=xS (by unfold inI;omega) (by unfold Lm;simp) (by unfold inI;omega) (by unfold Lm;simp) (fun u hu=>by simp only [List.mem_singleton]at hu;subst hu;exact h)
theorem qmP {t:Tm} {s:Str} (h:yE t s 2=true):t.kind=4∧t.name=s∧ ∃ a b,t.kids=[a,b]:=by
 unfold yE at h
 simp only [Bool.and_eq_true,decide_eq_true_eq]at h
 refine ⟨h.1,h.2.1, ?_⟩
 match hk:t.kids,h.2.2 with
 |[a,b],_=>exact ⟨a,b,rfl⟩
theorem qz2 {t:Tm} (h:WT t) (f:Str):WT (zC t f).head∧WT (zC t f).body:=by
 unfold zC
 split
 ·split
  ·rename_i a b hk
   have ha:=yt h a (by rw [hk];simp)
   have hb:=yt h b (by rw [hk];simp)
   refine ⟨ha, ?_⟩
   show WT (if b.kind=1 then jJ b else b)
   split
   ·exact qhT hb
   ·exact hb
  ·exact ⟨h,qhX⟩
 ·exact ⟨h,qhX⟩
def qjs(t:Tm) (f:Str):V:=
 if Q2 t=true then
  if yE t [58,45] 2=true then
   match t.kids with
   |[a,b]=>if b.kind=1 then .a [I a.kind,S a.name,I a.num,.i false (a.kids.map (iT false)),I 4,S [99,97,108,108],I 0,.o 4 [iT false b],S f]
    else .a [I a.kind,S a.name,I a.num,.i false (a.kids.map (iT false)),I b.kind,S b.name,I b.num,.i false (b.kids.map (iT false)),S f]
   |_=> .d
  else .a [I t.kind,S t.name,I t.num,.i false (t.kids.map (iT false)),I 2,S [116,114,117,101],I 0,.o 4 [],S f]
 else .a [I 0,S [],I 0,.o 4 [],I 0,S [],I 0,.o 4 [],S []]
theorem qqm(t:Tm) (hw:WT t) (f:Str):cr qg qhz [iT false t,S f]=some (.t [qjs t f,B (Q2 t)]):=by
 have ok:=YP t hw (iT false t) (xl false t)
 have is:=qwt t (iT false t) (xl false t) [58,45] 2
 have at1:=X3 [116,114,117,101]
 rw [zj]at at1
 rw [ye]at ok is
 rw [qo qzA rfl]
 rw [ye]
 unfold qjs Q2
 cases h1:zA t with
 |false=>
  rw [h1]at ok
  simp only [Bool.false_and,Bool.false_eq_true,if_false]
  simp only [go_sem,qa,qb,qc,qd,qe,qf,reduceCtorEq,kI,ok,Bool.not_false]
 |true=>
 rw [h1]at ok
 simp only [Bool.true_and]
 cases h2:yE t [58,45] 2 with
 |false=>
  rw [h2]at is
  have e:zC t []=⟨t,jD,[]⟩:=by unfold zC;rw [h2];rfl
  simp only [e,Bool.false_eq_true,if_false]
  have hd:=qiN t hw (iT false t) (xl false t)
  have bo:=YP jD qhX (iT true jD) (xl true jD)
  rw [ye]at hd bo
  simp only [jD,yq,yr,yB,zU,List.map_nil]at bo
  cases h3:jO t with
  |false=>
   rw [h3]at hd
   simp only [Bool.false_and,Bool.false_eq_true,if_false]
   simp only [go_sem,qa,qb,qc,qd,qe,qf,reduceCtorEq,kI,ok,is,at1,hd,Bool.not_true,Bool.not_false]
  |true=>
   rw [h3]at hd
   have ht:zA jD=true:=rfl
   simp only [ht,Bool.true_and,if_true]
   rw [show zA (Tm.mk 2 [116,114,117,101] 0 [])=true from rfl]at bo
   simp only [go_sem,qa,qb,qc,qd,qe,qf,reduceCtorEq,kI,ok,is,at1,hd,bo,Bool.not_true]
 |true=>
  rw [h2]at is
  obtain ⟨k4,knm,a,b,hk⟩:=qmP h2
  have wa:=yt hw a (by rw [hk];simp)
  have wb:=yt hw b (by rw [hk];simp)
  have ha:=qiN a wa (iT false a) (xl false a)
  rw [hk]at ok is ⊢
  simp only [List.map_cons,List.map_nil]at ok is ⊢
  rw [ye _ a]at ha
  rw [ye _ a,ye _ b]at ok is ⊢
  by_cases hb1:b.kind=1
  ·have d1:decide (b.kind=1)=true:=decide_eq_true hb1
   have e:zC t []=⟨a,jJ b,[]⟩:=by unfold zC;rw [h2,if_pos rfl,hk];simp only [if_pos hb1]
   have bo:=YP (jJ b) (qhT wb) (.a [I 4,S [99,97,108,108],I 0,.i true [iT false b]]) (qa9.2 ⟨true,_,rfl,by simp only [RL];exact ⟨_,_,rfl,xl false b,rfl⟩⟩)
   rw [ye _ b]at bo
   simp only [e,if_pos hb1,if_true]
   cases h3:jO a with
   |false=>
    rw [h3]at ha
    simp only [Bool.false_and,Bool.false_eq_true,if_false]
    simp only [go_sem,qa,qb,qc,qd,qe,qf,reduceCtorEq,kI,ok,is,at1,ha,d1,Bool.not_true,Bool.not_false]
   |true=>
    rw [h3]at ha
    simp only [Bool.true_and]
    cases h4:zA (jJ b)with
    |false=>
     rw [h4]at bo
     simp only [Bool.false_eq_true,if_false]
     simp only [go_sem,qa,qb,qc,qd,qe,qf,reduceCtorEq,kI,ok,is,at1,ha,d1,bo,Bool.not_true,Bool.not_false]
    |true=>
     rw [h4]at bo
     simp only [if_true]
     simp only [go_sem,qa,qb,qc,qd,qe,qf,reduceCtorEq,kI,ok,is,at1,ha,d1,bo,Bool.not_true,Bool.not_false]
  ·have d1:decide (b.kind=1)=false:=decide_eq_false hb1
   have e:zC t []=⟨a,b,[]⟩:=by unfold zC;rw [h2,if_pos rfl,hk];simp only [if_neg hb1]
   have bo:=YP b wb (iT false b) (xl false b)
   rw [ye _ b]at bo
   simp only [e,if_neg hb1,if_true]
   cases h3:jO a with
   |false=>
    rw [h3]at ha
    simp only [Bool.false_and,Bool.false_eq_true,if_false]
    simp only [go_sem,qa,qb,qc,qd,qe,qf,reduceCtorEq,kI,ok,is,at1,ha,d1,Bool.not_true,Bool.not_false]
   |true=>
    rw [h3]at ha
    simp only [Bool.true_and]
    cases h4:zA b with
    |false=>
     rw [h4]at bo
     simp only [Bool.false_eq_true,if_false]
     simp only [go_sem,qa,qb,qc,qd,qe,qf,reduceCtorEq,kI,ok,is,at1,ha,d1,bo,Bool.not_true,Bool.not_false]
    |true=>
     rw [h4]at bo
     simp only [if_true]
     simp only [go_sem,qa,qb,qc,qd,qe,qf,reduceCtorEq,kI,ok,is,at1,ha,d1,bo,Bool.not_true,Bool.not_false]
theorem qm7(c:Cl) (hh:WT c.head) (hbd:WT c.body) (v:V) (h:bCl c v):cr qg qeM [v]=some (oCl c):=by
 obtain ⟨τ0,vs0,τ1,vs1,rfl,h0,h1⟩:=h
 have a:=qiO c.head hh _ (kJ (τ:=τ0) h0)
 have b:=qiO c.body hbd _ (kJ (τ:=τ1) h1)
 rw [qv]at a b
 have tk:=fun t:Tm=>List.take_of_length_le (l:=t.kids.map oT) (i:=t.kids.length) (by simp)
 rw [qo qzI rfl]
 unfold oCl
 simp only [go_sem,qa,qb,qc,qd,qe,qf,reduceCtorEq,Ja,a,b,tk,List.length_map]
theorem qrG {t:Tm} (h:WT t) (f:Str):WT (yi t f).head∧WT (yi t f).body:=by
 unfold yi
 split
 ·exact qz2 h f
 ·exact ⟨qk4,qk4⟩
theorem qd8(t:Tm) (hw:WT t) (f:Str):cr qg qeA [iT false t,S f]=some (.t [oCl (yi t f),B (Q2 t)]):=by
 have raw:=qqm t hw f
 obtain ⟨w1,w2⟩:=qrG hw f
 have cp:=fun v=>qm7 (yi t f) w1 w2 v
 have tk:=fun t:Tm=>List.take_of_length_le (l:=t.kids.map oT) (i:=t.kids.length) (by simp)
 rw [ye]at raw ⊢
 rw [qo qyQ rfl]
 unfold qjs yi at*
 unfold oCl at*
 cases hk:Q2 t with
 |false=>
  simp only [hk,Bool.false_eq_true,if_false]at raw cp ⊢
  have c0:=cp (.a [I 0,S [],I 0,.i true [],I 0,S [],I 0,.i true [],S []]) ⟨true,[],true,[],rfl,rfl,rfl⟩
  simp only [zCl,zT,yq,yr,yB,zU,List.map_nil]at c0 ⊢
  simp only [go_sem,qa,qb,qc,qd,qe,qf,reduceCtorEq,Zr,raw,c0,List.length_map]
 |true=>
  simp only [hk,if_true]at raw cp ⊢
  cases h2:yE t [58,45] 2 with
  |false=>
   have e:zC t f=⟨t,jD,f⟩:=by unfold zC;rw [h2];rfl
   simp only [h2,e,Bool.false_eq_true,if_false]at raw cp ⊢
   have c0:=cp (.a [I t.kind,S t.name,I t.num,.i false (t.kids.map (iT false)),I 2,S [116,114,117,101],I 0,.i true [],S f]) ⟨false,_,true,[],rfl,jG false _,rfl⟩
   simp only [jD,yq,yr,yB,zU,List.map_nil]at c0 ⊢
   simp only [go_sem,qa,qb,qc,qd,qe,qf,reduceCtorEq,Zr,raw,c0,tk,List.length_map]
  |true=>
   obtain ⟨k4,knm,a,b,hk2⟩:=qmP h2
   by_cases hb1:b.kind=1
   ·have e:zC t f=⟨a,jJ b,f⟩:=by unfold zC;rw [h2,if_pos rfl,hk2];simp only [if_pos hb1]
    simp only [h2,hk2,e,if_true,if_pos hb1]at raw cp ⊢
    have c0:=cp (.a [I a.kind,S a.name,I a.num,.i false (a.kids.map (iT false)),I 4,S [99,97,108,108],I 0,.i true [iT false b],S f]) ⟨false,_,true,_,rfl,jG false _,by simp only [jJ,zU,RL];exact ⟨_,_,rfl,xl false b,rfl⟩⟩
    simp only [jJ,yq,yr,yB,zU,List.map_nil,List.map_cons,ye _ b]at c0 raw ⊢
    rw [qv b]at c0 ⊢
    simp only [go_sem,qa,qb,qc,qd,qe,qf,reduceCtorEq,Zr,raw,c0,tk,List.length_map]
   ·have e:zC t f=⟨a,b,f⟩:=by unfold zC;rw [h2,if_pos rfl,hk2];simp only [if_neg hb1]
    simp only [h2,hk2,e,if_true,if_neg hb1]at raw cp ⊢
    have c0:=cp (.a [I a.kind,S a.name,I a.num,.i false (a.kids.map (iT false)),I b.kind,S b.name,I b.num,.i false (b.kids.map (iT false)),S f]) ⟨false,_,false,_,rfl,jG false _,jG false _⟩
    simp only [List.map_nil,List.map_cons]at raw ⊢
    simp only [go_sem,qa,qb,qc,qd,qe,qf,reduceCtorEq,Zr,raw,c0,tk,List.length_map]
end Go.Vm
namespace Go.Vm
theorem qxw(x:Cl):oCl x= .a [I x.head.kind,S x.head.name,I x.head.num,.o 4 (x.head.kids.map oT),I x.body.kind,S x.body.name,I x.body.num,.o 4 (x.body.kids.map oT),S x.file]:=rfl
def jE(c:Cl):Prop:=WT c.head∧WT c.body
theorem qwU(τ:Bool) (vs:List V) (cs:List Cl) (n:Nat) (hl:cs.length=n) (hv:RL bCl cs vs) (hlim:n≤Lm)
 (hw: ∀ c ∈ cs,jE c) (m:Nat): ∀ (i:Nat),i+m=n→
 lw qg qb5 ⟨[(0,.i τ vs),(3,.s (100000,0) 0 i),(4,I i)],[((100000,0),9,(cs.take i).map oCl)]⟩=some (.exit 0,⟨[(3,.s (100000,0) 0 n)],[((100000,0),9,cs.map oCl)]⟩):=by
 have hn:vs.length=n:=by rw [qS hv,hl]
 unfold Lm at hlim
 induction m with
 |zero=>
  intro i hi
  obtain rfl:i=n:=by omega
  have h1: ¬ (i:Int) < (i:Int):=by omega
  rw [ql,List.take_of_length_le (Nat.le_of_eq hl)]
  simp only [go_sem,qa,qb,qc,qd,qe,qf,reduceCtorEq,qfo,hn,h1]
 |succ m ih=>
  intro i hi
  rw [ql]
  have hlt:(i:Int) < (n:Int):=by omega
  obtain ⟨t,ht⟩:=qV (l:=cs) (i:=i) (by omega)
  obtain ⟨v,gv,hbt⟩:=yJ hv ht
  obtain ⟨w1,w2⟩:=hw t (List.mem_of_getElem? ht)
  have hcc:=qm7 t w1 w2 v hbt
  have a1:=fun T=>qZ (τ:=τ) (T:=T) gv (jk hbt)
  have e1:w64 ((i:Int)+1)=((i+1:Nat):Int):=by rw [qm]<;>omega
  have i1:=ih (i+1) (by omega)
  obtain ⟨τ0,vs0,τ1,vs1,rfl,-⟩:=hbt
  have b1:decide ((i+1)*128≤lim)=true:=decide_eq_true (by rw [qM];omega)
  have b2:decide (i+1≤lim)=true:=decide_eq_true (by rw [qM];omega)
  have ln:(cs.take i).length=i:=by simp;omega
  have tk2:((cs.take i).map oCl).take i=(cs.take i).map oCl:=List.take_of_length_le (by rw [List.length_map,ln];omega)
  have r4:(cs.take i).map oCl++[oCl t]=(cs.take (i+1)).map oCl:=qnf oCl ht
  have rp:=fun k' ob (y:V) (ys:List V)=>QA k' ob ((cs.take i).map oCl) (y::ys) (qh9 _)
  have tk:=fun t:Tm=>List.take_of_length_le (l:=t.kids.map oT) (i:=t.kids.length) (by simp)
  rw [← i1, ← r4]
  rw [qxw t]at hcc ⊢
  simp only [go_sem,qa,qb,qc,qd,qe,qf,reduceCtorEq,qfo,hn,hlt,a1,gv,hcc,e1,tk2,b1,b2,ln,rp,tk,List.length_map]
theorem qwV(τ:Bool) (vs:List V) (cs:List Cl) (hv:RL bCl cs vs) (hlim:cs.length≤Lm) (hw: ∀ c ∈ cs,jE c):cr qg qhH [.i τ vs]=some (.o 9 (cs.map oCl)):=by
 have lp:=qwU τ vs cs cs.length rfl hv hlim hw cs.length 0 (by omega)
 simp only [Int.natCast_zero,List.take_zero,List.map_nil]at lp
 rw [qo qzJ rfl]
 simp only [go_sem,qa,qb,qc,qd,qe,qf,reduceCtorEq,Jb,lp]
theorem qwW(τ:Bool) (ss:List Str) (hlim:ss.length≤Lm):cr qg qhI [.i τ (ss.map S)]=some (.o 1 (ss.map S)):=by
 unfold Lm at hlim
 have b1:decide (ss.length*16≤lim)=true:=decide_eq_true (by rw [qM];omega)
 have b2:decide (ss.length≤lim)=true:=decide_eq_true (by rw [qM];omega)
 have al:xV 1 (ss.map S)=true:=JP (f:=S) (e:=1) (fun _=>⟨rfl,rfl⟩) ss
 have zs:ya (ss.map S)=true:=qdk (f:=S) (fun _=>rfl) ss
 rw [qo qzL rfl]
 simp only [go_sem,qa,qb,qc,qd,qe,qf,reduceCtorEq,Jd,b1,b2,al,zs,List.length_map,List.length_nil,List.nil_append]
theorem qm8(x:Db) (hl:x.clauses.length≤Lm) (hl2:x.opn.length≤Lm) (hw: ∀ c ∈ x.clauses,jE c) (v:V) (h:bDb x v):cr qg qeN [v]=some (oDb x):=by
 obtain ⟨τ0,vs0,τ1,rfl,h0⟩:=h
 have a:=qwV τ0 vs0 x.clauses h0 hl hw
 have b:=qwW τ1 x.opn hl2
 have tk:=List.take_of_length_le (l:=x.clauses.map oCl) (i:=x.clauses.length) (by simp)
 have tk2:=List.take_of_length_le (l:=x.opn.map S) (i:=x.opn.length) (by simp)
 rw [qo qzK rfl]
 unfold oDb
 simp only [go_sem,qa,qb,qc,qd,qe,qf,reduceCtorEq,Jc,a,b,tk,tk2,List.length_map]
theorem qrm {c:Cl} {v:V} (h:bCl c v):zk v=true:=by
 obtain ⟨τ0,vs0,τ1,vs1,rfl,-⟩:=h;rfl
theorem qcp: ∀ {cs:List Cl} {vs:List V},RL bCl cs vs→xV 9 vs=true
 |[],vs,h=>by simp only [RL]at h;subst h;rfl
 |c::cs,vs,h=>by
  simp only [RL]at h
  obtain ⟨v,vs',rfl,h1,h2⟩:=h
  obtain ⟨τ0,vs0,τ1,vs1,rfl,-⟩:=h1
  have:=qcp h2
  simp only [xV,this];rfl
theorem JN: ∀ {cs:List Cl} {vs:List V},RL bCl cs vs→ya vs=true
 |[],vs,h=>by simp only [RL]at h;subst h;rfl
 |c::cs,vs,h=>by
  simp only [RL]at h
  obtain ⟨v,vs',rfl,h1,h2⟩:=h
  simp only [ya,qrm h1,JN h2,Bool.and_self]
theorem qcq: ∀ {cs:List Cl} {vs:List V},RL bCl cs vs→qC vs=true
 |[],vs,h=>by simp only [RL]at h;subst h;rfl
 |c::cs,vs,h=>by
  simp only [RL]at h
  obtain ⟨v,vs',rfl,h1,h2⟩:=h
  obtain ⟨τ0,vs0,τ1,vs1,rfl,-⟩:=h1
  have:=qcq h2
  simp only [qC,this];rfl
theorem qfr(ρ:Bool): ∀ {cs:List Cl} {vs:List V},RL bCl cs vs→qT ρ vs=vs
 |[],vs,h=>by simp only [RL]at h;subst h;rfl
 |c::cs,vs,h=>by
  simp only [RL]at h
  obtain ⟨v,vs',rfl,h1,h2⟩:=h
  obtain ⟨τ0,vs0,τ1,vs1,rfl,-⟩:=h1
  simp only [qT,qfr ρ h2];rfl
theorem qfS(x:Db) (hl:x.clauses.length≤Lm) (hl2:x.opn.length≤Lm) (τ σ:Bool) (vs:List V) (h0:RL bCl x.clauses vs) (hn:qH vs=true):
 cr qg Xv [.a [.i τ vs,.i σ (x.opn.map S)]]=some (.a [.o 9 vs,.o 1 (x.opn.map S)]):=by
 unfold Lm at hl hl2
 have ln:=qS h0
 have b1:decide (x.clauses.length*128≤lim)=true:=decide_eq_true (by rw [qM];omega)
 have b2:decide (x.clauses.length≤lim)=true:=decide_eq_true (by rw [qM];omega)
 have b3:decide (x.opn.length*16≤lim)=true:=decide_eq_true (by rw [qM];omega)
 have b4:decide (x.opn.length≤lim)=true:=decide_eq_true (by rw [qM];omega)
 have al:xV 1 (x.opn.map S)=true:=JP (f:=S) (e:=1) (fun _=>⟨rfl,rfl⟩) x.opn
 have al2:=qcp h0
 have z:=JN h0
 have ce:=qcq h0
 have zs:ya (x.opn.map S)=true:=qdk (f:=S) (fun _=>rfl) x.opn
 have kl: ∀ d,qB d vs=vs:=fun d=>ZR d vs ce
 have tkv:vs.take x.clauses.length=vs:=List.take_of_length_le (by omega)
 rw [qo qzC rfl]
 simp only [go_sem,qa,qb,qc,qd,qe,qf,reduceCtorEq,K6,b1,b2,b3,b4,al,al2,zs,kl,tkv,z,ce,hn,ln,List.length_map,List.length_nil,List.nil_append]
def ZI(x:Db) (c:Cl):Db:=⟨x.clauses++[c],x.opn⟩
def jg(x:Db) (c:Cl):Bool:=xr (ZI x c)
def yh(x:Db) (c:Cl):Db:=if jg x c=true then ZI x c else x
theorem qqi(x:Db) (c:Cl) (hl:x.clauses.length≤1000) (hl2:x.opn.length≤1000) (hw: ∀ c ∈ x.clauses,jE c) (hc:jE c) (τ σ:Bool) (vs:List V) (h0:RL bCl x.clauses vs) (hn:qH vs=true)
 (v0 v1:List V) (k0:RL BT c.head.kids v0) (k1:RL BT c.body.kids v1) (n0:qH v0=true) (n1:qH v1=true):
 cr qg qhw [.a [.i τ vs,.i σ (x.opn.map S)],.a [I c.head.kind,S c.head.name,I c.head.num,.i false v0,I c.body.kind,S c.body.name,I c.body.num,.i false v1,S c.file]]=
  some (.t [.a [.o 9 (if jg x c=true then vs++[.a [I c.head.kind,S c.head.name,I c.head.num,.i false v0,I c.body.kind,S c.body.name,I c.body.num,.i false v1,S c.file]]else vs),.o 1 (x.opn.map S)],B (jg x c)]):=by
 have ln:=qS h0
 have cp:=qfS x (by unfold Lm;omega) (by unfold Lm;omega) τ σ vs h0 hn
 have hb:bCl c (.a [I c.head.kind,S c.head.name,I c.head.num,.i false v0,I c.body.kind,S c.body.name,I c.body.num,.i false v1,S c.file]):=⟨false,v0,false,v1,rfl,k0,k1⟩
 have ok:=fun ρ π=>qgN (ZI x c) (by simp only [ZI,List.length_append,List.length_cons,List.length_nil];unfold Lm;omega) (fun y hy=>by
  rcases List.mem_append.1 hy with hy|hy
  ·exact hw y hy
  ·simp only [List.mem_singleton]at hy;subst hy;exact hc) (.a [.i ρ (vs++[.a [I c.head.kind,S c.head.name,I c.head.num,.i false v0,I c.body.kind,S c.body.name,I c.body.num,.i false v1,S c.file]]),.i π (x.opn.map S)]) ⟨ρ,_,π,rfl,qhM h0 ⟨_,_,rfl,hb,rfl⟩⟩
 have b1:decide ((x.clauses.length+1)*128≤lim)=true:=decide_eq_true (by rw [qM];omega)
 have b2:decide (x.clauses.length+1≤lim)=true:=decide_eq_true (by rw [qM];omega)
 have al2:=qcp h0
 have z:=JN h0
 have ce:=qcq h0
 have kl: ∀ d,qB d vs=vs:=fun d=>ZR d vs ce
 have tkv:vs.take x.clauses.length=vs:=List.take_of_length_le (by omega)
 have tkv2: ∀ w:V,(vs++[w]).take (x.clauses.length+1)=vs++[w]:=fun w=>List.take_of_length_le (by simp;omega)
 have tks:=List.take_of_length_le (l:=x.opn.map S) (i:=x.opn.length) (by simp)
 have me: ∀ m T,qy (zf m) T vs=(vs,T):=fun m T=>ku m T _ ce
 have rpz: ∀ k ob,zG k ob vs=none:=fun k ob=>jZ k ob _ ce
 have cv: ∀ ρ,qT ρ vs=vs:=fun ρ=>qfr ρ h0
 rw [qo qzy rfl]
 unfold jg
 cases hk:xr (ZI x c)with
 |true=>
  simp only [hk,if_true]at ok ⊢
  simp only [go_sem,qa,qb,qc,qd,qe,qf,reduceCtorEq,Xi,cp,ok,b1,b2,al2,z,ce,kl,ln,tkv,tkv2,tks,hn,n0,n1,me,rpz,cv,List.length_map,List.length_append]
 |false=>
  simp only [hk,Bool.false_eq_true,if_false]at ok ⊢
  simp only [go_sem,qa,qb,qc,qd,qe,qf,reduceCtorEq,Xi,cp,ok,b1,b2,al2,z,ce,kl,ln,tkv,tkv2,tks,hn,n0,n1,me,rpz,cv,List.length_map,List.length_append]
theorem qrd {x:Db} {c:Cl} (hw: ∀ c ∈ x.clauses,jE c) (hc:jE c): ∀ y ∈ (yh x c).clauses,jE y:=by
 unfold yh
 split
 ·intro y hy
  rcases List.mem_append.1 hy with hy|hy
  ·exact hw y hy
  ·simp only [List.mem_singleton]at hy;subst hy;exact hc
 ·exact hw
theorem XC(x:Db) (c:Cl):x.clauses.length≤(yh x c).clauses.length∧(yh x c).clauses.length≤x.clauses.length+1∧(yh x c).opn=x.opn:=by
 unfold yh ZI
 split<;>simp
theorem qac: ∀ (xs ys:List V),qH (xs++ys)=(qH xs&&qH ys)
 |[],ys=>rfl
 |x::xs,ys=>by simp only [List.cons_append,qH,qac xs ys,Bool.and_assoc]
theorem qgL(x:Db) (c:Cl) (hl:x.clauses.length≤1000) (hl2:x.opn.length≤1000) (hw: ∀ c ∈ x.clauses,jE c) (hc:jE c) (τ σ:Bool) (vs:List V) (h0:RL bCl x.clauses vs) (hn:qH vs=true)
 (v0 v1:List V) (k0:RL BT c.head.kids v0) (k1:RL BT c.body.kids v1) (n0:qH v0=true) (n1:qH v1=true):
 cr qg Xq [.a [.i τ vs,.i σ (x.opn.map S)],.a [I c.head.kind,S c.head.name,I c.head.num,.i false v0,I c.body.kind,S c.body.name,I c.body.num,.i false v1,S c.file]]=
  some (.t [oDb (yh x c),B (jg x c)]):=by
 have ln:=qS h0
 have raw:=qqi x c hl hl2 hw hc τ σ vs h0 hn v0 v1 k0 k1 n0 n1
 have hb:bCl c (.a [I c.head.kind,S c.head.name,I c.head.num,.i false v0,I c.body.kind,S c.body.name,I c.body.num,.i false v1,S c.file]):=⟨false,v0,false,v1,rfl,k0,k1⟩
 obtain ⟨q1,q2,q3⟩:=XC x c
 have cp:=qm8 (yh x c) (by unfold Lm;omega) (by rw [q3];unfold Lm;omega) (qrd hw hc)
 have al2:=qcp h0
 have z:=JN h0
 have ce:=qcq h0
 have kl: ∀ d,qB d vs=vs:=fun d=>ZR d vs ce
 have cv: ∀ ρ,qT ρ vs=vs:=fun ρ=>qfr ρ h0
 have me: ∀ m T,qy (zf m) T vs=(vs,T):=fun m T=>ku m T _ ce
 have rpz: ∀ k ob,zG k ob vs=none:=fun k ob=>jZ k ob _ ce
 have tkv:vs.take x.clauses.length=vs:=List.take_of_length_le (by omega)
 have tkv2: ∀ w:V,(vs++[w]).take (x.clauses.length+1)=vs++[w]:=fun w=>List.take_of_length_le (by simp;omega)
 have tks:=List.take_of_length_le (l:=x.opn.map S) (i:=x.opn.length) (by simp)
 have tk:=fun t:Db=>List.take_of_length_le (l:=t.clauses.map oCl) (i:=t.clauses.length) (by simp)
 have tk2:=fun t:Db=>List.take_of_length_le (l:=t.opn.map S) (i:=t.opn.length) (by simp)
 rw [qo qyP rfl]
 unfold yh at*
 unfold oDb at*
 cases hk:jg x c with
 |true=>
  simp only [hk,if_true]at raw cp ⊢
  have c0:=cp (.a [.i true (vs++[.a [I c.head.kind,S c.head.name,I c.head.num,.i false v0,I c.body.kind,S c.body.name,I c.body.num,.i false v1,S c.file]]),.i true (x.opn.map S)]) ⟨true,_,true,rfl,qhM h0 ⟨_,_,rfl,hb,rfl⟩⟩
  simp only [ZI]at c0 ⊢
  have tk3:((x.clauses++[c]).map oCl).take (x.clauses.length+1)=(x.clauses++[c]).map oCl:=List.take_of_length_le (by simp)
  have nt:qH (vs++[.a [I c.head.kind,S c.head.name,I c.head.num,.i false v0,I c.body.kind,S c.body.name,I c.body.num,.i false v1,S c.file]])=true:=by
   rw [qac,hn];simp only [qH,zd,n0,n1,Bool.and_true,Bool.not_false];rfl
  simp only [go_sem,qa,qb,qc,qd,qe,qf,reduceCtorEq,Y8,raw,c0,z,ce,kl,ln,tkv,tkv2,tks,tk3,nt,hn,n0,n1,me,rpz,cv,tk,tk2,List.length_map,List.length_append]
 |false=>
  simp only [hk,Bool.false_eq_true,if_false]at raw cp ⊢
  have c0:=cp (.a [.i true vs,.i true (x.opn.map S)]) ⟨true,_,true,rfl,h0⟩
  simp only [go_sem,qa,qb,qc,qd,qe,qf,reduceCtorEq,Y8,raw,c0,z,ce,kl,ln,tkv,tkv2,tks,hn,n0,n1,me,rpz,cv,tk,tk2,List.length_map,List.length_append]
theorem qqW(cs:List Cl) (p:Str) (hl:cs.length≤1000) (hw: ∀ c ∈ cs,jE c) (τ σ:Bool) (vs:List V) (h0:RL bCl cs vs) (hn:qH vs=true):
 cr qg qhi [.a [.i τ vs,.i σ []],S p]=some (oDb ⟨cs,[p]⟩):=by
 have ln:=qS h0
 have cp:=qfS ⟨cs,[]⟩ (by simp only;unfold Lm;omega) (by simp only [List.length_nil];unfold Lm;omega) τ σ vs h0 hn
 simp only [List.map_nil]at cp
 have z:=JN h0
 have ce:=qcq h0
 have kl: ∀ d,qB d vs=vs:=fun d=>ZR d vs ce
 have cv: ∀ ρ,qT ρ vs=vs:=fun ρ=>qfr ρ h0
 have me: ∀ m T,qy (zf m) T vs=(vs,T):=fun m T=>ku m T _ ce
 have rpz: ∀ k ob,zG k ob vs=none:=fun k ob=>jZ k ob _ ce
 have tkv:vs.take cs.length=vs:=List.take_of_length_le (by omega)
 have raw:cr qg qhC [.a [.i τ vs,.i σ []],S p]=some (.a [.o 9 vs,.o 1 [S p]]):=by
  have h00: ¬ (0:Int) < 0:=by decide
  have h40:(0:Int) < 40:=by decide
  have l1:decide (16≤lim)=true:=by decide
  have l2:decide (1≤lim)=true:=by decide
  have lp:lw qg qb4 ⟨[(1,S p),(2,.p (100000,0) 0 0),(4,.p (100000,1) 0 0),(5,.p (100000,2) 0 0),(6,I 0)],[((100000,0),2,[.a [.i τ vs,.i σ []]]),((100000,1),2,[.a [.s (100000,3) 0 0,.s (100000,4) 0 0]]),((100000,2),2,[.a [.s (100000,5) 0 cs.length,.s (100000,6) 0 0]]),((100000,3),9,[]),((100000,4),1,[]),((100000,5),9,vs),((100000,6),1,[])]⟩=some (.exit 0,⟨[(1,S p),(4,.p (100000,1) 0 0),(5,.p (100000,2) 0 0)],[((100000,0),2,[.a [.i τ vs,.i σ []]]),((100000,1),2,[.a [.s (100000,3) 0 0,.s (100000,4) 0 0]]),((100000,2),2,[.a [.s (100000,5) 0 cs.length,.s (100000,6) 0 0]]),((100000,3),9,[]),((100000,4),1,[]),((100000,5),9,vs),((100000,6),1,[])]⟩):=by
   rw [ql]
   simp only [go_sem,qa,qb,qc,qd,qe,qf,reduceCtorEq,qhL,h00,ce,kl,me,rpz,ln]
  rw [qo qzF rfl]
  simp only [go_sem,qa,qb,qc,qd,qe,qf,reduceCtorEq,K8,cp,lp,h40,l1,l2,z,ce,kl,ln,tkv,hn,me,rpz,cv,List.length_map,List.length_nil]
 have c0:=qm8 ⟨cs,[p]⟩ (by simp only;unfold Lm;omega) (by simp only [List.length_cons,List.length_nil];unfold Lm;omega) hw (.a [.i true vs,.i true [S p]]) ⟨true,_,true,rfl,h0⟩
 rw [qo qyX rfl]
 unfold oDb at*
 simp only [List.map_cons,List.map_nil]at c0 ⊢
 have tk3:=List.take_of_length_le (l:=cs.map oCl) (i:=cs.length) (by simp)
 simp only [go_sem,qa,qb,qc,qd,qe,qf,reduceCtorEq,KO,raw,c0,z,ce,kl,ln,tkv,tk3,hn,me,rpz,cv,List.length_map]
end Go.Vm
namespace Go.Vm
theorem qBE(k n k' n':Int) (s s':Str) (τ τ':Bool) (ks ks':List Tm) (vs vs':List V) (hv:RL BT ks vs) (hv':RL BT ks' vs') (hl:ks'.length=ks.length) (hw:ks.length≤Lm)
 (hc: ∀ t ∈ ks,∀ t' v v',BT t v→BT t' v'→cr qg qbn [v,v']=some (B (decide (t=t')))) (m:Nat): ∀ i:Nat,i+m=ks.length→
 lw qg qbS ⟨[(2,.p (100000,0) 0 0),(3,.p (100000,1) 0 0),(5,I i)],[((100000,0),4,[.a [I k,S s,I n,.i τ vs]]),((100000,1),4,[.a [I k',S s',I n',.i τ' vs']])]⟩=if ks.drop i=ks'.drop i then some (.exit 0,⟨[],[((100000,0),4,[.a [I k,S s,I n,.i τ vs]]),((100000,1),4,[.a [I k',S s',I n',.i τ' vs']])]⟩)else some (.ret,⟨[(4,B false)],[((100000,0),4,[.a [I k,S s,I n,.i τ vs]]),((100000,1),4,[.a [I k',S s',I n',.i τ' vs']])]⟩):=by
 have hlv:=qS hv
 have hlv':=qS hv'
 induction m with
 |zero=>
  intro i hi
  have h: ¬ (i:Int) < (vs.length:Int):=by omega
  rw [List.drop_eq_nil_of_le (by omega),List.drop_eq_nil_of_le (by omega),if_pos rfl,ql]
  simp only [go_sem,qa,qb,qc,qd,qe,qf,reduceCtorEq,qcg,h]
 |succ m ih=>
  intro i hi
  have h:(i:Int) < (vs.length:Int):=by omega
  obtain ⟨t,ht⟩:=qV (l:=ks) (i:=i) (by omega)
  obtain ⟨t',ht'⟩:=qV (l:=ks') (i:=i) (by omega)
  obtain ⟨v,g,b⟩:=yJ hv ht
  obtain ⟨v',g',b'⟩:=yJ hv' ht'
  have c:=hc t (List.mem_of_getElem? ht) t' v v' b b'
  have a1:=fun T=>qZ (τ:=τ) (T:=T) (e:=4) g (Qd b)
  have a2:=fun T=>qZ (τ:=τ') (T:=T) (e:=4) g' (Qd b')
  have e1:w64 ((i:Int)+1)=((i+1:Nat):Int):=by unfold Lm at hw;rw [qm]<;>omega
  obtain ⟨σ1,ws1,rfl,hb1⟩:=qR b
  obtain ⟨σ2,ws2,rfl,hb2⟩:=qR b'
  have i1:=ih (i+1) (by omega)
  rw [zP ht,zP ht',ql]
  by_cases he:t=t'
  ·rw [decide_eq_true he]at c
   have:(t::ks.drop (i+1)=t'::ks'.drop (i+1))=(ks.drop (i+1)=ks'.drop (i+1)):=by simp [he]
   simp only [this]
   rw [← i1]
   simp only [go_sem,qa,qb,qc,qd,qe,qf,reduceCtorEq,qcg,h,a1,a2,g,g',c,e1]
  ·rw [decide_eq_false he]at c
   rw [if_neg (fun h=>he (List.cons.inj h).1)]
   simp only [go_sem,qa,qb,qc,qd,qe,qf,reduceCtorEq,qcg,h,a1,a2,g,g',c,e1]
theorem qBJ: ∀ (t:Tm),WT t→ ∀ t' v v',BT t v→BT t' v'→cr qg qbn [v,v']=some (B (decide (t=t'))):=by
 refine jH ?_
 intro k s n ks ih hw t' v v' hb hb'
 obtain ⟨k',s',n',ks'⟩:=t'
 obtain ⟨τ,vs,rfl,hv⟩:=qR hb
 obtain ⟨τ',vs',rfl,hv'⟩:=qR hb'
 simp only [Tm.kind,Tm.name,Tm.num,Tm.kids]at hv hv'
 have hlv:=qS hv
 have hlv':=qS hv'
 rw [qo qy1 rfl]
 have d: ∀ p:Bool,decide (Tm.mk k s n ks=Tm.mk k' s' n' ks')=p→(decide (k=k')&&decide (s=s')&&decide (n=n')&&decide (ks=ks'))=p:=by
  intro p h
  rw [← h]
  by_cases e1:k=k'<;>by_cases e2:s=s'<;>by_cases e3:n=n'<;>by_cases e4:ks=ks'<;>simp [e1,e2,e3,e4]
 rw [← d _ rfl]
 cases e1:decide (k=k')with
 |false=>simp only [go_sem,qa,qb,qc,qd,qe,qf,reduceCtorEq,Qa,e1]
 |true=>
 cases e2:decide (s=s')with
 |false=>simp only [go_sem,qa,qb,qc,qd,qe,qf,reduceCtorEq,Qa,e1,e2]
 |true=>
 cases e3:decide (n=n')with
 |false=>simp only [go_sem,qa,qb,qc,qd,qe,qf,reduceCtorEq,Qa,e1,e2,e3]
 |true=>
 by_cases e4:(vs.length:Int)=(vs'.length:Int)
 case neg=>
  have d4:decide ((vs.length:Int)=(vs'.length:Int))=false:=decide_eq_false e4
  have d5:decide (ks=ks')=false:=decide_eq_false (fun h=>e4 (by rw [hlv,hlv',h]))
  simp only [go_sem,qa,qb,qc,qd,qe,qf,reduceCtorEq,Qa,e1,e2,e3,d4,d5]
 have d4:decide ((vs.length:Int)=(vs'.length:Int))=true:=decide_eq_true e4
 have lp:=qBE k n k' n' s s' τ τ' ks ks' vs vs' hv hv' (by omega) (km hw) (fun t ht=>ih t ht (yt hw t ht)) ks.length 0 (by omega)
 simp only [Int.natCast_zero,List.drop_zero]at lp
 by_cases e5:ks=ks'
 ·rw [if_pos e5]at lp
  have d5:decide (ks=ks')=true:=decide_eq_true e5
  simp only [go_sem,qa,qb,qc,qd,qe,qf,reduceCtorEq,Qa,e1,e2,e3,d4,d5,lp]
 ·rw [if_neg e5]at lp
  have d5:decide (ks=ks')=false:=decide_eq_false e5
  simp only [go_sem,qa,qb,qc,qd,qe,qf,reduceCtorEq,Qa,e1,e2,e3,d4,d5,lp]
end Go.Vm
namespace Go.Vm
theorem qsE(τ τ':Bool) (ks ks':List Tm) (vs vs':List V) (hv:RL BT ks vs) (hv':RL BT ks' vs') (hl:ks'.length=ks.length) (hw:ks.length≤Lm)
 (hc: ∀ t ∈ ks,∀ t' v v',BT t v→BT t' v'→cr qg ZB [v,v']=some (B (decide (t=t')))) (m:Nat): ∀ i:Nat,i+m=ks.length→
 if ks.drop i=ks'.drop i then lw qg Jw ⟨[(1,.i τ' vs'),(2,Fc ZB),(15,.i τ vs),(16,I (vs.length:Int)),(17,I i)],[]⟩=some (.exit 0,⟨[],[]⟩)else ∃ T,lw qg Jw ⟨[(1,.i τ' vs'),(2,Fc ZB),(15,.i τ vs),(16,I (vs.length:Int)),(17,I i)],[]⟩=some (.ret,⟨[(6,B false)],T⟩):=by
 have hlv:=qS hv
 have hlv':=qS hv'
 induction m with
 |zero=>
  intro i hi
  have h: ¬ (i:Int) < (vs.length:Int):=by omega
  rw [List.drop_eq_nil_of_le (by omega),List.drop_eq_nil_of_le (by omega),if_pos rfl,ql]
  simp only [go_sem,qa,qb,qc,qd,qe,qf,reduceCtorEq,JG,h]
 |succ m ih=>
  intro i hi
  have h:(i:Int) < (vs.length:Int):=by omega
  obtain ⟨t,ht⟩:=qV (l:=ks) (i:=i) (by omega)
  obtain ⟨t',ht'⟩:=qV (l:=ks') (i:=i) (by omega)
  obtain ⟨v,g,b⟩:=yJ hv ht
  obtain ⟨v',g',b'⟩:=yJ hv' ht'
  have c:=hc t (List.mem_of_getElem? ht) t' v v' b b'
  have a1:=fun T=>qZ (τ:=τ) (T:=T) (e:=4) g (Qd b)
  have a2:=fun T=>qZ (τ:=τ') (T:=T) (e:=4) g' (Qd b')
  have e1:w64 ((i:Int)+1)=((i+1:Nat):Int):=by unfold Lm at hw;rw [qm]<;>omega
  obtain ⟨σ1,ws1,rfl,hb1⟩:=qR b
  obtain ⟨σ2,ws2,rfl,hb2⟩:=qR b'
  have i1:=ih (i+1) (by omega)
  rw [zP ht,zP ht']
  by_cases he:t=t'
  ·rw [decide_eq_true he]at c
   have:(t::ks.drop (i+1)=t'::ks'.drop (i+1))=(ks.drop (i+1)=ks'.drop (i+1)):=by simp [he]
   simp only [this]
   by_cases h2:ks.drop (i+1)=ks'.drop (i+1)
   ·rw [if_pos h2]at i1 ⊢
    rw [← i1,ql]
    simp only [go_sem,qa,qb,qc,qd,qe,qf,reduceCtorEq,JG,h,a1,a2,g,g',c,e1]
   ·rw [if_neg h2]at i1 ⊢
    obtain ⟨T,i1⟩:=i1
    refine ⟨T, ?_⟩
    rw [← i1,ql]
    simp only [go_sem,qa,qb,qc,qd,qe,qf,reduceCtorEq,JG,h,a1,a2,g,g',c,e1]
  ·rw [decide_eq_false he]at c
   rw [if_neg (fun h=>he (List.cons.inj h).1)]
   refine ⟨[((9,0),4,[.a [I t'.kind,S t'.name,I t'.num,.i σ2 ws2]]),((8,0),4,[.a [I t.kind,S t.name,I t.num,.i σ1 ws1]])], ?_⟩
   rw [ql]
   simp only [go_sem,qa,qb,qc,qd,qe,qf,reduceCtorEq,JG,h,a1,a2,g,g',c,e1]
theorem qsF(τ τ':Bool) (ks ks':List Tm) (vs vs':List V) (hv:RL BT ks vs) (hv':RL BT ks' vs') (hw:ks.length≤Lm)
 (hc: ∀ t ∈ ks,∀ t' v v',BT t v→BT t' v'→cr qg ZB [v,v']=some (B (decide (t=t')))):
 cr qg qhd [.i τ vs,.i τ' vs',Fc ZB]=some (B (decide (ks=ks'))):=by
 have hlv:=qS hv
 have hlv':=qS hv'
 rw [qo qyM rfl]
 by_cases e4:(vs.length:Int)=(vs'.length:Int)
 case neg=>
  have d4:decide ((vs.length:Int)=(vs'.length:Int))=false:=decide_eq_false e4
  have d5:decide (ks=ks')=false:=decide_eq_false (fun h=>e4 (by rw [hlv,hlv',h]))
  simp only [go_sem,qa,qb,qc,qd,qe,qf,reduceCtorEq,Ya,d4,d5]
 have d4:decide ((vs.length:Int)=(vs'.length:Int))=true:=decide_eq_true e4
 have lp:=qsE τ τ' ks ks' vs vs' hv hv' (by omega) hw hc ks.length 0 (by omega)
 simp only [Int.natCast_zero,List.drop_zero]at lp
 by_cases e5:ks=ks'
 ·rw [if_pos e5]at lp
  have d5:decide (ks=ks')=true:=decide_eq_true e5
  simp only [go_sem,qa,qb,qc,qd,qe,qf,reduceCtorEq,Ya,d4,d5,lp]
 ·rw [if_neg e5]at lp
  obtain ⟨T,lp⟩:=lp
  have d5:decide (ks=ks')=false:=decide_eq_false e5
  simp only [go_sem,qa,qb,qc,qd,qe,qf,reduceCtorEq,Ya,d4,d5,lp]
theorem qsL: ∀ (t:Tm),WT t→ ∀ t' v v',BT t v→BT t' v'→cr qg ZB [v,v']=some (B (decide (t=t'))):=by
 refine jH ?_
 intro k s n ks ih hw t' v v' hb hb'
 obtain ⟨k',s',n',ks'⟩:=t'
 obtain ⟨τ,vs,rfl,hv⟩:=qR hb
 obtain ⟨τ',vs',rfl,hv'⟩:=qR hb'
 simp only [Tm.kind,Tm.name,Tm.num,Tm.kids]at hv hv'
 have eq:=qsF τ τ' ks ks' vs vs' hv hv' (km hw) (fun t ht=>ih t ht (yt hw t ht))
 rw [qo qxX rfl]
 have d: ∀ p:Bool,decide (Tm.mk k s n ks=Tm.mk k' s' n' ks')=p→(decide (k=k')&&decide (s=s')&&decide (n=n')&&decide (ks=ks'))=p:=by
  intro p h
  rw [← h]
  by_cases e1:k=k'<;>by_cases e2:s=s'<;>by_cases e3:n=n'<;>by_cases e4:ks=ks'<;>simp [e1,e2,e3,e4]
 rw [← d _ rfl]
 cases e1:decide (k=k')with
 |false=>simp only [go_sem,qa,qb,qc,qd,qe,qf,reduceCtorEq,Zo,e1]
 |true=>
 cases e2:decide (s=s')with
 |false=>simp only [go_sem,qa,qb,qc,qd,qe,qf,reduceCtorEq,Zo,e1,e2]
 |true=>
 cases e3:decide (n=n')with
 |false=>simp only [go_sem,qa,qb,qc,qd,qe,qf,reduceCtorEq,Zo,e1,e2,e3]
 |true=>simp only [go_sem,qa,qb,qc,qd,qe,qf,reduceCtorEq,Zo,e1,e2,e3,eq]
end Go.Vm
namespace Go.Vm
theorem qp8(b:Option Bool) (es:List (Int × Int)):clE (V.w b es)=true:=rfl
theorem qp7(k:Key):clE (V.m k)=false:=rfl
theorem qqc(d:Nat) (b:Option Bool) (es:List (Int × Int)):qN d (V.w b es)=V.w b es:=rfl
theorem qqb(b:Option Bool) (es:List (Int × Int)):xd (V.w b es)=[]:=rfl
theorem qqd(d i:Nat) (k:Key):yx d i (V.m k)=[]:=rfl
theorem qqa(a b c:AO):qx (AI.mset a b c)=none:=rfl
theorem qqe(a b c:AO):qY (AI.mset a b c)=qQ a++(qQ b++qQ c):=rfl
theorem qp9(α:Type) (x:α) (f:Nat→α):YE none x f=x:=rfl
theorem qCr:yT (V.v (Value.map none)).cells=true:=rfl
theorem qCs:(V.v (Value.map none)).cells.length=1:=rfl
def yS:List Int→List Int→List (Int × Int)→List (Int × Int)
 |n::x,m::y,es=>yS x y (zF n m es)
 |_,_,es=>es
theorem qCp(k1 n1 k2 n2:Int) (s1 s2:Str) (τ τ':Bool) (vs vs':List V) (x y:List Int) (hl:y.length=x.length) (hw:x.length≤2^40) (m:Nat): ∀ (i:Nat) (es:List (Int × Int)),i+m=x.length→
 lw qg qbD ⟨[(2,.p (100000,0) 0 0),(3,.p (100000,1) 0 0),(6,.i false (y.map I)),(7,.p (100000,2) 0 0),(20,.i false (x.map I)),(21,I x.length),(22,I i)],[((100000,0),4,[.a [I k1,S s1,I n1,.i τ vs]]),((100000,1),4,[.a [I k2,S s2,I n2,.i τ' vs']]),((100000,2),1,[.m (100000,3)]),((100000,3),0,[.w (some true) es])]⟩=
  some (.exit 0,⟨[(2,.p (100000,0) 0 0),(3,.p (100000,1) 0 0),(7,.p (100000,2) 0 0)],[((100000,0),4,[.a [I k1,S s1,I n1,.i τ vs]]),((100000,1),4,[.a [I k2,S s2,I n2,.i τ' vs']]),((100000,2),1,[.m (100000,3)]),((100000,3),0,[.w (some true) (yS (x.drop i) (y.drop i) es)])]⟩):=by
 induction m with
 |zero=>
  intro i es hi
  have h: ¬ (i:Int) < (x.length:Int):=by omega
  rw [List.drop_eq_nil_of_le (by omega),ql]
  simp only [yS]
  simp only [go_sem,qa,qb,qc,qd,qe,qf,reduceCtorEq,qfd,h]
 |succ m ih=>
  intro i es hi
  have h:(i:Int) < (x.length:Int):=by omega
  obtain ⟨n,hn⟩:=qV (l:=x) (i:=i) (by omega)
  obtain ⟨k,hk⟩:=qV (l:=y) (i:=i) (by omega)
  have g:=zu (f:=I) hn
  have g':=zu (f:=I) hk
  have a1:=fun T=>qZ (τ:=false) (T:=T) (e:=1) g rfl
  have a2:=fun T=>qZ (τ:=false) (T:=T) (e:=1) g' rfl
  have e1:w64 ((i:Int)+1)=((i+1:Nat):Int):=by rw [qm]<;>omega
  have i1:=ih (i+1) (zF n k es) (by omega)
  rw [zP hn,zP hk,yS, ← i1,ql]
  simp only [go_sem,qa,qb,qc,qd,qe,qf,reduceCtorEq,qfd,h,a1,a2,g,g',e1,qqa,qqe,qp9,qp8,qp7,qqc,qqb,qqd]
def jt(es:List (Int × Int)) (n:Int):Int:=(qU n es).getD 0
theorem qCn(es:List (Int × Int)) (n:Int):cr qg qeh [I n,.q true [.w (some true) es] 0 0]=some (I (jt es n)):=by
 rw [qo qx3 rfl]
 unfold jt
 simp only [go_sem,qa,qb,qc,qd,qe,qf,reduceCtorEq,Km]
noncomputable def X8(a b:Tm):Bool:=if (qG a).length=(qG b).length then decide (rnm (jt (yS (qG a) (qG b) [])) a=b)else false
theorem qsO(a b:Tm) (hw:WT a) (hw':WT b) (hn:nT a≤2^32) (hn':nT b≤2^32) (va vb:V) (ha:BT a va) (hb:BT b vb) (hr:WT (rnm (jt (yS (qG a) (qG b) [])) a)):cr qg qeg [va,vb]=some (B (X8 a b)):=by
 have v1:=qmI a hw hn va ha
 have v2:=qmI b hw' hn' vb hb
 have hla:(qG a).length≤2^40:=by have:=qhY a [];simp only [List.length_nil,Nat.zero_add]at this;unfold qG;omega
 have ss:=fun τ=>qsL (rnm (jt (yS (qG a) (qG b) [])) a) hr b (iT τ (rnm (jt (yS (qG a) (qG b) [])) a)) vb (xl τ _) hb
 obtain ⟨τ,vs,rfl,hv⟩:=qR ha
 obtain ⟨τ',vs',rfl,hv'⟩:=qR hb
 rw [qo qx2 rfl]
 unfold X8
 by_cases hl:(qG a).length=(qG b).length
 case neg=>
  have d:decide (((qG a).length:Int)=((qG b).length:Int))=false:=decide_eq_false (by omega)
  simp only [go_sem,qa,qb,qc,qd,qe,qf,reduceCtorEq,YX,v1,v2,d,if_neg hl]
 have d:decide (((qG a).length:Int)=((qG b).length:Int))=true:=decide_eq_true (by omega)
 have lp:=qCp a.kind a.num b.kind b.num a.name b.name τ τ' vs vs' (qG a) (qG b) hl.symm (by omega) (qG a).length 0 [] (by omega)
 simp only [Int.natCast_zero,List.drop_zero]at lp
 have rn:=qoZ qeh [.q true [.w (some true) (yS (qG a) (qG b) [])] 0 0] (fun c hc=>by simp only [List.mem_singleton]at hc;exact ⟨_,_,_,hc⟩) (jt (yS (qG a) (qG b) [])) (fun n=>qCn _ n) a hw _ ha
 rw [if_pos hl]
 generalize rnm (jt (yS (qG a) (qG b) [])) a=r at*
 have tk:(r.kids.map oT).take r.kids.length=r.kids.map oT:=List.take_of_length_le (by simp)
 have ss':=ss true
 have ss2:=ss false
 rw [qv]at rn
 rw [ye]at ss' ss2
 simp only [go_sem,qa,qb,qc,qd,qe,qf,reduceCtorEq,YX,v1,v2,d,lp,rn,ss',ss2,tk,List.length_map,qCr,qCs,qqa,qqe,qp9,qp8,qp7,qqc,qqb,qqd]
end Go.Vm
namespace Go.Vm
theorem qxf: ∀ (n:Nat) (k:Int) (l:Str),k≤n→0≤k→k < 9223372036854775808→l.length+n≤2^62→
 ∃ l',lw qg qbN ⟨[(0,I k),(3,S l)],[]⟩=some (.exit 0,⟨[(3,S l')],[]⟩)∧l'.length≤2^62:=by
 intro n
 induction n with
 |zero=>
  intro k l h1 h2 hbig h3
  obtain rfl:k=0:=by omega
  rw [ql]
  simp only [go_sem,qa,qb,qc,qd,qe,qf,reduceCtorEq,qcc,show ¬ (0:Int) < 0 by decide]
  exact ⟨l,rfl,by omega⟩
 |succ n ih=>
  intro k l h1 h2 hbig h3
  rw [ql]
  by_cases h:0 < k
  ·have e1:qD .rem (I k) (I 10)=_:=ZK (by decide)
   have e2:qD .quo (I k) (I 10)=_:=qlu (by decide)
   have hq:k.tdiv 10=k / 10:=Int.tdiv_eq_ediv_of_nonneg h2
   have e3:w64 (k.tdiv 10)=k / 10:=by rw [hq,qm]<;>omega
   have hm:k.tmod 10=k % 10:=Int.tmod_eq_emod_of_nonneg h2
   have e4:w64 (48+k.tmod 10)=48+k % 10:=by rw [hm,qm]<;>omega
   have e5:IntKind.u8.wrap (48+k % 10)=48+k % 10:=by
    have:(48+k % 10) % 256=48+k % 10:=by omega
    exact this
   have e6:jq [U8 (48+k % 10)]=some [UInt8.ofNat (48+k % 10).toNat]:=rfl
   have e7:qD .add (S [UInt8.ofNat (48+k % 10).toNat]) (S l)=_:=zl (by simp only [List.length_cons,List.length_nil];omega)
   obtain ⟨l',g1,g2⟩:=ih (k / 10) ([UInt8.ofNat (48+k % 10).toNat]++l) (by omega) (by omega) (by omega) (by simp only [List.length_append,List.length_cons,List.length_nil];omega)
   refine ⟨l', ?_,g2⟩
   simp only [go_sem,qa,qb,qc,qd,qe,qf,reduceCtorEq,qcc,h,e1,e2,e3,e4,e5,e6,e7,List.cons_append,List.nil_append]at g1 ⊢
   exact g1
  ·obtain rfl:k=0:=by omega
   simp only [go_sem,qa,qb,qc,qd,qe,qf,reduceCtorEq,qcc,show ¬ (0:Int) < 0 by decide]
   exact ⟨l,rfl,by omega⟩
theorem qxg(k:Int) (hk:k < 4000000000000000000): ∃ s:Str,s.length≤2^62+1∧cr qg qex [I k]=some (S s):=by
 rw [qo qyF rfl]
 by_cases h:k≤0
 ·simp only [go_sem,qa,qb,qc,qd,qe,qf,reduceCtorEq,Y4,h]
  exact ⟨_,by decide,rfl⟩
 ·obtain ⟨l',g1,g2⟩:=qxf k.toNat k [] (by omega) (by omega) (by omega) (by simp only [List.length_nil];omega)
  have e7:qD .add (S [109]) (S l')=_:=zl (by simp only [List.length_cons,List.length_nil];omega)
  simp only [go_sem,qa,qb,qc,qd,qe,qf,reduceCtorEq,Y4,h,g1,e7]
  exact ⟨_,by simp only [List.length_append,List.length_cons,List.length_nil];omega,rfl⟩
end Go.Vm
namespace Go.Vm
open Classical in
noncomputable def mkT(k:Int):Str:=if h:k < 4000000000000000000 then (qxg k h).choose else []
mutual
noncomputable def qcR:Tm→Int→Tm × Int
 | .mk _ _ _ ks,k=>(.mk k (mkT (k+1)) (k+2) (Qv ks (k+3)).1,(Qv ks (k+3)).2)
noncomputable def Qv:List Tm→Int→List Tm × Int
 |[],k=>([],k)
 |t::ts,k=>((qcR t k).1::(Qv ts (qcR t k).2).1,(Qv ts (qcR t k).2).2)
end
mutual
theorem qxe: ∀ (t:Tm) (k:Int),(qcR t k).2=k+3*nT t
 | .mk _ _ _ ks,k=>by simp only [qcR,nT,qnk ks (k+3)];omega
theorem qnk: ∀ (ts:List Tm) (k:Int),(Qv ts k).2=k+3*nTs ts
 |[],k=>by simp [Qv,nTs]
 |t::ts,k=>by simp only [Qv,nTs,qnk ts,qxe t k];omega
end
end Go.Vm
namespace Go.Vm
end Go.Vm
namespace Go.Vm
noncomputable def qnj(t:Tm) (k:Int):Tm:= .mk t.kind t.name t.num (Qv t.kids k).1
end Go.Vm
namespace Go.Vm
noncomputable def qQC(c:Cl) (k:Int):Int:=(Qv c.body.kids (Qv c.head.kids k).2).2
noncomputable def qQB(c:Cl) (k:Int):Cl:=⟨qnj c.head k,qnj c.body (Qv c.head.kids k).2,c.file⟩
end Go.Vm
namespace Go.Vm
theorem qq8(φ:Int→Int) (hφ: ∀ n,inI (φ n)): ∀ (t:Tm),WT t→WT (rnm φ t)∧nT (rnm φ t)=nT t:=by
 refine jH ?_
 intro k s n ks ih hw
 rw [qo4]
 simp only [yq,yr,yB,zU]
 have hk:=yt hw
 simp only [zU]at hk
 refine ⟨xS (qhU hw) (XB hw) (by
  by_cases hk1:k=1
  ·simp only [hk1,if_true];exact hφ n
  ·simp only [hk1,if_false];exact qhW hw) (by rw [List.length_map];exact km hw) ?_, ?_⟩
 ·intro u hu
  obtain ⟨t,ht,rfl⟩:=List.mem_map.1 hu
  exact (ih t ht (hk t ht)).1
 ·simp only [nT]
  congr 1
  clear hw
  induction ks with
  |nil=>rfl
  |cons t ts ih'=>
   simp only [List.map_cons,nTs]
   rw [(ih t (by simp) (hk t (by simp))).2,ih' (fun u hu=>ih u (by simp [hu])) (fun u hu=>hk u (by simp [hu]))]
end Go.Vm
namespace Go.Vm
mutual
theorem qle: ∀ (t:Tm) (l:List Int),WT t→(∀ n ∈ l,inI n)→ ∀ n ∈ jh l t,inI n
 | .mk k s n ks,l,hw,hl=>by
   simp only [jh]
   refine qlb ks _ hw.2.2.2.2 ?_
   split
   ·intro m hm
    rcases List.mem_append.1 hm with hm|hm
    ·exact hl m hm
    ·simp only [List.mem_singleton]at hm;subst hm;exact hw.2.2.1
   ·exact hl
theorem qlb: ∀ (ts:List Tm) (l:List Int),WTs ts→(∀ n ∈ l,inI n)→ ∀ n ∈ jI l ts,inI n
 |[],l,hw,hl=>hl
 |t::ts,l,hw,hl=>qlb ts _ hw.2 (qle t l hw.1 hl)
end
theorem qCq(t:Tm) (hw:WT t): ∀ n ∈ qG t,inI n:=qle t [] hw (fun n h=>by cases h)
def Jg(es:List (Int × Int)):Prop:= ∀ e ∈ es,inI e.2
theorem qoe(k v:Int) (hv:inI v): ∀ (es:List (Int × Int)),Jg es→Jg (zF k v es)
 |[],h=>by intro e he;simp only [zF,List.mem_singleton]at he;subst he;exact hv
 |(a,b)::r,h=>by
  simp only [zF]
  split
  ·intro e he
   rcases List.mem_cons.1 he with rfl|he
   ·exact hv
   ·exact h e (List.mem_cons_of_mem _ he)
  ·intro e he
   rcases List.mem_cons.1 he with rfl|he
   ·exact h _ (List.mem_cons_self ..)
   ·exact qoe k v hv r (fun e he=>h e (List.mem_cons_of_mem _ he)) e he
theorem qnh: ∀ (x y:List Int) (es:List (Int × Int)),(∀ n ∈ y,inI n)→Jg es→Jg (yS x y es)
 |[],_,es,_,h=>h
 |n::x,[],es,_,h=>h
 |n::x,m::y,es,hy,h=>qnh x y _ (fun k hk=>hy k (List.mem_cons_of_mem _ hk)) (qoe n m (hy m (List.mem_cons_self ..)) es h)
theorem qmt(n:Int): ∀ (es:List (Int × Int)),Jg es→ ∀ m,qU n es=some m→inI m
 |[],h,m,hm=>by cases hm
 |(a,b)::r,h,m,hm=>by
  simp only [qU]at hm
  split at hm
  ·simp only [Option.some.injEq]at hm;subst hm;exact h _ (List.mem_cons_self ..)
  ·exact qmt n r (fun e he=>h e (List.mem_cons_of_mem _ he)) m hm
theorem qst(es:List (Int × Int)) (h:Jg es) (n:Int):inI (jt es n):=by
 unfold jt
 cases hg:qU n es with
 |none=>exact ⟨by decide,by decide⟩
 |some m=>exact qmt n es h m hg
theorem qsP(a b:Tm) (hw:WT a) (hw':WT b) (hn:nT a≤2^32) (hn':nT b≤2^32) (va vb:V) (ha:BT a va) (hb:BT b vb):cr qg qeg [va,vb]=some (B (X8 a b)):=
 qsO a b hw hw' hn hn' va vb ha hb (qq8 _ (qst _ (qnh _ _ _ (qCq b hw') (fun e h=>by cases h))) a hw).1
noncomputable def xm(a b:Cl):Bool:=if a.file=b.file then X8 (zH a) (zH b)else false
theorem qCo(a b:Cl) (hw:wCl a) (hw':wCl b) (va vb:V) (ha:bCl a va) (hb:bCl b vb):cr qg qg2 [va,vb]=some (B (X8 (zH a) (zH b))):=by
 have e1:=qfL a hw va ha
 have e2:=qfL b hw' vb hb
 obtain ⟨w1,n1⟩:=JU a hw
 obtain ⟨w2,n2⟩:=JU b hw'
 have v:=fun τ τ'=>qsP (zH a) (zH b) w1 w2 n1 n2 (iT τ _) (iT τ' _) (xl τ _) (xl τ' _)
 generalize zH a=x at*
 generalize zH b=y at*
 have v1:=v true true
 have v2:=v false false
 rw [qv]at e1 e2
 rw [ye,ye]at v1 v2
 have tk:(x.kids.map oT).take x.kids.length=x.kids.map oT:=List.take_of_length_le (by simp)
 have tk':(y.kids.map oT).take y.kids.length=y.kids.map oT:=List.take_of_length_le (by simp)
 obtain ⟨τ0,vs0,τ1,vs1,rfl,h0,h1⟩:=ha
 obtain ⟨τ2,vs2,τ3,vs3,rfl,h2,h3⟩:=hb
 rw [qo qyx rfl]
 simp only [go_sem,qa,qb,qc,qd,qe,qf,reduceCtorEq,KB,e1,e2,v1,v2,tk,tk',List.length_map]
theorem qh1(a b:Cl) (hw:wCl a) (hw':wCl b) (va vb:V) (ha:bCl a va) (hb:bCl b vb):cr qg qbe [va,vb]=some (B (xm a b)):=by
 have v:=qCo a b hw hw' va vb ha hb
 obtain ⟨τ0,vs0,τ1,vs1,rfl,h0,h1⟩:=ha
 obtain ⟨τ2,vs2,τ3,vs3,rfl,h2,h3⟩:=hb
 rw [qo qx7 rfl]
 unfold xm
 by_cases h:a.file=b.file
 ·rw [if_pos h]
  have d:decide (a.file=b.file)=true:=decide_eq_true h
  simp only [go_sem,qa,qb,qc,qd,qe,qf,reduceCtorEq,YZ,d,v]
 ·rw [if_neg h]
  have d:decide (a.file=b.file)=false:=decide_eq_false h
  simp only [go_sem,qa,qb,qc,qd,qe,qf,reduceCtorEq,YZ,d]
end Go.Vm
namespace Go.Vm
noncomputable def y5(l:List Cl) (c:Cl):Nat:=l.countP (fun x=>xm x c)
theorem qrO(c:Cl) (hw:wCl c) (τ0 τ1:Bool) (vs0 vs1:List V) (hb:bCl c (.a [I c.head.kind,S c.head.name,I c.head.num,.i τ0 vs0,I c.body.kind,S c.body.name,I c.body.num,.i τ1 vs1,S c.file]))
 (τ:Bool) (l:List Cl) (vs:List V) (hv:RL bCl l vs) (hl:l.length≤2^40) (hlw: ∀ x ∈ l,wCl x) (m:Nat): ∀ (i n:Nat),i+m=l.length→n≤i→
 lw qg qbH ⟨[(3,.p (100000,0) 0 0),(5,I (n:Nat)),(8,.i τ vs),(9,I (vs.length:Nat)),(10,I i)],[((100000,0),9,[.a [I c.head.kind,S c.head.name,I c.head.num,.i τ0 vs0,I c.body.kind,S c.body.name,I c.body.num,.i τ1 vs1,S c.file]])]⟩=
  some (.exit 0,⟨[(5,I ((n+y5 (l.drop i) c:Nat):Int))],[((100000,0),9,[.a [I c.head.kind,S c.head.name,I c.head.num,.i τ0 vs0,I c.body.kind,S c.body.name,I c.body.num,.i τ1 vs1,S c.file]])]⟩):=by
 have hlv:=qS hv
 induction m with
 |zero=>
  intro i n hi hn
  have h: ¬ (i:Int) < (vs.length:Int):=by omega
  rw [List.drop_eq_nil_of_le (by omega),ql]
  simp only [y5,List.countP_nil,Nat.add_zero]
  simp only [go_sem,qa,qb,qc,qd,qe,qf,reduceCtorEq,qb8,h]
 |succ m ih=>
  intro i n hi hn
  have h:(i:Int) < (vs.length:Int):=by omega
  obtain ⟨x,hx⟩:=qV (l:=l) (i:=i) (by omega)
  obtain ⟨v,g,b⟩:=yJ hv hx
  have al:=qh1 x c (hlw x (List.mem_of_getElem? hx)) hw v _ b hb
  have a1:=fun T=>qZ (τ:=τ) (T:=T) (e:=9) g (jk b)
  have e1:w64 ((i:Int)+1)=((i+1:Nat):Int):=by rw [qm]<;>omega
  have e2:w64 ((n:Int)+1)=((n+1:Nat):Int):=by rw [qm]<;>omega
  obtain ⟨σ0,ws0,σ1,ws1,rfl,hb1,hb2⟩:=b
  rw [zP hx]
  have ec: ∀ p:Bool,xm x c=p→y5 (x::l.drop (i+1)) c=y5 (l.drop (i+1)) c+(if p=true then 1 else 0):=by
   intro p hp
   unfold y5
   rw [List.countP_cons,hp]
  cases hp:xm x c with
  |true=>
   rw [hp]at al
   rw [ec true hp,if_pos rfl,show n+(y5 (l.drop (i+1)) c+1)=(n+1)+y5 (l.drop (i+1)) c by omega, ← ih (i+1) (n+1) (by omega) (by omega),ql]
   simp only [go_sem,qa,qb,qc,qd,qe,qf,reduceCtorEq,qb8,h,a1,g,al,e1,e2]
  |false=>
   rw [hp]at al
   rw [ec false hp,if_neg (by decide),Nat.add_zero, ← ih (i+1) n (by omega) (by omega),ql]
   simp only [go_sem,qa,qb,qc,qd,qe,qf,reduceCtorEq,qb8,h,a1,g,al,e1,e2]
theorem qlS(c:Cl) (hw:wCl c) (vc:V) (hb:bCl c vc) (τ:Bool) (l:List Cl) (vs:List V) (hv:RL bCl l vs) (hl:l.length≤2^40) (hlw: ∀ x ∈ l,wCl x):cr qg qep [.i τ vs,vc]=some (I (y5 l c:Nat)):=by
 have hb':=hb
 obtain ⟨τ0,vs0,τ1,vs1,rfl,h0,h1⟩:=hb
 have lp:=qrO c hw τ0 τ1 vs0 vs1 hb' τ l vs hv hl hlw l.length 0 0 (by omega) (by omega)
 simp only [Int.natCast_zero,List.drop_zero,Nat.zero_add]at lp
 rw [qo qyn rfl]
 simp only [go_sem,qa,qb,qc,qd,qe,qf,reduceCtorEq,Ky,lp]
end Go.Vm
namespace Go.Vm
theorem ql1(c:Cl) (hw:wCl c) (v:V) (h:bCl c v):cr qg qej [v]=some (oCl c):=by
 obtain ⟨τ0,vs0,τ1,vs1,rfl,h0,h1⟩:=h
 have e1:=qfD c.head hw.1.1 _ (kJ (τ:=τ0) h0)
 have e2:=qfD c.body hw.2.1.1 _ (kJ (τ:=τ1) h1)
 rw [qv]at e1 e2
 rw [qo qx8 rfl,oCl]
 have tk:(c.head.kids.map oT).take c.head.kids.length=c.head.kids.map oT:=List.take_of_length_le (by simp)
 have tk':(c.body.kids.map oT).take c.body.kids.length=c.body.kids.map oT:=List.take_of_length_le (by simp)
 simp only [go_sem,qa,qb,qc,qd,qe,qf,reduceCtorEq,Ko,e1,e2,tk,tk',List.length_map]
noncomputable def yL(other:List Cl):List Cl→List Cl→List Cl
 |_,[]=>[]
 |pre,c::r=>if y5 other c≤y5 pre c then c::yL other (pre++[c]) r else yL other (pre++[c]) r
noncomputable def qJ(l other:List Cl):List Cl:=yL other [] l
theorem qpy(T:Mem) (e i:Nat) (τ:Bool) (C:List V) (hh:XK e C=true) (h:i≤C.length):YN T e (.i τ C) none (some (I (i:Int)))=some (.i τ (C.take i)):=by
 have h0:(0:Int)≤(i:Int):=by omega
 simp only [YN,ZT,xH,I,h0,if_true,Int.toNat_natCast,Nat.zero_le,true_and,h,hh,List.drop_zero,Nat.sub_zero]
theorem qmE {l:List Cl} {vs:List V} (h:RL bCl l vs):XK 9 vs=true:=by
 cases vs with
 |nil=>rfl
 |cons v vs=>
  cases l with
  |nil=>simp [RL]at h
  |cons x l=>
   obtain ⟨v1,vs',h1,h2,h3⟩:=h
   simp only [List.cons.injEq]at h1
   obtain ⟨rfl,rfl⟩:=h1
   have:=jk h2
   simp only [XK,this]
   rfl
theorem qxk(τ τ':Bool) (l:List Cl) (vs:List V) (hv:RL bCl l vs) (hl:l.length≤2^20) (hlw: ∀ x ∈ l,wCl x) (l':List Cl) (ws:List V) (hv':RL bCl l' ws) (hl':l'.length≤2^20) (hlw': ∀ x ∈ l',wCl x) (m:Nat): ∀ (i:Nat) (o:List Cl),i+m=l.length→o.length≤i→
 lw qg qbG ⟨[(0,.i τ vs),(1,.i τ' ws),(5,Fc qep),(6,.s (100000,0) 0 o.length),(9,.i τ vs),(10,I (vs.length:Nat)),(11,I i)],[((100000,0),9,o.map oCl)]⟩=
  some (.exit 0,⟨[(6,.s (100000,0) 0 (o++yL l' (l.take i) (l.drop i)).length)],[((100000,0),9,(o++yL l' (l.take i) (l.drop i)).map oCl)]⟩):=by
 have hlv:=qS hv
 induction m with
 |zero=>
  intro i o hi ho
  have h: ¬ (i:Int) < (vs.length:Int):=by omega
  rw [List.drop_eq_nil_of_le (by omega),ql]
  simp only [yL,List.append_nil]
  simp only [go_sem,qa,qb,qc,qd,qe,qf,reduceCtorEq,qb7,h]
 |succ m ih=>
  intro i o hi ho
  have h:(i:Int) < (vs.length:Int):=by omega
  obtain ⟨c,hx⟩:=qV (l:=l) (i:=i) (by omega)
  obtain ⟨v,g,b⟩:=yJ hv hx
  have wc:=hlw c (List.mem_of_getElem? hx)
  have n1:=qlS c wc v b τ (l.take i) (vs.take i) (qkX i hv) (by rw [List.length_take];omega) (fun x hx=>hlw x (List.mem_of_mem_take hx))
  have n2:=qlS c wc v b τ' l' ws hv' (by omega) hlw'
  have cc:=ql1 c wc v b
  have sl:=fun T=>qpy T 9 i τ vs (qmE hv) (by omega)
  have a1:=fun T=>qZ (τ:=τ) (T:=T) (e:=9) g (jk b)
  have e1:w64 ((i:Int)+1)=((i+1:Nat):Int):=by rw [qm]<;>omega
  have tk:=List.take_of_length_le (l:=o.map oCl) (i:=o.length) (by simp)
  have l1:decide ((o.length+1)*128≤lim)=true:=decide_eq_true (by rw [qM];omega)
  have l2:decide (o.length+1≤lim)=true:=decide_eq_true (by rw [qM];omega)
  have tki:l.take (i+1)=l.take i++[c]:=by rw [List.take_add_one,hx];rfl
  obtain ⟨σ0,ws0,σ1,ws1,rfl,hb1,hb2⟩:=b
  have htt:(c.head.kids.map oT).take c.head.kids.length=c.head.kids.map oT:=List.take_of_length_le (by simp)
  have htt':(c.body.kids.map oT).take c.body.kids.length=c.body.kids.map oT:=List.take_of_length_le (by simp)
  rw [oCl]at cc
  rw [zP hx]
  by_cases hp:y5 l' c≤y5 (l.take i) c
  ·have d:decide ((y5 l' c:Int)≤(y5 (l.take i) c:Int))=true:=decide_eq_true (by omega)
   have ih1:=ih (i+1) (o++[c]) (by omega) (by simp;omega)
   rw [tki]at ih1
   have em:o++yL l' (l.take i) (c::l.drop (i+1))=o++[c]++yL l' (l.take i++[c]) (l.drop (i+1)):=by
    simp only [yL];rw [if_pos hp];simp
   have mp:(o++[c]).map oCl=o.map oCl++[oCl c]:=by simp
   have ln:(o++[c]).length=o.length+1:=by simp
   rw [em, ← ih1,mp,ln,ql,oCl]
   simp only [go_sem,qa,qb,qc,qd,qe,qf,reduceCtorEq,qb7,h,a1,g,n1,n2,cc,sl,e1,l1,l2,tk,d,htt,htt',List.length_map]
  ·have d:decide ((y5 l' c:Int)≤(y5 (l.take i) c:Int))=false:=decide_eq_false (by omega)
   have ih1:=ih (i+1) o (by omega) (by omega)
   rw [tki]at ih1
   have em:o++yL l' (l.take i) (c::l.drop (i+1))=o++yL l' (l.take i++[c]) (l.drop (i+1)):=by
    simp only [yL];rw [if_neg hp]
   rw [em, ← ih1,ql]
   simp only [go_sem,qa,qb,qc,qd,qe,qf,reduceCtorEq,qb7,h,a1,g,n1,n2,sl,e1,tk,d,List.length_map]
end Go.Vm
namespace Go.Vm
theorem XS(other:List Cl): ∀ (r pre:List Cl),(yL other pre r).length≤r.length
 |[],pre=>Nat.le_refl _
 |c::r,pre=>by
  have:=XS other r (pre++[c])
  simp only [yL]
  split<;>simp only [List.length_cons]<;>omega
theorem qab(other:List Cl): ∀ (r pre:List Cl),∀ x ∈ yL other pre r,x ∈ r
 |[],pre,x,h=>h
 |c::r,pre,x,h=>by
  have:=qab other r (pre++[c]) x
  simp only [yL]at h
  split at h
  ·rcases List.mem_cons.1 h with rfl|h
   ·simp
   ·exact List.mem_cons_of_mem _ (this h)
  ·exact List.mem_cons_of_mem _ (this h)
theorem qnr(τ τ':Bool) (l:List Cl) (vs:List V) (hv:RL bCl l vs) (hl:l.length≤2^20) (hlw: ∀ x ∈ l,wCl x) (l':List Cl) (ws:List V) (hv':RL bCl l' ws) (hl':l'.length≤2^20) (hlw': ∀ x ∈ l',wCl x):
 cr qg qeo [.i τ vs,.i τ' ws]=some (.o 9 ((qJ l l').map oCl)):=by
 have lp:=qxk τ τ' l vs hv hl hlw l' ws hv' hl' hlw' l.length 0 [] (by omega) (by simp)
 simp only [Int.natCast_zero,List.drop_zero,List.take_zero,List.nil_append,List.map_nil,List.length_nil]at lp
 rw [show yL l' [] l=qJ l l' from rfl]at lp
 have tk:=List.take_of_length_le (l:=(qJ l l').map oCl) (i:=(qJ l l').length) (by simp)
 rw [qo qym rfl]
 simp only [go_sem,qa,qb,qc,qd,qe,qf,reduceCtorEq,Kx,lp,tk,List.length_map]
theorem qec(x y:Db) (hx:x.clauses.length≤2^20) (hxw: ∀ c ∈ x.clauses,wCl c) (hy:y.clauses.length≤2^20) (hyw: ∀ c ∈ y.clauses,wCl c) (vx vy:V) (bx:bDb x vx) (by':bDb y vy):
 cr qg Jk [vx,vy]=some (.t [.o 9 ((qJ x.clauses y.clauses).map oCl),.o 9 ((qJ y.clauses x.clauses).map oCl)]):=by
 obtain ⟨τ0,vs0,τ1,rfl,h0⟩:=bx
 obtain ⟨τ2,vs2,τ3,rfl,h2⟩:=by'
 have m1:=qnr τ0 τ2 x.clauses vs0 h0 hx hxw y.clauses vs2 h2 hy hyw
 have m2:=qnr τ2 τ0 y.clauses vs2 h2 hy hyw x.clauses vs0 h0 hx hxw
 have tk:=List.take_of_length_le (l:=(qJ x.clauses y.clauses).map oCl) (i:=(qJ x.clauses y.clauses).length) (by simp)
 have tk':=List.take_of_length_le (l:=(qJ y.clauses x.clauses).map oCl) (i:=(qJ y.clauses x.clauses).length) (by simp)
 rw [qo qxS rfl]
 simp only [go_sem,qa,qb,qc,qd,qe,qf,reduceCtorEq,Ki,m1,m2,tk,tk',List.length_map]
noncomputable def ZZ(x y:Db):Bool:=decide ((qJ x.clauses y.clauses).length+(qJ y.clauses x.clauses).length=0)
theorem qhO(x y:Db) (hx:x.clauses.length≤2^20) (hxw: ∀ c ∈ x.clauses,wCl c) (hy:y.clauses.length≤2^20) (hyw: ∀ c ∈ y.clauses,wCl c) (vx vy:V) (bx:bDb x vx) (by':bDb y vy):
 cr qg Jm [vx,vy]=some (B (ZZ x y)):=by
 have d:=qec x y hx hxw hy hyw vx vy bx by'
 have l1:=XS y.clauses x.clauses []
 have l2:=XS x.clauses y.clauses []
 have e:w64 (((qJ x.clauses y.clauses).length:Int)+((qJ y.clauses x.clauses).length:Int))=(((qJ x.clauses y.clauses).length+(qJ y.clauses x.clauses).length:Nat):Int):=by
  unfold qJ
  rw [qm]<;>omega
 obtain ⟨τ0,vs0,τ1,rfl,h0⟩:=bx
 obtain ⟨τ2,vs2,τ3,rfl,h2⟩:=by'
 rw [qo qxW rfl]
 unfold ZZ
 by_cases hz:(qJ x.clauses y.clauses).length+(qJ y.clauses x.clauses).length=0
 ·have d0:decide ((((qJ x.clauses y.clauses).length+(qJ y.clauses x.clauses).length:Nat):Int)=0)=true:=decide_eq_true (by omega)
  rw [decide_eq_true hz]
  simp only [go_sem,qa,qb,qc,qd,qe,qf,reduceCtorEq,YU,d,e,d0,List.length_map]
 ·have d0:decide ((((qJ x.clauses y.clauses).length+(qJ y.clauses x.clauses).length:Nat):Int)=0)=false:=decide_eq_false (by omega)
  rw [decide_eq_false hz]
  simp only [go_sem,qa,qb,qc,qd,qe,qf,reduceCtorEq,YU,d,e,d0,List.length_map]
end Go.Vm
namespace Go.Vm
theorem qqk(x c:Cl) (hx:wCl x) (hc:wCl c) (vx vc:V) (bx:bCl x vx) (bc:bCl c vc):cr qg Jj [vx,.q true [vc] 0 0]=some (B (xm x c)):=by
 have al:=qh1 x c hx hc vx vc bx bc
 obtain ⟨τ0,vs0,τ1,vs1,rfl,h0,h1⟩:=bx
 obtain ⟨τ2,vs2,τ3,vs3,rfl,h2,h3⟩:=bc
 rw [qo qxN rfl]
 simp only [go_sem,qa,qb,qc,qd,qe,qf,reduceCtorEq,Ke,al]
theorem qsz(c:Cl) (hc:wCl c) (vc:V) (bc:bCl c vc) (τ:Bool) (l:List Cl) (vs:List V) (hv:RL bCl l vs) (hl:l.length≤2^20) (hlw: ∀ x ∈ l,wCl x) (m:Nat): ∀ k:Nat,k+m=l.length→
 ((l.drop k).any (fun x=>xm x c)=false→lw qg Jx ⟨[(0,.i τ vs),(1,.f (Fn.func Jj) [] [.q true [vc] 0 0]),(7,I (vs.length:Nat)),(8,I k)],[]⟩=some (.exit 0,⟨[],[]⟩))∧
 ((l.drop k).any (fun x=>xm x c)=true→ ∃ j:Nat,lw qg Jx ⟨[(0,.i τ vs),(1,.f (Fn.func Jj) [] [.q true [vc] 0 0]),(7,I (vs.length:Nat)),(8,I k)],[]⟩=some (.ret,⟨[(4,I j)],[]⟩)):=by
 have hlv:=qS hv
 induction m with
 |zero=>
  intro k hk
  have h1: ¬ (k:Int) < (vs.length:Int):=by omega
  rw [List.drop_eq_nil_of_le (by omega)]
  refine ⟨fun _=> ?_,fun h=>by simp at h⟩
  rw [ql]
  simp only [go_sem,qa,qb,qc,qd,qe,qf,reduceCtorEq,JH,h1]
 |succ m ih=>
  intro k hk
  have h1:(k:Int) < (vs.length:Int):=by omega
  obtain ⟨x,hx⟩:=qV (l:=l) (i:=k) (by omega)
  obtain ⟨v,g,b⟩:=yJ hv hx
  have a1:=fun T=>qZ (τ:=τ) (T:=T) (e:=9) g (jk b)
  have e1:w64 ((k:Int)+1)=((k+1:Nat):Int):=by rw [qm]<;>omega
  have hy:=qqk x c (hlw x (List.mem_of_getElem? hx)) hc v vc b bc
  obtain ⟨σ0,ws0,σ1,ws1,rfl,hb1,hb2⟩:=b
  obtain ⟨τ2,vs2,τ3,vs3,rfl,h2,h3⟩:=bc
  rw [zP hx]
  cases hp:xm x c with
  |true=>
   rw [hp]at hy
   refine ⟨fun h=>by simp [hp]at h,fun _=>⟨k, ?_⟩⟩
   rw [ql]
   simp only [go_sem,qa,qb,qc,qd,qe,qf,reduceCtorEq,JH,h1,e1,g,a1,hy]
  |false=>
   rw [hp]at hy
   simp only [List.any_cons,hp,Bool.false_or]
   obtain ⟨i1,i2⟩:=ih (k+1) (by omega)
   refine ⟨fun h=> ?_,fun h=> ?_⟩
   ·rw [← i1 h,ql]
    simp only [go_sem,qa,qb,qc,qd,qe,qf,reduceCtorEq,JH,h1,e1,g,a1,hy]
   ·obtain ⟨j,i2⟩:=i2 h
    refine ⟨j, ?_⟩
    rw [← i2,ql]
    simp only [go_sem,qa,qb,qc,qd,qe,qf,reduceCtorEq,JH,h1,e1,g,a1,hy]
theorem qql(x:Db) (hx:x.clauses.length≤2^20) (hxw: ∀ c ∈ x.clauses,wCl c) (vx:V) (bx:bDb x vx) (c:Cl) (hc:wCl c) (vc:V) (bc:bCl c vc):
 ∃ r:Int,cr qg qgQ [vx,vc]=some (I r)∧(x.clauses.any (fun y=>xm y c)=true→0≤r):=by
 obtain ⟨τ0,vs0,τ1,rfl,h0⟩:=bx
 have lp:=qsz c hc vc bc τ0 x.clauses vs0 h0 hx hxw x.clauses.length 0 (by omega)
 simp only [Int.natCast_zero,List.drop_zero]at lp
 obtain ⟨l1,l2⟩:=lp
 obtain ⟨τ2,vs2,τ3,vs3,rfl,h2,h3⟩:=bc
 have key: ∃ r:Int,cr qg qhe [.i τ0 vs0,.f (Fn.func Jj) [] [.q true [.a [I c.head.kind,S c.head.name,I c.head.num,.i τ2 vs2,I c.body.kind,S c.body.name,I c.body.num,.i τ3 vs3,S c.file]] 0 0]]=some (I r)∧(x.clauses.any (fun y=>xm y c)=true→0≤r):=by
  cases ha:x.clauses.any (fun y=>xm y c)with
  |true=>
   obtain ⟨j,l2⟩:=l2 ha
   refine ⟨j, ?_,fun _=>by omega⟩
   rw [qo qnT rfl]
   simp only [go_sem,qa,qb,qc,qd,qe,qf,reduceCtorEq,Y5,l2]
  |false=>
   have l1:=l1 ha
   refine ⟨-1, ?_,fun h=>by cases h⟩
   rw [qo qnT rfl]
   simp only [go_sem,qa,qb,qc,qd,qe,qf,reduceCtorEq,Y5,l1]
 obtain ⟨r,k1,k2⟩:=key
 refine ⟨r, ?_,k2⟩
 rw [qo qxM rfl]
 simp only [go_sem,qa,qb,qc,qd,qe,qf,reduceCtorEq,Kc,k1]
end Go.Vm
namespace Go.Vm
theorem qrU(τ:Bool) (l:List Cl) (vs:List V) (hv:RL bCl l vs) (hl:l.length≤2^20) (hlw: ∀ x ∈ l,wCl x) (m:Nat): ∀ (i:Nat) (o:List Cl),i+m=l.length→o.length=i→
 lw qg qbF ⟨[(3,.s (100000,0) 0 o.length),(6,.i τ vs),(7,I (vs.length:Nat)),(8,I i)],[((100000,0),9,o.map oCl)]⟩=
  some (.exit 0,⟨[(3,.s (100000,0) 0 (o++l.drop i).length)],[((100000,0),9,(o++l.drop i).map oCl)]⟩):=by
 have hlv:=qS hv
 induction m with
 |zero=>
  intro i o hi ho
  have h: ¬ (i:Int) < (vs.length:Int):=by omega
  rw [List.drop_eq_nil_of_le (by omega),ql]
  simp only [List.append_nil]
  simp only [go_sem,qa,qb,qc,qd,qe,qf,reduceCtorEq,qff,h]
 |succ m ih=>
  intro i o hi ho
  have h:(i:Int) < (vs.length:Int):=by omega
  obtain ⟨c,hx⟩:=qV (l:=l) (i:=i) (by omega)
  obtain ⟨v,g,b⟩:=yJ hv hx
  have wc:=hlw c (List.mem_of_getElem? hx)
  have cc:=ql1 c wc v b
  have a1:=fun T=>qZ (τ:=τ) (T:=T) (e:=9) g (jk b)
  have e1:w64 ((i:Int)+1)=((i+1:Nat):Int):=by rw [qm]<;>omega
  have tk:=List.take_of_length_le (l:=o.map oCl) (i:=o.length) (by simp)
  have l1:decide ((o.length+1)*128≤lim)=true:=decide_eq_true (by rw [qM];omega)
  have l2:decide (o.length+1≤lim)=true:=decide_eq_true (by rw [qM];omega)
  obtain ⟨σ0,ws0,σ1,ws1,rfl,hb1,hb2⟩:=b
  have htt:(c.head.kids.map oT).take c.head.kids.length=c.head.kids.map oT:=List.take_of_length_le (by simp)
  have htt':(c.body.kids.map oT).take c.body.kids.length=c.body.kids.map oT:=List.take_of_length_le (by simp)
  rw [oCl]at cc
  have ih1:=ih (i+1) (o++[c]) (by omega) (by simp;omega)
  have em:o++l.drop i=o++[c]++l.drop (i+1):=by rw [zP hx];simp
  have mp:(o++[c]).map oCl=o.map oCl++[oCl c]:=by simp
  have ln:(o++[c]).length=o.length+1:=by simp
  rw [em, ← ih1,mp,ln,ql,oCl]
  simp only [go_sem,qa,qb,qc,qd,qe,qf,reduceCtorEq,qff,h,a1,g,cc,e1,l1,l2,tk,htt,htt',List.length_map]
theorem ql2(τ:Bool) (l:List Cl) (vs:List V) (hv:RL bCl l vs) (hl:l.length≤2^20) (hlw: ∀ x ∈ l,wCl x):cr qg qek [.i τ vs]=some (.o 9 (l.map oCl)):=by
 have lp:=qrU τ l vs hv hl hlw l.length 0 [] (by omega) rfl
 simp only [Int.natCast_zero,List.drop_zero,List.nil_append,List.map_nil,List.length_nil]at lp
 have tk:=List.take_of_length_le (l:=l.map oCl) (i:=l.length) (by simp)
 rw [qo qx9 rfl]
 simp only [go_sem,qa,qb,qc,qd,qe,qf,reduceCtorEq,Kp,lp,tk,List.length_map]
theorem qrV(x:Db) (hx:x.clauses.length≤2^20) (hxw: ∀ c ∈ x.clauses,wCl c) (ho:x.opn.length≤2^20) (vx:V) (bx:bDb x vx):cr qg qbg [vx]=some (oDb x):=by
 obtain ⟨τ0,vs0,τ1,rfl,h0⟩:=bx
 have cc:=ql2 τ0 x.clauses vs0 h0 hx hxw
 have tk:=List.take_of_length_le (l:=x.clauses.map oCl) (i:=x.clauses.length) (by simp)
 have tks:=List.take_of_length_le (l:=x.opn.map S) (i:=x.opn.length) (by simp)
 have al:xV 1 (x.opn.map S)=true:=JP (f:=S) (e:=1) (fun _=>⟨rfl,rfl⟩) x.opn
 have zs:ya (x.opn.map S)=true:=qdk (f:=S) (fun _=>rfl) x.opn
 have l1:decide ((0+x.opn.length)*16≤lim)=true:=decide_eq_true (by rw [qM];omega)
 have l2:decide (0+x.opn.length≤lim)=true:=decide_eq_true (by rw [qM];omega)
 have l3:decide (x.opn.length*16≤lim)=true:=decide_eq_true (by rw [qM];omega)
 have l4:decide (x.opn.length≤lim)=true:=decide_eq_true (by rw [qM];omega)
 rw [qo qya rfl,oDb]
 simp only [go_sem,qa,qb,qc,qd,qe,qf,reduceCtorEq,Kq,cc,tk,tks,al,zs,l1,l2,l3,l4,List.length_map,List.length_nil,List.nil_append]
end Go.Vm
namespace Go.Vm
theorem qsR(t:Tm) (hw:WT t) (v:V) (hb:BT t v):cr qg qgX [v]=some (B (jO t)):=by
 have p:=qsJ t hw v hb
 have k:=qsG (Zc t)
 obtain ⟨τ,vs,rfl,hv⟩:=qR hb
 rw [qo qyf rfl]
 unfold jO
 cases hp:decide (Zc t ≠ [])with
 |false=>simp only [go_sem,qa,qb,qc,qd,qe,qf,reduceCtorEq,Y0,p,hp,Bool.false_and]
 |true=>simp only [go_sem,qa,qb,qc,qd,qe,qf,reduceCtorEq,Y0,p,hp,k,Bool.true_and]
theorem qsH(τ σ:Bool) (vs:List V) (cs:List Cl) (ss:List Str) (n:Nat) (hl:cs.length=n) (hv:RL bCl cs vs) (hlim:n≤Lm)
 (hw: ∀ c ∈ cs,WT c.head∧WT c.body) (m:Nat): ∀ (i:Nat),i+m=n→
 if (cs.drop i).all xq=true then lw qg Qi ⟨[(1,.p (100000,0) 0 0),(6,.i τ vs),(7,I (n:Nat)),(8,I i)],[((100000,0),2,[.a [.i τ vs,.i σ (ss.map S)]])]⟩=some (.exit 0,⟨[(1,.p (100000,0) 0 0)],[((100000,0),2,[.a [.i τ vs,.i σ (ss.map S)]])]⟩)
 else ∃ T,lw qg Qi ⟨[(1,.p (100000,0) 0 0),(6,.i τ vs),(7,I (n:Nat)),(8,I i)],[((100000,0),2,[.a [.i τ vs,.i σ (ss.map S)]])]⟩=some (.ret,⟨[(2,B false)],T⟩):=by
 have hn:vs.length=n:=by rw [qS hv,hl]
 unfold Lm at hlim
 induction m with
 |zero=>
  intro i hi
  obtain rfl:i=n:=by omega
  have h1: ¬ (i:Int) < (i:Int):=by omega
  rw [List.drop_of_length_le (by omega),List.all_nil,if_pos rfl,ql]
  simp only [go_sem,qa,qb,qc,qd,qe,qf,reduceCtorEq,Xx,hn,h1]
 |succ m ih=>
  intro i hi
  have hlt:(i:Int) < (n:Int):=by omega
  obtain ⟨c,hc⟩:=qV (l:=cs) (i:=i) (by omega)
  obtain ⟨v,gv,hbt⟩:=yJ hv hc
  obtain ⟨w1,w2⟩:=hw c (List.mem_of_getElem? hc)
  have a1:=fun T=>qZ (τ:=τ) (T:=T) gv (jk hbt)
  have e1:w64 ((i:Int)+1)=((i+1:Nat):Int):=by rw [qm]<;>omega
  have i1:=ih (i+1) (by omega)
  rw [zP hc,List.all_cons]
  obtain ⟨τ0,vs0,τ1,vs1,rfl,h0,h1⟩:=hbt
  have a:=qiD c.head w1 _ (kJ (τ:=τ0) h0)
  have b:=qiD c.body w2 _ (kJ (τ:=τ1) h1)
  have d:=qsR c.head w1 _ (kJ (τ:=τ0) h0)
  have bad: ∀ (x:Bool),xq c=false→(∃ T,lw qg Qi ⟨[(1,.p (100000,0) 0 0),(6,.i τ vs),(7,I (n:Nat)),(8,I i)],[((100000,0),2,[.a [.i τ vs,.i σ (ss.map S)]])]⟩=some (.ret,⟨[(2,B false)],T⟩))→
   if (xq c&&(cs.drop (i+1)).all xq)=true then lw qg Qi ⟨[(1,.p (100000,0) 0 0),(6,.i τ vs),(7,I (n:Nat)),(8,I i)],[((100000,0),2,[.a [.i τ vs,.i σ (ss.map S)]])]⟩=some (.exit 0,⟨[(1,.p (100000,0) 0 0)],[((100000,0),2,[.a [.i τ vs,.i σ (ss.map S)]])]⟩)
   else ∃ T,lw qg Qi ⟨[(1,.p (100000,0) 0 0),(6,.i τ vs),(7,I (n:Nat)),(8,I i)],[((100000,0),2,[.a [.i τ vs,.i σ (ss.map S)]])]⟩=some (.ret,⟨[(2,B false)],T⟩):=by
   intro _ hk h
   rw [hk,Bool.false_and,if_neg (by decide)]
   exact h
  cases h1:zA c.head with
  |false=>
   rw [h1]at a
   refine bad true (by unfold xq;rw [h1];rfl) ⟨[((4,0),9,[.a [I c.head.kind,S c.head.name,I c.head.num,.i τ0 vs0,I c.body.kind,S c.body.name,I c.body.num,.i τ1 vs1,S c.file]]),((100000,0),2,[.a [.i τ vs,.i σ (ss.map S)]])], ?_⟩
   rw [ql]
   simp only [go_sem,qa,qb,qc,qd,qe,qf,reduceCtorEq,Xx,hn,hlt,a1,gv,a,e1]
  |true=>
  rw [h1]at a
  cases h2:zA c.body with
  |false=>
   rw [h2]at b
   refine bad true (by unfold xq;rw [h1,h2];rfl) ⟨[((4,0),9,[.a [I c.head.kind,S c.head.name,I c.head.num,.i τ0 vs0,I c.body.kind,S c.body.name,I c.body.num,.i τ1 vs1,S c.file]]),((100000,0),2,[.a [.i τ vs,.i σ (ss.map S)]])], ?_⟩
   rw [ql]
   simp only [go_sem,qa,qb,qc,qd,qe,qf,reduceCtorEq,Xx,hn,hlt,a1,gv,a,b,e1]
  |true=>
  rw [h2]at b
  cases h3:jO c.head with
  |false=>
   rw [h3]at d
   refine bad true (by unfold xq;rw [h1,h2,h3];rfl) ⟨[((4,0),9,[.a [I c.head.kind,S c.head.name,I c.head.num,.i τ0 vs0,I c.body.kind,S c.body.name,I c.body.num,.i τ1 vs1,S c.file]]),((100000,0),2,[.a [.i τ vs,.i σ (ss.map S)]])], ?_⟩
   rw [ql]
   simp only [go_sem,qa,qb,qc,qd,qe,qf,reduceCtorEq,Xx,hn,hlt,a1,gv,a,b,d,e1]
  |true=>
  rw [h3]at d
  have hk:xq c=true:=by unfold xq;rw [h1,h2,h3];rfl
  rw [hk,Bool.true_and]
  have stp:lw qg Qi ⟨[(1,.p (100000,0) 0 0),(6,.i τ vs),(7,I (n:Nat)),(8,I i)],[((100000,0),2,[.a [.i τ vs,.i σ (ss.map S)]])]⟩=lw qg Qi ⟨[(1,.p (100000,0) 0 0),(6,.i τ vs),(7,I (n:Nat)),(8,I ((i+1:Nat):Int))],[((100000,0),2,[.a [.i τ vs,.i σ (ss.map S)]])]⟩:=by
   rw [ql]
   simp only [go_sem,qa,qb,qc,qd,qe,qf,reduceCtorEq,Xx,hn,hlt,a1,gv,a,b,d,e1]
  rw [stp]
  exact i1
theorem qsI(x:Db) (hl:x.clauses.length≤Lm) (hw: ∀ c ∈ x.clauses,WT c.head∧WT c.body) (v:V) (h:bDb x v):cr qg qgS [v]=some (B (xr x)):=by
 obtain ⟨τ0,vs0,τ1,rfl,h0⟩:=h
 have lp:=qsH τ0 τ1 vs0 x.clauses x.opn x.clauses.length rfl h0 hl hw x.clauses.length 0 (by omega)
 rw [List.drop_zero]at lp
 simp only [Int.natCast_zero]at lp
 have hn:=qS h0
 rw [qo qxQ rfl]
 unfold xr
 cases ha:x.clauses.all xq with
 |false=>
  rw [ha,if_neg (by decide)]at lp
  obtain ⟨T,lp⟩:=lp
  simp only [go_sem,qa,qb,qc,qd,qe,qf,reduceCtorEq,Z4,hn,lp,Bool.false_and]
 |true=>
  rw [ha,if_pos rfl]at lp
  have d1:decide ((x.clauses.length:Int)≤120)=decide (x.clauses.length≤120):=by rw [decide_eq_decide];omega
  have d2:decide ((x.opn.length:Int)≤40)=decide (x.opn.length≤40):=by rw [decide_eq_decide];omega
  cases h1:decide (x.clauses.length≤120)with
  |false=>simp only [go_sem,qa,qb,qc,qd,qe,qf,reduceCtorEq,Z4,hn,lp,d1,d2,h1,Bool.true_and,Bool.false_and,List.length_map]
  |true=>simp only [go_sem,qa,qb,qc,qd,qe,qf,reduceCtorEq,Z4,hn,lp,d1,d2,h1,Bool.true_and,List.length_map]
end Go.Vm
set_option maxHeartbeats 8000000
namespace Go.Vm
open Go.Lib (itoa join joinTail decDigits)
def Rt(t:Tm):Prop:= ∃ d,xz d t=true
theorem XA {t:Tm} (h:Rt t): ∀ u ∈ t.kids,Rt u:=by
 obtain ⟨d,h⟩:=h
 exact fun u hu=>⟨d+1,(qjF h).2 u hu⟩
theorem qkY {t:Tm} (h:Rt t):Qw t=true:=by obtain ⟨d,h⟩:=h;exact (qjF h).1
theorem qcr(p:Bool) {t:Tm} (h:Rt t):(wr p t).length+10≤60*nT t∧(wrR p t).length≤60*nT t:=by
 obtain ⟨d,h⟩:=h;exact qCE p t d h
theorem qiz(p:Bool) (m:Int) {t:Tm} (h:Rt t):(held p m t).length+8≤60*nT t:=by
 have h1:=(qcr p h).1
 have h2:=XL p m (xy t) (wr p t)
 unfold held
 omega
theorem qfN {t:Tm} {s:Str} (h:yE t s 2=true):t.kind=4∧t.name=s∧ ∃ a b,t.kids=[a,b]:=by
 unfold yE at h
 simp only [Bool.and_eq_true,decide_eq_true_eq]at h
 refine ⟨h.1,h.2.1, ?_⟩
 have h2:t.kids.length=2:=by omega
 rcases hk:t.kids with _|⟨x,_|⟨y,_|⟨z,r⟩⟩⟩<;>rw [hk]at h2<;>simp at h2
 exact ⟨x,y,rfl⟩
theorem qmO {t a b:Tm} {s:Str} (h1:t.kind=4) (h2:t.name=s) (h3:t.kids=[a,b]):yE t s 2=true:=by
 unfold yE;rw [decide_eq_true h1,decide_eq_true h2,h3];rfl
theorem qiX {t a b:Tm} (h:t.kids=[a,b]):nT t=nT a+nT b+1:=by
 have:=qns t
 rw [h]at this
 simp only [nTs]at this
 omega
theorem qiy(p:Bool) (m:Int) (t:Tm):held p m t=zQ p m (wk p t).prio (wk p t).raw:=by unfold held wr;rw [qCv]
theorem qCG(p:Bool) {t:Tm} (h:t.kind=1):wr p t=[95]++itoa t.num:=by rw [Ka];unfold Ze;rw [if_pos h]
theorem qCD(p:Bool) {t:Tm} (h:t.kind=3):wr p t=itoa t.num:=by rw [Ka];unfold Ze;rw [if_neg (by omega),if_pos h]
theorem qCA(p:Bool) {t:Tm} (h:t.kind=2):wr p t=if t.name=[91,93]then [91,93]else if qcM t.name=true then [40]++xE t.name++[41]else xE t.name:=by
 rw [Ka];unfold Ze;rw [if_neg (by omega),if_neg (by omega),if_pos h]
theorem qCF(p:Bool) {t a b:Tm} (h:yE t [46] 2=true) (hk:t.kids=[a,b]):wr p t=[91]++held p 999 a++wrR p b:=by
 obtain ⟨h1,h2,-⟩:=qfN h
 rw [Ka,hk,qiy]
 unfold Ze
 rw [if_neg (by omega),if_neg (by omega),if_neg (by omega)]
 simp only [List.map_cons,List.map_nil]
 rw [if_pos h2]
 rfl
theorem qCC(p:Bool) {t a b:Tm} (h:t.kind=4) (hk:t.kids=[a,b]) (hi:(qP t.name).prio ≠ 0):wr p t=J5 p t.name (wk p a) (wk p b):=by
 rw [Ka,hk]
 unfold Ze
 rw [if_neg (by omega),if_neg (by omega),if_neg (by omega)]
 simp only [List.map_cons,List.map_nil]
 rw [if_neg (by intro e;rw [e]at hi;exact hi rfl),if_pos hi]
theorem qss(p:Bool) (s:Str) (ks:List Tm):J2 p s (ks.map (wk p))=xE s++[40]++join (ks.map (held p 999)) [44]++[41]:=by
 unfold J2
 rw [List.map_map]
 have:((fun k:Kd=>zQ p 999 k.prio k.raw) ∘ wk p)=held p 999:=by funext t;rw [qiy];rfl
 rw [this]
theorem qCB(p:Bool) {t:Tm} (h:t.kind=4) (h1:yE t [46] 2=false) (h2:xy t=0):wr p t=xE t.name++[40]++join (t.kids.map (held p 999)) [44]++[41]:=by
 rw [Ka, ← qss]
 unfold Ze
 rw [if_neg (by omega),if_neg (by omega),if_neg (by omega)]
 rcases hk:t.kids with _|⟨x,_|⟨y,_|⟨z,r⟩⟩⟩<;>simp only [List.map_cons,List.map_nil]
 have hn: ¬ t.name=[46]:=fun e=>by rw [qmO h e hk]at h1;cases h1
 have hp: ¬ (qP t.name).prio ≠ 0:=by
  unfold xy at h2
  rw [if_pos ⟨h,by rw [hk];rfl⟩]at h2
  exact fun e=>e h2
 rw [if_neg hn,if_neg hp]
theorem qCz(p:Bool) {t a b:Tm} (h:yE t [46] 2=true) (hk:t.kids=[a,b]):wrR p t=[44]++held p 999 a++wrR p b:=by
 obtain ⟨h1,h2,-⟩:=qfN h
 rw [qgK,hk,qiy]
 unfold qaq
 rw [if_neg (by omega)]
 simp only [List.map_cons,List.map_nil]
 rw [if_pos ⟨h1,h2⟩]
 rfl
theorem qCy(p:Bool) {t:Tm} (h:Qs t [91,93]=true):wrR p t=[93]:=by
 unfold Qs at h
 simp only [Bool.and_eq_true,decide_eq_true_eq]at h
 rw [qgK]
 unfold qaq
 rw [if_pos h]
theorem qCx(p:Bool) {t:Tm} (h:Qs t [91,93]=false) (h1:yE t [46] 2=false):wrR p t=[124]++held p 999 t++[93]:=by
 have hn: ¬ (t.kind=2∧t.name=[91,93]):=fun ⟨e1,e2⟩=>by unfold Qs at h;rw [decide_eq_true e1,decide_eq_true e2]at h;cases h
 rw [qgK]
 unfold qaq
 rw [if_neg hn]
 rcases hk:t.kids with _|⟨x,_|⟨y,_|⟨z,r⟩⟩⟩<;>simp only [List.map_cons,List.map_nil]<;>try rfl
 rw [if_neg fun e=>by rw [qmO e.1 e.2 hk]at h1;cases h1]
 rfl
theorem qhN {R:Tm→V→Prop} {a b:Tm} {vs:List V} (h:RL R [a,b] vs): ∃ va vb,vs=[va,vb]∧R a va∧R b vb:=by
 simp only [RL]at h
 obtain ⟨va,r,rfl,h1,vb,r',rfl,h2,rfl⟩:=h
 exact ⟨va,vb,rfl,h1,h2⟩
end Go.Vm
namespace Go.Vm
open Go.Lib (itoa join joinTail)
end Go.Vm
namespace Go.Vm
open Go.Lib (itoa join joinTail)
theorem qz3 {t:Tm}:decide (xy t ≠ 0)=(decide (t.kind=4)&&(decide ((qP t.name).prio ≠ 0)&&decide ((t.kids.length:Int)=2))):=by
 unfold xy
 by_cases h1:t.kind=4<;>by_cases h2:t.kids.length=2
 ·rw [if_pos ⟨h1,h2⟩,decide_eq_true h1,decide_eq_true (show (t.kids.length:Int)=2 by omega),Bool.true_and,Bool.and_true]
 ·rw [if_neg (fun h=>h2 h.2),decide_eq_false (show ¬ (t.kids.length:Int)=2 by omega),Bool.and_false,Bool.and_false];rfl
 ·rw [if_neg (fun h=>h1 h.1),decide_eq_false h1,Bool.false_and];rfl
 ·rw [if_neg (fun h=>h1 h.1),decide_eq_false h1,Bool.false_and];rfl
theorem qCg {t:Tm} (h:(t.kids.length:Int)=2): ∃ a b,t.kids=[a,b]:=by
 have h2:t.kids.length=2:=by omega
 rcases hk:t.kids with _|⟨x,_|⟨y,_|⟨z,r⟩⟩⟩<;>rw [hk]at h2<;>simp at h2
 exact ⟨x,y,rfl⟩
end Go.Vm
namespace Go.Vm
open Go.Lib (itoa join joinTail)
theorem qCL(p:Bool) (gk:Nat) (N:Nat) (hN:N≤401) (hW: ∀ u,nT u < N→Rt u→WT u→ ∀ v,BT u v→cr qg gk [v]=some (S (held p 999 u))):
 ∀ (n:Nat) (b:Tm),nT b≤n→nT b < N→Rt b→WT b→ ∀ (v:V),BT b v→ ∀ acc:Str,acc.length+60*nT b≤2^40→
 ∃ b' v' acc',BT b' v'∧yE b' [46] 2=false∧nT b'≤nT b∧Rt b'∧WT b'∧acc'++wrR p b'=acc++wrR p b∧acc'.length+60*nT b'≤2^40∧
  lw qg qbL ⟨[(1,Fc gk),(7,S acc),(8,.p (100000,0) 0 0)],[((100000,0),4,[v])]⟩=some (.exit 1,⟨[(1,Fc gk),(7,S acc'),(8,.p (100000,0) 0 0)],[((100000,0),4,[v'])]⟩):=by
 intro n
 induction n with
 |zero=>intro b hn;have:=jS b;omega
 |succ n ih=>
  intro b hn hbN hr hw v hb acc hacc
  have is:=qmL b v hb
  cases h2:yE b [46] 2 with
  |false=>
   refine ⟨b,v,acc,hb,h2,Nat.le_refl _,hr,hw,rfl,hacc, ?_⟩
   rw [h2]at is
   obtain ⟨τb,vsb,rfl,-⟩:=qR hb
   rw [ql]
   simp only [go_sem,qa,qb,qc,qd,qe,qf,reduceCtorEq,qfi,is]
  |true=>
   rw [h2]at is
   obtain ⟨-,-,a2,b2,hk2⟩:=qfN h2
   have hnt:=qiX hk2
   have ra:=XA hr a2 (by rw [hk2];simp)
   have rb:=XA hr b2 (by rw [hk2];simp)
   have wa:=yt hw a2 (by rw [hk2];simp)
   have wb:=yt hw b2 (by rw [hk2];simp)
   have hl:=qiz p 999 ra
   obtain ⟨τb,vsb,rfl,hvb⟩:=qR hb
   rw [hk2]at hvb
   obtain ⟨va2,vb2,rfl,ha2,hb2⟩:=qhN hvb
   obtain ⟨b',v',acc',g1,g3,g4,g5,g6,g7,g8,g9⟩:=ih b2 (by have:=jS a2;omega) (by omega) rb wb vb2 hb2 (acc++([44]++held p 999 a2)) (by simp only [List.length_append,List.length_cons,List.length_nil];omega)
   refine ⟨b',v',acc',g1,g3,by omega,g5,g6, ?_,g8, ?_⟩
   ·rw [g7,qCz p h2 hk2];simp only [List.append_assoc]
   ·have cw2:=hW a2 (by omega) ra wa va2 ha2
    have s1:qD .add (S [44]) (S (held p 999 a2))=_:=zl (by simp only [List.length_cons,List.length_nil];omega)
    have s2:qD .add (S acc) (S ([44]++held p 999 a2))=_:=zl (by simp only [List.length_append,List.length_cons,List.length_nil];omega)
    simp only [List.cons_append,List.nil_append]at s1 s2 g9
    obtain ⟨τa,vsa,rfl,-⟩:=qR ha2
    obtain ⟨τ2,vs2,rfl,-⟩:=qR hb2
    rw [ql]
    simp only [go_sem,qa,qb,qc,qd,qe,qf,reduceCtorEq,qfi,is,cw2,s1,s2]
    exact g9
theorem qCK(p:Bool) (gk:Nat) (t:Tm) (τ:Bool) (vs:List V) (hv:RL BT t.kids vs) (hlim:t.kids.length≤5) (hks: ∀ u ∈ t.kids,∀ v,BT u v→cr qg gk [v]=some (S (held p 999 u))) (m:Nat):
 ∀ (i:Nat) (acc:List Str),i+m=t.kids.length→acc.length=i→
 lw qg qbK ⟨[(1,Fc gk),(3,.p (100000,0) 0 0),(9,.s (100000,1) 0 acc.length),(98,.i τ vs),(99,I t.kids.length),(100,I i)],[((100000,0),4,[.a [I t.kind,S t.name,I t.num,.i τ vs]]),((100000,1),1,acc.map S)]⟩=
  some (.exit 3,⟨[(3,.p (100000,0) 0 0),(9,.s (100000,1) 0 (acc.length+((t.kids.drop i).map (held p 999)).length))],[((100000,0),4,[.a [I t.kind,S t.name,I t.num,.i τ vs]]),((100000,1),1,(acc++(t.kids.drop i).map (held p 999)).map S)]⟩):=by
 have hn:=qS hv
 induction m with
 |zero=>
  intro i acc hi ha
  have h: ¬ (i:Int) < t.kids.length:=by omega
  rw [List.drop_eq_nil_of_le (by omega),List.map_nil,List.append_nil,List.length_nil,Nat.add_zero,ql]
  simp only [go_sem,qa,qb,qc,qd,qe,qf,reduceCtorEq,qfh,hn,h]
 |succ m ih=>
  intro i acc hi ha
  have h:(i:Int) < t.kids.length:=by omega
  obtain ⟨u,hu⟩:=qV (l:=t.kids) (i:=i) (by omega)
  have hm:=List.mem_of_getElem? hu
  obtain ⟨v,gv,hbt⟩:=yJ hv hu
  have a1:=fun T=>qZ (τ:=τ) (T:=T) gv (Qd hbt)
  have cc:=hks u hm v hbt
  have e1:w64 ((i:Int)+1)=((i+1:Nat):Int):=by rw [qm]<;>omega
  have l1:decide ((acc.length+1)*16≤lim)=true:=decide_eq_true (by rw [qM];omega)
  have l2:decide (acc.length+1≤lim)=true:=decide_eq_true (by rw [qM];omega)
  have i1:=ih (i+1) (acc++[held p 999 u]) (by omega) (by simp only [List.length_append,List.length_cons,List.length_nil];omega)
  have ea:acc.length+(((t.kids.drop (i+1)).map (held p 999)).length+1)=acc.length+1+((t.kids.drop (i+1)).map (held p 999)).length:=by omega
  rw [List.append_assoc,List.singleton_append,List.length_append,List.length_cons,List.length_nil,Nat.zero_add]at i1
  rw [zP hu,List.map_cons,List.length_cons,ea]
  obtain ⟨σ1,ws,rfl,-⟩:=qR hbt
  rw [ql]
  simp only [go_sem,qa,qb,qc,qd,qe,qf,reduceCtorEq,qfh,hn,h,a1,gv,cc,e1,l1,l2,List.length_cons,List.length_nil]
  simp only [List.length_map]at i1 ⊢
  exact i1
theorem qCJ(p:Bool) (gk gi:Nat) (t:Tm) (hN:nT t≤400) (hr:Rt t) (hw:WT t)
 (hW: ∀ u,nT u < nT t→Rt u→WT u→ ∀ v,BT u v→cr qg gk [v]=some (S (held p 999 u)))
 (hI: ∀ a b,t.kind=4→t.kids=[a,b]→(qP t.name).prio ≠ 0→ ∀ v,BT t v→cr qg gi [v]=some (S (J5 p t.name (wk p a) (wk p b)))) (v:V) (hb:BT t v):
 cr qg qev [v,Fc gk,Fc gi]=some (S (wr p t)):=by
 obtain ⟨hk4,hnm,hnum,hkid,hnok⟩:=qi8 (qkY hr)
 have at_:=qmH t.name (by omega)
 have atl:=qh3 t.name
 have ia:=qmK t v hb [91,93]
 have is:=qmL t v hb
 have inf:=qsS t v hb
 have op:=qsT t.name
 have hgi:=fun a b h1 h2 h3=>hI a b h1 h2 h3 v hb
 obtain ⟨τ,vs,rfl,hv⟩:=qR hb
 have hl:=qS hv
 rw [qo qyB rfl]
 by_cases k1:t.kind=1
 ·have d1:decide (t.kind=1)=true:=decide_eq_true k1
  have hd:=hnum (.inr k1)
  have dec:=qiB t.num (by omega) (by omega)
  have:=qcN t.num (by omega) (by omega)
  have s1:qD .add (S [95]) (S (itoa t.num))=_:=zl (by simp only [List.length_cons,List.length_nil];omega)
  rw [qCG p k1]
  simp only [go_sem,qa,qb,qc,qd,qe,qf,reduceCtorEq,kG,d1,dec,s1]
 have d1:decide (t.kind=1)=false:=decide_eq_false k1
 by_cases k3:t.kind=3
 ·have d3:decide (t.kind=3)=true:=decide_eq_true k3
  have hd:=hnum (.inl k3)
  have dec:=qiB t.num (by omega) (by omega)
  rw [qCD p k3]
  simp only [go_sem,qa,qb,qc,qd,qe,qf,reduceCtorEq,kG,d1,d3,dec]
 have d3:decide (t.kind=3)=false:=decide_eq_false k3
 by_cases k2:t.kind=2
 ·have d2:decide (t.kind=2)=true:=decide_eq_true k2
  unfold Qs at ia
  rw [d2,Bool.true_and]at ia
  rw [qCA p k2]
  by_cases hnil:t.name=[91,93]
  ·rw [decide_eq_true hnil]at ia
   rw [if_pos hnil]
   simp only [go_sem,qa,qb,qc,qd,qe,qf,reduceCtorEq,kG,d1,d3,ia]
  rw [decide_eq_false hnil]at ia
  rw [if_neg hnil]
  cases ho:qcM t.name with
  |true=>
   rw [ho]at op
   have s1:qD .add (S [40]) (S (xE t.name))=_:=zl (by simp only [List.length_cons,List.length_nil];omega)
   have s2:qD .add (S ([40]++xE t.name)) (S [41])=_:=zl (by simp only [List.length_append,List.length_cons,List.length_nil];omega)
   simp only [List.cons_append,List.nil_append]at s1 s2
   rw [if_pos rfl]
   simp only [go_sem,qa,qb,qc,qd,qe,qf,reduceCtorEq,kG,d1,d3,ia,d2,op,at_,s1,s2]
  |false=>
   rw [ho]at op
   rw [if_neg (by decide)]
   simp only [go_sem,qa,qb,qc,qd,qe,qf,reduceCtorEq,kG,d1,d3,ia,d2,op,at_]
 have d2:decide (t.kind=2)=false:=decide_eq_false k2
 have k4:t.kind=4:=by rcases hk4 with h|h|h|h<;>first|exact h|contradiction
 have d4:decide (t.kind=4)=true:=decide_eq_true k4
 unfold Qs at ia
 rw [d2,Bool.false_and]at ia
 have hlen:=(qcr p hr).1
 cases hp:yE t [46] 2 with
 |true=>
  rw [hp]at is
  obtain ⟨-,-,a,b,hk⟩:=qfN hp
  have hnt:=qiX hk
  have ra:=XA hr a (by rw [hk];simp)
  have rb:=XA hr b (by rw [hk];simp)
  have wa:=yt hw a (by rw [hk];simp)
  have wb:=yt hw b (by rw [hk];simp)
  have hla:=qiz p 999 ra
  have hpa:=jS a
  rw [hk]at hv
  obtain ⟨va,vb,rfl,ha,hb'⟩:=qhN hv
  obtain ⟨b',v',acc',g1,g3,g4,g5,g6,g7,g8,g9⟩:=qCL p gk (nT t) (by omega) hW (nT b) b (Nat.le_refl _) (by omega) rb wb vb hb' ([91]++held p 999 a) (by simp only [List.length_append,List.length_cons,List.length_nil];omega)
  have hl':=qiz p 999 g5
  rw [qCF p hp hk, ← g7]
  have ia2:=qmK b' v' g1 [91,93]
  have cw1:=hW a (by omega) ra wa va ha
  have cw2:=hW b' (by omega) g5 g6 v' g1
  have s1:qD .add (S [91]) (S (held p 999 a))=_:=zl (by simp only [List.length_cons,List.length_nil];omega)
  obtain ⟨τa,vsa,rfl,-⟩:=qR ha
  obtain ⟨τb,vsb,rfl,-⟩:=qR hb'
  obtain ⟨τd,vsd,rfl,-⟩:=qR g1
  simp only [List.cons_append,List.nil_append]at g9 s1
  cases hn:Qs b' [91,93]with
  |true=>
   have s2:qD .add (S acc') (S [93])=_:=zl (by simp only [List.length_cons,List.length_nil];omega)
   rw [qCy p hn]
   rw [hn]at ia2
   simp only [go_sem,qa,qb,qc,qd,qe,qf,reduceCtorEq,kG,d1,d3,ia,d2,is,cw1,s1,g9,ia2,s2]
  |false=>
   have s2:qD .add (S [124]) (S (held p 999 b'))=_:=zl (by simp only [List.length_cons,List.length_nil];omega)
   have s3:qD .add (S acc') (S ([124]++held p 999 b'))=_:=zl (by simp only [List.length_append,List.length_cons,List.length_nil];omega)
   have s4:qD .add (S (acc'++([124]++held p 999 b'))) (S [93])=_:=zl (by simp only [List.length_append,List.length_cons,List.length_nil];omega)
   have he:acc'++([124]++held p 999 b'++[93])=acc'++([124]++held p 999 b')++[93]:=by simp only [List.append_assoc]
   rw [qCx p hn g3,he]
   rw [hn]at ia2
   simp only [List.cons_append,List.nil_append]at s2 s3 s4 ⊢
   simp only [go_sem,qa,qb,qc,qd,qe,qf,reduceCtorEq,kG,d1,d3,ia,d2,is,cw1,s1,g9,ia2,s2,cw2,s3,s4]
 |false=>
 rw [hp]at is
 have pi:=qz3 (t:=t)
 rw [d4,Bool.true_and]at pi
 have hkl:=(hkid k4).2
 have h1k:=(hkid k4).1
 by_cases h0:xy t=0
 ·rw [decide_eq_false (show ¬ xy t ≠ 0 from fun h=>h h0)]at inf
  have hks: ∀ u ∈ t.kids,∀ v,BT u v→cr qg gk [v]=some (S (held p 999 u)):=fun u hu=>hW u (by have:=qns t;have:=qiY hu;omega) (XA hr u hu) (yt hw u hu)
  have lp:=qCK p gk t τ vs hv hkl hks t.kids.length 0 [] (by omega) rfl
  simp only [List.drop_zero,List.length_nil,Nat.zero_add,List.map_nil,List.nil_append,Int.natCast_zero]at lp
  have hw':=qCB p k4 hp h0
  have hL:(join (t.kids.map (held p 999)) [44]).length≤200000:=by
   rw [hw']at hlen
   simp only [List.length_append]at hlen
   omega
  have jn:=qrZ qzQ true (t.kids.map (held p 999)) [44] (by rw [List.length_map];omega) (by omega)
  have s1:qD .add (S (xE t.name)) (S [40])=_:=zl (by simp only [List.length_cons,List.length_nil];omega)
  have s2:qD .add (S (xE t.name++[40])) (S (join (t.kids.map (held p 999)) [44]))=_:=zl (by simp only [List.length_append,List.length_cons,List.length_nil];omega)
  have s3:qD .add (S (xE t.name++[40]++join (t.kids.map (held p 999)) [44])) (S [41])=_:=zl (by simp only [List.length_append,List.length_cons,List.length_nil];omega)
  rw [hw']
  simp only [go_sem,qa,qb,qc,qd,qe,qf,reduceCtorEq,kG,d1,d3,ia,d2,is,inf,hl,lp,at_,jn,s1,s2,s3]
 ·rw [decide_eq_true h0]at inf
  have hc:t.kind=4∧t.kids.length=2:=by
   unfold xy at h0
   by_cases hc:t.kind=4∧t.kids.length=2
   ·exact hc
   ·rw [if_neg hc]at h0;exact absurd rfl h0
  obtain ⟨a,b,hk⟩:=qCg (t:=t) (by omega)
  have hi:(qP t.name).prio ≠ 0:=by unfold xy at h0;rw [if_pos hc]at h0;exact h0
  have g:=hgi a b k4 hk hi
  rw [qCC p k4 hk hi]
  simp only [go_sem,qa,qb,qc,qd,qe,qf,reduceCtorEq,kG,d1,d3,ia,d2,is,inf,g]
end Go.Vm
namespace Go.Vm
theorem qs0: ∀ (n:Nat) (t:Tm),nT t≤n→nT t≤400→Rt t→WT t→ ∀ v,BT t v→cr qg Yn [v]=some (S (wr false t)):=by
 intro n
 induction n with
 |zero=>intro t hn;have:=jS t;omega
 |succ n ih=>
  intro t hn hN hr hw v hb
  have hW: ∀ u,nT u < nT t→Rt u→WT u→ ∀ v,BT u v→cr qg Yn [v]=some (S (wr false u)):=fun u h1 h2 h3=>ih u (by omega) (by omega) h2 h3
  have hI: ∀ a b,t.kind=4→t.kids=[a,b]→(qP t.name).prio ≠ 0→ ∀ v,BT t v→cr qg qew [v]=some (S (J5 false t.name (wk false a) (wk false b))):=by
   intro a b k4 hk hi v hb
   obtain ⟨-,hnm,-,-,-⟩:=qi8 (qkY hr)
   have hnt:=qiX hk
   have ra:=XA hr a (by rw [hk];simp)
   have rb:=XA hr b (by rw [hk];simp)
   have hla:=(qcr false ra).1
   have hlb:=(qcr false rb).1
   have hpa:=jS a
   have hpb:=jS b
   have st:=qsX t.name (by omega)
   have hst:=qpx t.name
   obtain ⟨τ,vs,rfl,hv⟩:=qR hb
   rw [hk]at hv
   obtain ⟨va,vb,rfl,hva,hvb⟩:=qhN hv
   have ca:=hW a (by omega) ra (yt hw a (by rw [hk];simp)) va hva
   have cb:=hW b (by omega) rb (yt hw b (by rw [hk];simp)) vb hvb
   obtain ⟨τa,vsa,rfl,-⟩:=qR hva
   obtain ⟨τb,vsb,rfl,-⟩:=qR hvb
   have s1:qD .add (S [40]) (S (wr false a))=_:=zl (by simp only [List.length_cons,List.length_nil];omega)
   have s2:qD .add (S ([40]++wr false a)) (S [32])=_:=zl (by simp only [List.length_append,List.length_cons,List.length_nil];omega)
   have s3:qD .add (S ([40]++wr false a++[32])) (S (QD t.name))=_:=zl (by simp only [List.length_append,List.length_cons,List.length_nil];omega)
   have s4:qD .add (S ([40]++wr false a++[32]++QD t.name)) (S [32])=_:=zl (by simp only [List.length_append,List.length_cons,List.length_nil];omega)
   have s5:qD .add (S ([40]++wr false a++[32]++QD t.name++[32])) (S (wr false b))=_:=zl (by simp only [List.length_append,List.length_cons,List.length_nil];omega)
   have s6:qD .add (S ([40]++wr false a++[32]++QD t.name++[32]++wr false b)) (S [41])=_:=zl (by simp only [List.length_append,List.length_cons,List.length_nil];omega)
   unfold J5
   rw [if_neg (by decide)]
   show _=some (S ([40]++wr false a++[32]++QD t.name++[32]++wr false b++[41]))
   simp only [List.cons_append,List.nil_append]at s1 s2 s3 s4 s5 s6 ⊢
   rw [qo qyC rfl]
   simp only [go_sem,qa,qb,qc,qd,qe,qf,reduceCtorEq,KF,ca,cb,st,s1,s2,s3,s4,s5,s6]
  have g:=qCJ false Yn qew t hN hr hw (fun u h1 h2 h3 v hb=>by rw [qsy];exact hW u h1 h2 h3 v hb) hI v hb
  obtain ⟨τ,vs,rfl,hv⟩:=qR hb
  rw [qo qyA rfl]
  simp only [go_sem,qa,qb,qc,qd,qe,qf,reduceCtorEq,KE,g]
def y9(p:Bool) (t:Tm):Str:=if zA t=true then wr p t else []
theorem qpU {t:Tm} (h:zA t=true):nT t≤400∧Rt t:=by
 unfold zA at h
 simp only [Bool.and_eq_true,decide_eq_true_eq]at h
 exact ⟨h.1,1,h.2⟩
theorem qqh(p:Bool) (t:Tm):(y9 p t).length≤24000:=by
 unfold y9
 split
 ·rename_i h
  obtain ⟨h1,h2⟩:=qpU h
  have:=(qcr p h2).1
  omega
 ·simp
theorem qmJ(t:Tm) (hw:WT t) (v:V) (hb:BT t v):cr qg qei [v]=some (S (y9 false t)):=by
 have ok:=qiD t hw v hb
 have wt:=fun h1 h2=>qs0 (nT t) t (Nat.le_refl _) h1 h2 hw v hb
 obtain ⟨τ,vs,rfl,hv⟩:=qR hb
 rw [qo qx5 rfl]
 unfold y9
 cases h:zA t with
 |false=>rw [h]at ok;rw [if_neg (by decide)];simp only [go_sem,qa,qb,qc,qd,qe,qf,reduceCtorEq,YY,ok]
 |true=>
  obtain ⟨h1,h2⟩:=qpU h
  have g:=wt h1 h2
  rw [h]at ok
  rw [if_pos rfl]
  simp only [go_sem,qa,qb,qc,qd,qe,qf,reduceCtorEq,YY,ok,g]
def qBv(c:Cl):Str:=(if Qs c.body [116,114,117,101]=true then y9 false c.head else y9 false c.head++([32,58,45,32]++y9 false c.body))++[46,10]
end Go.Vm
namespace Go.Vm
theorem qaa(n:Nat): ∀ (l:List Cl) (T:Mem),qy (zf n) T (l.map oCl)=(l.map oCl,T)
 |[],T=>rfl
 |x::l,T=>by
  have h:zf n T (oCl x)=(oCl x,T):=by unfold zf;rw [qfB,if_pos rfl]
  simp only [List.map_cons,qy,h,qaa n l T]
theorem qjQ(pre post:List Cl) (c:Cl) (v:V):((pre++c::post).map oCl).set pre.length v=pre.map oCl++v::post.map oCl:=by
 rw [List.map_append,List.map_cons,List.set_append_right _ _ (by simp)]
 simp
theorem qr6(g h:List Cl) (hl:g.length≤2^20) (hlw: ∀ x ∈ g,wCl x) (m:Nat): ∀ (i:Nat) (s:Str),i+m=g.length→s.length≤30000*i→(0 < i→s ≠ [])→(i=0→s=[])→
 ∃ s':Str,lw qg qbB ⟨[(6,.s (100000,0) 0 h.length),(7,S s),(18,.s (100000,1) 0 g.length),(19,I (g.length:Nat)),(20,I i)],[((100000,0),9,h.map oCl),((100000,1),9,g.map oCl)]⟩=
  some (.exit 0,⟨[(6,.s (100000,0) 0 h.length),(7,S s')],[((100000,0),9,h.map oCl),((100000,1),9,g.map oCl)]⟩)∧s'.length≤30000*g.length∧(s'=[]↔g=[]):=by
 induction m with
 |zero=>
  intro i s hi hs h1 h2
  have h: ¬ (i:Int) < (g.length:Int):=by omega
  refine ⟨s, ?_,by rw [show g.length=i by omega];exact hs, ?_⟩
  ·rw [ql]
   simp only [go_sem,qa,qb,qc,qd,qe,qf,reduceCtorEq,qfc,h,List.length_map]
  ·constructor
   ·intro e
    by_cases hi0:0 < i
    ·exact absurd e (h1 hi0)
    ·exact List.length_eq_zero_iff.1 (by omega)
   ·intro e
    subst e
    exact h2 (by simpa using hi)
 |succ m ih=>
  intro i s hi hs h1 h2
  have h:(i:Int) < (g.length:Int):=by omega
  obtain ⟨c,hx⟩:=qV (l:=g) (i:=i) (by omega)
  have wc:=hlw c (List.mem_of_getElem? hx)
  have ct:=fun τ=>qfL c wc (iCl τ c) (yY τ c)
  obtain ⟨w1,n1⟩:=JU c wc
  have wt:=fun τ=>qmJ (zH c) w1 (iT τ (zH c)) (xl τ _)
  have ln:=qqh false (zH c)
  generalize zH c=t at*
  have ct1:=ct true
  have ct2:=ct false
  have wt1:=wt true
  have wt2:=wt false
  rw [qv]at ct1 ct2
  rw [ye]at wt1 wt2
  rw [iCl]at ct1 ct2
  have tk:(t.kids.map oT).take t.kids.length=t.kids.map oT:=List.take_of_length_le (by simp)
  have gg:=zu (f:=oCl) hx
  have ix:=x3 (k:=(100000,1)) (e:=9) (xs:=g.map oCl) (i:=i) (len:=g.length) (by omega) (by simp)
  obtain ⟨pre,post,hgp,hpl⟩: ∃ pre post:List Cl,g=pre++c::post∧pre.length=i:=⟨g.take i,g.drop (i+1),by rw [← zP hx,List.take_append_drop],by rw [List.length_take];omega⟩
  have sm: ∀ v,(g.map oCl).set i v=pre.map oCl++v::post.map oCl:=fun v=>by rw [hgp, ← hpl];exact qjQ pre post c v
  have mg:g.map oCl=pre.map oCl++oCl c::post.map oCl:=by rw [hgp];simp
  have e1:w64 ((i:Int)+1)=((i+1:Nat):Int):=by rw [qm]<;>omega
  have a1:=zl (x:=[45,32]) (y:=y9 false t) (by simp only [List.length_cons,List.length_nil];omega)
  have ap1:([45,32]:Str)++y9 false t=45::32::y9 false t:=rfl
  have a2:=zl (x:=45::32::y9 false t) (y:=[10]) (by simp only [List.length_append,List.length_cons,List.length_nil];omega)
  have a3:=zl (x:=s) (y:=45::32::(y9 false t++[10])) (by simp only [List.length_append,List.length_cons,List.length_nil];omega)
  rw [ap1]at a1
  obtain ⟨s',k1,k2,k3⟩:=ih (i+1) (s++([45,32]++y9 false t++[10])) (by omega) (by simp only [List.length_append,List.length_cons,List.length_nil];omega) (fun _=>by simp) (fun h=>by omega)
  refine ⟨s', ?_,k2,k3⟩
  rw [ap1]at k1
  rw [← k1,ql]
  have fin: ∀ x:V,x=oCl c→pre.map oCl++x::post.map oCl=g.map oCl:=fun x hx=>by rw [hx,mg]
  have tk3:(c.head.kids.map oT).take c.head.kids.length=c.head.kids.map oT:=List.take_of_length_le (by simp)
  have tk4:(c.body.kids.map oT).take c.body.kids.length=c.body.kids.map oT:=List.take_of_length_le (by simp)
  rw [oCl]at mg
  simp only [go_sem,qa,qb,qc,qd,qe,qf,reduceCtorEq,qfc,h,gg,ix,e1,ct1,ct2,wt1,wt2,a1,a2,a3,ap1,tk,tk3,tk4,sm,Qt,Qn,Qu,qaa,oCl,List.cons_append,List.length_map]
  rw [mg]
end Go.Vm
namespace Go.Vm
theorem qr5(B:Nat) (hB:B≤2^36) (e0:Bool) (g:List Cl) (hl:g.length≤2^20) (hlw: ∀ x ∈ g,wCl x) (m:Nat): ∀ (i:Nat) (s:Str),i+m=g.length→s.length≤B+30000*i→(0 < i→s ≠ [])→(i=0→(s=[]↔e0=true))→
 ∃ s':Str,lw qg qbA ⟨[(7,S s),(32,.s (100000,0) 0 g.length),(33,I (g.length:Nat)),(34,I i)],[((100000,0),9,g.map oCl)]⟩=
  some (.exit 2,⟨[(7,S s')],[((100000,0),9,g.map oCl)]⟩)∧(s'=[]↔(e0=true∧g=[])):=by
 induction m with
 |zero=>
  intro i s hi hs h1 h2
  have h: ¬ (i:Int) < (g.length:Int):=by omega
  refine ⟨s, ?_, ?_⟩
  ·rw [ql]
   simp only [go_sem,qa,qb,qc,qd,qe,qf,reduceCtorEq,qfb,h,List.length_map]
  ·by_cases hi0:0 < i
   ·constructor
    ·intro e;exact absurd e (h1 hi0)
    ·rintro ⟨-,e⟩;subst e;simp at hi;omega
   ·have hg:g=[]:=List.length_eq_zero_iff.1 (by omega)
    rw [h2 (by omega)]
    exact ⟨fun h=>⟨h,hg⟩,fun h=>h.1⟩
 |succ m ih=>
  intro i s hi hs h1 h2
  have h:(i:Int) < (g.length:Int):=by omega
  obtain ⟨c,hx⟩:=qV (l:=g) (i:=i) (by omega)
  have wc:=hlw c (List.mem_of_getElem? hx)
  have ct:=fun τ=>qfL c wc (iCl τ c) (yY τ c)
  obtain ⟨w1,n1⟩:=JU c wc
  have wt:=fun τ=>qmJ (zH c) w1 (iT τ (zH c)) (xl τ _)
  have ln:=qqh false (zH c)
  generalize zH c=t at*
  have ct1:=ct true
  have ct2:=ct false
  have wt1:=wt true
  have wt2:=wt false
  rw [qv]at ct1 ct2
  rw [ye]at wt1 wt2
  rw [iCl]at ct1 ct2
  have tk:(t.kids.map oT).take t.kids.length=t.kids.map oT:=List.take_of_length_le (by simp)
  have gg:=zu (f:=oCl) hx
  have ix:=x3 (k:=(100000,0)) (e:=9) (xs:=g.map oCl) (i:=i) (len:=g.length) (by omega) (by simp)
  obtain ⟨pre,post,hgp,hpl⟩: ∃ pre post:List Cl,g=pre++c::post∧pre.length=i:=⟨g.take i,g.drop (i+1),by rw [← zP hx,List.take_append_drop],by rw [List.length_take];omega⟩
  have sm: ∀ v,(g.map oCl).set i v=pre.map oCl++v::post.map oCl:=fun v=>by rw [hgp, ← hpl];exact qjQ pre post c v
  have mg:g.map oCl=pre.map oCl++oCl c::post.map oCl:=by rw [hgp];simp
  have e1:w64 ((i:Int)+1)=((i+1:Nat):Int):=by rw [qm]<;>omega
  have a1:=zl (x:=[43,32]) (y:=y9 false t) (by simp only [List.length_cons,List.length_nil];omega)
  have ap1:([43,32]:Str)++y9 false t=43::32::y9 false t:=rfl
  have a2:=zl (x:=43::32::y9 false t) (y:=[10]) (by simp only [List.length_append,List.length_cons,List.length_nil];omega)
  have a3:=zl (x:=s) (y:=43::32::(y9 false t++[10])) (by simp only [List.length_append,List.length_cons,List.length_nil];omega)
  rw [ap1]at a1
  obtain ⟨s',k1,k3⟩:=ih (i+1) (s++([43,32]++y9 false t++[10])) (by omega) (by simp only [List.length_append,List.length_cons,List.length_nil];omega) (fun _=>by simp) (fun h=>by omega)
  refine ⟨s', ?_,k3⟩
  rw [ap1]at k1
  rw [← k1,ql]
  have fin: ∀ x:V,x=oCl c→pre.map oCl++x::post.map oCl=g.map oCl:=fun x hx=>by rw [hx,mg]
  have tk3:(c.head.kids.map oT).take c.head.kids.length=c.head.kids.map oT:=List.take_of_length_le (by simp)
  have tk4:(c.body.kids.map oT).take c.body.kids.length=c.body.kids.map oT:=List.take_of_length_le (by simp)
  rw [oCl]at mg
  simp only [go_sem,qa,qb,qc,qd,qe,qf,reduceCtorEq,qfb,h,gg,ix,e1,ct1,ct2,wt1,wt2,a1,a2,a3,ap1,tk,tk3,tk4,sm,Qt,Qn,Qu,qaa,oCl,List.cons_append,List.length_map]
  rw [mg]
end Go.Vm
namespace Go.Vm
theorem qqq(x y:Db) (hx:x.clauses.length≤2^20) (hxw: ∀ c ∈ x.clauses,wCl c) (hy:y.clauses.length≤2^20) (hyw: ∀ c ∈ y.clauses,wCl c) (vx vy:V) (bx:bDb x vx) (by':bDb y vy):
 ∃ s:Str,cr qg qgT [vx,vy]=some (S s)∧(s=[]↔(qJ x.clauses y.clauses=[]∧qJ y.clauses x.clauses=[])):=by
 have d:=qec x y hx hxw hy hyw vx vy bx by'
 have l1:=XS y.clauses x.clauses []
 have l2:=XS x.clauses y.clauses []
 have s1:=qab y.clauses x.clauses []
 have s2:=qab x.clauses y.clauses []
 rw [show yL y.clauses [] x.clauses=qJ x.clauses y.clauses from rfl]at l1 s1
 rw [show yL x.clauses [] y.clauses=qJ y.clauses x.clauses from rfl]at l2 s2
 generalize qJ x.clauses y.clauses=g at*
 generalize qJ y.clauses x.clauses=h at*
 obtain ⟨t,k1,k2,k3⟩:=qr6 g h (by omega) (fun c hc=>hxw c (s1 c hc)) g.length 0 [] (by omega) (by simp) (fun h=>by omega) (fun _=>rfl)
 obtain ⟨u,k4,k5⟩:=qr5 (30000*g.length) (by omega) (decide (t=[])) h (by omega) (fun c hc=>hyw c (s2 c hc)) h.length 0 t (by omega) (by omega) (fun h=>by omega) (fun _=>by simp)
 simp only [Int.natCast_zero]at k1 k4
 refine ⟨u, ?_, ?_⟩
 ·obtain ⟨τ0,vs0,τ1,rfl,h0⟩:=bx
  obtain ⟨τ2,vs2,τ3,rfl,h2⟩:=by'
  rw [qo qxT rfl]
  simp only [go_sem,qa,qb,qc,qd,qe,qf,reduceCtorEq,Kj,d,k1,k4,List.length_map]
 ·rw [k5,decide_eq_true_eq,k3]
end Go.Vm
