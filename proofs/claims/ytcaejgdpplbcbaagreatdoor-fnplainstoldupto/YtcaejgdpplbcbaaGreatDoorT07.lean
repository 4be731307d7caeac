import Derived.Test.YtcaejgdpplbcbaaGreatDoorT06
import Derived.Test.YtcaejgdpplbcbaaGreatDoorT05
import Derived.Test.YtcaejgdpplbcbaaGreatDoorT03
import Derived.Test.YtcaejgdpplbcbaaGreatDoorT04
open Nat renaming reduceAdd → qa, reduceSub → qb, reduceMul → qc, reduceEqDiff → qd, reduceLeDiff → qe, reduceBEq → qf
set_option autoImplicit false
set_option maxHeartbeats 16000000
set_option maxRecDepth 100000
set_option linter.unusedSimpArgs false
set_option linter.unusedVariables false
namespace Go.Vm
theorem qoJ(l:List Sg) (τ:Bool) (hg:GoodL l) (i:Nat) (hi:i≤l.length) (nm:List Str) (d:Nat) (most:Int) (hk:(sgD l i).kind=1) (t:Tm) (q:Int) (a1:Nat) (nm1:List Str) (d1:Int) (b1:Bool)
 (hA:cw qg Zf [.b (.a [.i τ (l.map Sg.v),I i,B false,I (d),.o 1 (List.map S nm)]),I most]=some (.t [oT t,I q],[.b (.a [.i τ (l.map Sg.v),I a1,B b1,I (d1),.o 1 (List.map S nm1)]),I most])):
 cw qg jL [.b (.a [.i τ (l.map Sg.v),I i,B false,I (d),.o 1 (List.map S nm)]),I most]=some (.t [oT t,I q],[.b (.a [.i τ (l.map Sg.v),I a1,B b1,I (d1),.o 1 (List.map S nm1)]),I most]):=by
 have hlen:=hg.len
 have i1:=zL l τ hlen i (by omega) (.i true (nm.map S)) d false 1 []
 rw [yg l i 1 (by decide)]at i1
 have i2:=zL l τ hlen i (by omega) (.i true (nm.map S)) d false 2 []
 rw [yg l i 2 (by decide)]at i2
 have i3:=zL l τ hlen i (by omega) (.i true (nm.map S)) d false 3 []
 rw [yg l i 3 (by decide)]at i3
 have e1:w64 ((i:Int)+1)=((i+1:Nat):Int):=by rw [qp]<;>omega
 have e3:w64 (((i+1:Nat):Int) - 1)=(i:Int):=by rw [qp]<;>omega
 have tk: ∀ x:Tm,(x.kids.map oT).take x.kids.length=x.kids.map oT:=fun x=>List.take_of_length_le (by simp)
 have m40:=xp l τ hlen i (by omega) nm d false [40] (by decide)
 have m91:=xp l τ hlen i (by omega) nm d false [91] (by decide)
 have y40:=xD l τ hlen i (by omega) nm d [40] (by decide)
 have y91:=xD l τ hlen i (by omega) nm d [91] (by decide)
 rw [decide_eq_true hk]at i1
 rw [qv t]at hA
 rw [qK Ju rfl,qv t]
 simp only [go_sem,qa,qb,qc,qd,qe,qf,reduceCtorEq,jG,qC,List.length_map,e1,e3,i1,i2,i3,tk,Bool.not_false,Bool.true_and,hA]
theorem qfB(l:List Sg) (τ:Bool) (hg:GoodL l) (i:Nat) (hi:i≤l.length) (nm:List Str) (d:Nat) (most:Int) (hm:isM l i [40]=true) (t:Tm) (a1:Nat) (nm1:List Str) (d1:Int) (b1:Bool)
 (hA:cw qg Y5 [.b (.a [.i τ (l.map Sg.v),I ((i+1:Nat):Int),B false,I (d),.o 1 (List.map S nm)])]=some (oT t,[.b (.a [.i τ (l.map Sg.v),I a1,B b1,I (d1),.o 1 (List.map S nm1)])])):
 cw qg jL [.b (.a [.i τ (l.map Sg.v),I i,B false,I (d),.o 1 (List.map S nm)]),I most]=some (.t [oT t,I 0],[.b (.a [.i τ (l.map Sg.v),I a1,B b1,I (d1),.o 1 (List.map S nm1)]),I most]):=by
 have hlen:=hg.len
 have i1:=zL l τ hlen i (by omega) (.i true (nm.map S)) d false 1 []
 rw [yg l i 1 (by decide)]at i1
 have i2:=zL l τ hlen i (by omega) (.i true (nm.map S)) d false 2 []
 rw [yg l i 2 (by decide)]at i2
 have i3:=zL l τ hlen i (by omega) (.i true (nm.map S)) d false 3 []
 rw [yg l i 3 (by decide)]at i3
 have e1:w64 ((i:Int)+1)=((i+1:Nat):Int):=by rw [qp]<;>omega
 have e3:w64 (((i+1:Nat):Int) - 1)=(i:Int):=by rw [qp]<;>omega
 have tk: ∀ x:Tm,(x.kids.map oT).take x.kids.length=x.kids.map oT:=fun x=>List.take_of_length_le (by simp)
 have m40:=xp l τ hlen i (by omega) nm d false [40] (by decide)
 have m91:=xp l τ hlen i (by omega) nm d false [91] (by decide)
 have y40:=xD l τ hlen i (by omega) nm d [40] (by decide)
 have y91:=xD l τ hlen i (by omega) nm d [91] (by decide)
 have hk:decide ((sgD l i).kind=1)=false:=by rw [(yh hm).2.1];rfl
 rw [hk]at i1
 have mk:=y40 hm
 rw [qv t]at hA
 rw [qK Ju rfl,qv t]
 simp only [go_sem,qa,qb,qc,qd,qe,qf,reduceCtorEq,jG,qC,List.length_map,e1,e3,i1,i2,i3,tk,Bool.not_false,Bool.true_and,hA,mk]
theorem qoK(l:List Sg) (τ:Bool) (hg:GoodL l) (i:Nat) (hi:i≤l.length) (nm:List Str) (d:Nat) (most:Int) (hm:isM l i [91]=true) (t:Tm) (a1:Nat) (nm1:List Str) (d1:Int) (b1:Bool)
 (hA:cw qg qaH [.b (.a [.i τ (l.map Sg.v),I ((i+1:Nat):Int),B false,I (d),.o 1 (List.map S nm)])]=some (oT t,[.b (.a [.i τ (l.map Sg.v),I a1,B b1,I (d1),.o 1 (List.map S nm1)])])):
 cw qg jL [.b (.a [.i τ (l.map Sg.v),I i,B false,I (d),.o 1 (List.map S nm)]),I most]=some (.t [oT t,I 0],[.b (.a [.i τ (l.map Sg.v),I a1,B b1,I (d1),.o 1 (List.map S nm1)]),I most]):=by
 have hlen:=hg.len
 have i1:=zL l τ hlen i (by omega) (.i true (nm.map S)) d false 1 []
 rw [yg l i 1 (by decide)]at i1
 have i2:=zL l τ hlen i (by omega) (.i true (nm.map S)) d false 2 []
 rw [yg l i 2 (by decide)]at i2
 have i3:=zL l τ hlen i (by omega) (.i true (nm.map S)) d false 3 []
 rw [yg l i 3 (by decide)]at i3
 have e1:w64 ((i:Int)+1)=((i+1:Nat):Int):=by rw [qp]<;>omega
 have e3:w64 (((i+1:Nat):Int) - 1)=(i:Int):=by rw [qp]<;>omega
 have tk: ∀ x:Tm,(x.kids.map oT).take x.kids.length=x.kids.map oT:=fun x=>List.take_of_length_le (by simp)
 have m40:=xp l τ hlen i (by omega) nm d false [40] (by decide)
 have m91:=xp l τ hlen i (by omega) nm d false [91] (by decide)
 have y40:=xD l τ hlen i (by omega) nm d [40] (by decide)
 have y91:=xD l τ hlen i (by omega) nm d [91] (by decide)
 have hk:decide ((sgD l i).kind=1)=false:=by rw [(yh hm).2.1];rfl
 rw [hk]at i1
 have mk0:=m40 (by rw [qbR l i [91] [40] hm (by decide)];rfl)
 have mk:=y91 hm
 rw [qv t]at hA
 rw [qK Ju rfl,qv t]
 simp only [go_sem,qa,qb,qc,qd,qe,qf,reduceCtorEq,jG,qC,List.length_map,e1,e3,i1,i2,i3,tk,Bool.not_false,Bool.true_and,hA,mk0,mk]
theorem qzY(l:List Sg) (τ:Bool) (hg:GoodL l) (i:Nat) (hi:i≤l.length) (nm:List Str) (d:Nat) (most:Int) (hk:(sgD l i).kind=3):
 cw qg jL [.b (.a [.i τ (l.map Sg.v),I i,B false,I (d),.o 1 (List.map S nm)]),I most]=some (.t [oT (.mk 3 [] (sgD l i).num []),I 0],[.b (.a [.i τ (l.map Sg.v),I ((i+1:Nat):Int),B false,I (d),.o 1 (List.map S nm)]),I most]):=by
 have hlen:=hg.len
 have i1:=zL l τ hlen i (by omega) (.i true (nm.map S)) d false 1 []
 rw [yg l i 1 (by decide)]at i1
 have i2:=zL l τ hlen i (by omega) (.i true (nm.map S)) d false 2 []
 rw [yg l i 2 (by decide)]at i2
 have i3:=zL l τ hlen i (by omega) (.i true (nm.map S)) d false 3 []
 rw [yg l i 3 (by decide)]at i3
 have e1:w64 ((i:Int)+1)=((i+1:Nat):Int):=by rw [qp]<;>omega
 have e3:w64 (((i+1:Nat):Int) - 1)=(i:Int):=by rw [qp]<;>omega
 have tk: ∀ x:Tm,(x.kids.map oT).take x.kids.length=x.kids.map oT:=fun x=>List.take_of_length_le (by simp)
 have m40:=xp l τ hlen i (by omega) nm d false [40] (by decide)
 have m91:=xp l τ hlen i (by omega) nm d false [91] (by decide)
 have y40:=xD l τ hlen i (by omega) nm d [40] (by decide)
 have y91:=xD l τ hlen i (by omega) nm d [91] (by decide)
 have k1:decide ((sgD l i).kind=1)=false:=by rw [hk];rfl
 rw [k1]at i1
 rw [decide_eq_true hk]at i3
 have mk0:=m40 (by unfold isM;rw [hk];rfl)
 have mk:=m91 (by unfold isM;rw [hk];rfl)
 have g0:=yb (f:=Sg.v) (xB (l:=l) (i:=i) (yS (by rw [hk];decide)))
 have a0:=fun T=>zy (τ:=τ) (T:=T) (e:=5) g0 rfl
 rw [Sg.v]at g0
 have nk:=qfx (sgD l i).num
 rw [za]at nk
 rw [qK Ju rfl,za]
 simp only [go_sem,qa,qb,qc,qd,qe,qf,reduceCtorEq,jG,qC,List.length_map,e1,e3,i1,i2,i3,tk,Bool.not_false,Bool.true_and,nk,mk0,mk,g0,a0]
theorem qzZ(l:List Sg) (τ:Bool) (hg:GoodL l) (i:Nat) (hi:i≤l.length) (nm:List Str) (d:Nat) (most:Int) (hk:(sgD l i).kind=2) (hn:nm.length≤2^30):
 cw qg jL [.b (.a [.i τ (l.map Sg.v),I i,B false,I (d),.o 1 (List.map S nm)]),I most]=some (.t [oT (QW nm (sgD l i).text).1,I 0],[.b (.a [.i τ (l.map Sg.v),I ((i+1:Nat):Int),B false,I (d),.o 1 (List.map S ((QW nm (sgD l i).text).2))]),I most]):=by
 have hlen:=hg.len
 have i1:=zL l τ hlen i (by omega) (.i true (nm.map S)) d false 1 []
 rw [yg l i 1 (by decide)]at i1
 have i2:=zL l τ hlen i (by omega) (.i true (nm.map S)) d false 2 []
 rw [yg l i 2 (by decide)]at i2
 have i3:=zL l τ hlen i (by omega) (.i true (nm.map S)) d false 3 []
 rw [yg l i 3 (by decide)]at i3
 have e1:w64 ((i:Int)+1)=((i+1:Nat):Int):=by rw [qp]<;>omega
 have e3:w64 (((i+1:Nat):Int) - 1)=(i:Int):=by rw [qp]<;>omega
 have tk: ∀ x:Tm,(x.kids.map oT).take x.kids.length=x.kids.map oT:=fun x=>List.take_of_length_le (by simp)
 have m40:=xp l τ hlen i (by omega) nm d false [40] (by decide)
 have m91:=xp l τ hlen i (by omega) nm d false [91] (by decide)
 have y40:=xD l τ hlen i (by omega) nm d [40] (by decide)
 have y91:=xD l τ hlen i (by omega) nm d [91] (by decide)
 have k1:decide ((sgD l i).kind=1)=false:=by rw [hk];rfl
 have k3:decide ((sgD l i).kind=3)=false:=by rw [hk];rfl
 rw [k1]at i1
 rw [k3]at i3
 rw [decide_eq_true hk]at i2
 have mk0:=m40 (by unfold isM;rw [hk];rfl)
 have mk:=m91 (by unfold isM;rw [hk];rfl)
 have g0:=yb (f:=Sg.v) (xB (l:=l) (i:=i) (yS (by rw [hk];decide)))
 have a0:=fun T=>zy (τ:=τ) (T:=T) (e:=5) g0 rfl
 rw [Sg.v]at g0
 have nk:=qzS l τ ((i+1:Nat):Int) nm hn d false (sgD l i).text
 rw [qv]at nk
 rw [qK Ju rfl,qv]
 simp only [go_sem,qa,qb,qc,qd,qe,qf,reduceCtorEq,jG,qC,List.length_map,e1,e3,i1,i2,i3,tk,Bool.not_false,Bool.true_and,nk,mk0,mk,g0,a0]
theorem qzX(l:List Sg) (τ:Bool) (hg:GoodL l) (i:Nat) (hi:i≤l.length) (nm:List Str) (d:Nat) (most:Int) (k1:(sgD l i).kind ≠ 1) (k2:(sgD l i).kind ≠ 2) (k3:(sgD l i).kind ≠ 3) (n40:isM l i [40]=false) (n91:isM l i [91]=false):
 cw qg jL [.b (.a [.i τ (l.map Sg.v),I i,B false,I (d),.o 1 (List.map S nm)]),I most]=some (.t [oT (.mk 0 [] 0 []),I 0],[.b (.a [.i τ (l.map Sg.v),I i,B true,I (d),.o 1 (List.map S nm)]),I most]):=by
 have hlen:=hg.len
 have i1:=zL l τ hlen i (by omega) (.i true (nm.map S)) d false 1 []
 rw [yg l i 1 (by decide)]at i1
 have i2:=zL l τ hlen i (by omega) (.i true (nm.map S)) d false 2 []
 rw [yg l i 2 (by decide)]at i2
 have i3:=zL l τ hlen i (by omega) (.i true (nm.map S)) d false 3 []
 rw [yg l i 3 (by decide)]at i3
 have e1:w64 ((i:Int)+1)=((i+1:Nat):Int):=by rw [qp]<;>omega
 have e3:w64 (((i+1:Nat):Int) - 1)=(i:Int):=by rw [qp]<;>omega
 have tk: ∀ x:Tm,(x.kids.map oT).take x.kids.length=x.kids.map oT:=fun x=>List.take_of_length_le (by simp)
 have m40:=xp l τ hlen i (by omega) nm d false [40] (by decide)
 have m91:=xp l τ hlen i (by omega) nm d false [91] (by decide)
 have y40:=xD l τ hlen i (by omega) nm d [40] (by decide)
 have y91:=xD l τ hlen i (by omega) nm d [91] (by decide)
 rw [decide_eq_false k1]at i1
 rw [decide_eq_false k2]at i2
 rw [decide_eq_false k3]at i3
 have mk0:=m40 (by rw [n40];rfl)
 have mk:=m91 (by rw [n91];rfl)
 rw [qK Ju rfl,za]
 simp only [go_sem,qa,qb,qc,qd,qe,qf,reduceCtorEq,jG,qC,List.length_map,e1,e3,i1,i2,i3,tk,Bool.not_false,Bool.true_and,mk0,mk]
theorem qpN(l:List Sg) (τ:Bool) (hg:GoodL l) (n:Nat) (hn20:n≤2^20) (hT:ST l τ n) (hS: ∀ m,m+1=n→SS l τ m) (hR: ∀ m,m+1=n→SR l τ m):SP l τ (n+1):=by
 intro i nm d most hn hi hnm hd
 have hlen:=hg.len
 have pa: ∀ i nm d,∀ m,n=m+1→pA l n i nm d=pC l m i nm d []:=fun i nm d m h=>by
  subst h
  simp only [pA,pC]
  cases pT l m i nm d 999<;>rfl
 simp only [pP]
 by_cases c1:(sgD l i).kind=1∧(sgD l i).near=true
 ·have h40:=hg.near i c1.2
  have hlt:=(yh h40).1
  obtain ⟨m,rfl⟩: ∃ m,n=m+1:=⟨n - 1,by omega⟩
  obtain ⟨a1,a2⟩:=hS m rfl (i+2) nm d (sgD l i).text [] (by omega) (by omega) (by omega) (by simp) hd
  rw [if_pos c1,pa (i+2) nm d m rfl]
  have done: ∀ (ks:List Tm) (a:Nat) (nm':List Str) (d':Int) (b:Bool) (st:St),EXs l τ (sgD l i).text a nm' d' b ks st→lw qg xX ⟨[(0,.p (0,0) 0 0),(4,.p (100000,0) 0 0),(5,.p (100000,1) 0 0)],[((0,0),5,[.a [.i τ (l.map Sg.v),I ((i+2:Nat):Int),B false,I (d),.o 1 (List.map S nm)]]),((100000,0),4,[.a [I 0,S [],I 0,.s (100000,2) 0 0]]),((100000,1),4,[.a [I (Tm.kind (Tm.mk 4 (sgD l i).text 0 [])),S (Tm.name (Tm.mk 4 (sgD l i).text 0 [])),I (Tm.num (Tm.mk 4 (sgD l i).text 0 [])),.s (100000,3) 0 (Tm.kids (Tm.mk 4 (sgD l i).text 0 [])).length]]),((100000,2),4,[]),((100000,3),4,(Tm.kids (Tm.mk 4 (sgD l i).text 0 [])).map oT)]⟩=some (.exit 0,st)→
   cw qg jL [.b (.a [.i τ (l.map Sg.v),I i,B false,I (d),.o 1 (List.map S nm)]),I most]=some (.t [oT (.mk 4 (sgD l i).text 0 ks),I 0],[.b (.a [.i τ (l.map Sg.v),I a,B b,I (d'),.o 1 (List.map S nm')]),I most]):=fun ks a nm' d' b st he hl=>
   qoJ l τ hg i hi nm d most c1.1 _ _ _ _ _ _ (qzj l τ hg i hi nm d most c1.1 c1.2 _ a nm' d' b (qzz l τ (i+2) nm d (sgD l i).text a nm' d' b ks st he hl))
  cases hp:pC l m (i+2) nm d []with
  |none=>
   refine ⟨fun t q i' nm' h=>by simp at h,fun _=> ?_⟩
   obtain ⟨ks,a,nm',d',st,ha,he,hl⟩:=a2 (fun ks i' nm' h=>by rw [hp]at h;cases h)
   exact ⟨_,_,_,⟨a,nm',d',by omega,rfl⟩,done ks a nm' d' true st he hl⟩
  |some r=>
   obtain ⟨ks,i1,nm1⟩:=r
   simp only
   by_cases hm:isM l i1 [41]=true∧ks.length≤5
   ·rw [if_pos hm]
    refine ⟨fun t q i' nm' h=> ?_,fun h=>by simp at h⟩
    simp only [Option.some.injEq,Prod.mk.injEq]at h
    obtain ⟨rfl,rfl,rfl,rfl⟩:=h
    obtain ⟨st,he,hl⟩:=a1 ks i1 nm1 hp hm.1 hm.2
    exact done ks (i1+1) nm1 d false st he hl
   ·rw [if_neg hm]
    refine ⟨fun t q i' nm' h=>by simp at h,fun _=> ?_⟩
    obtain ⟨ks',a,nm',d',st,ha,he,hl⟩:=a2 (fun ks' i' nm' h=>by
     rw [hp]at h
     simp only [Option.some.injEq,Prod.mk.injEq]at h
     obtain ⟨rfl,rfl,rfl⟩:=h
     exact hm)
    exact ⟨_,_,_,⟨a,nm',d',by omega,rfl⟩,done ks' a nm' d' true st he hl⟩
 rw [if_neg c1]
 by_cases c2:isM l i [40]=true
 ·have hlt:=(yh c2).1
  rw [if_pos c2]
  by_cases c3:(sgD l (i+1)).kind=1∧isM l (i+2) [41]=true
  ·rw [if_pos c3]
   refine ⟨fun t q i' nm' h=> ?_,fun h=>by simp at h⟩
   simp only [Option.some.injEq,Prod.mk.injEq]at h
   obtain ⟨rfl,rfl,rfl,rfl⟩:=h
   exact qfB l τ hg i hi nm d most c2 _ _ _ _ _ (qyx l τ hg (i+1) nm d c3.1 c3.2)
  ·rw [if_neg c3]
   obtain ⟨t1,t2⟩:=hT (i+1) nm d 1200 (by omega) (by omega) (by omega) hd
   cases hp:pT l n (i+1) nm d 1200 with
   |none=>
    refine ⟨fun t q i' nm' h=>by simp at h,fun _=> ?_⟩
    obtain ⟨g,cs,⟨a,nm1,d1,ha,rfl⟩,hc⟩:=t2 hp
    have:=(qoc l τ hg (i+1) (by omega) nm d c3 g a (by omega) nm1 d1 true hc).2 rfl
    exact ⟨_,_,_,⟨a,nm1,d1,by omega,rfl⟩,qfB l τ hg i hi nm d most c2 _ _ _ _ _ this⟩
   |some r=>
    obtain ⟨g,i1,nm1⟩:=r
    have adv:=(jY l n).1 _ _ _ _ _ _ _ hp
    obtain ⟨r1,r2⟩:=qoc l τ hg (i+1) (by omega) nm d c3 g i1 (by omega) nm1 d false (t1 _ _ _ hp)
    simp only
    by_cases hm:isM l i1 [41]=true
    ·rw [if_pos hm]
     refine ⟨fun t q i' nm' h=> ?_,fun h=>by simp at h⟩
     simp only [Option.some.injEq,Prod.mk.injEq]at h
     obtain ⟨rfl,rfl,rfl,rfl⟩:=h
     exact qfB l τ hg i hi nm d most c2 _ _ _ _ _ (r1 rfl hm)
    ·rw [if_neg hm]
     have hb:isM l i1 [41]=false:=by cases h:isM l i1 [41];rfl;exact absurd h hm
     exact ⟨fun t q i' nm' h=>by simp at h,fun _=>⟨_,_,_,⟨i1,nm1,d,by omega,rfl⟩,qfB l τ hg i hi nm d most c2 _ _ _ _ _ (r2 (by rw [hb];rfl))⟩⟩
 rw [if_neg c2]
 have n40:isM l i [40]=false:=by cases h:isM l i [40];rfl;exact absurd h c2
 by_cases c4:isM l i [91]=true
 ·have hlt:=(yh c4).1
  rw [if_pos c4]
  by_cases c5:isM l (i+1) [93]=true
  ·rw [if_pos c5]
   refine ⟨fun t q i' nm' h=> ?_,fun h=>by simp at h⟩
   simp only [Option.some.injEq,Prod.mk.injEq]at h
   obtain ⟨rfl,rfl,rfl,rfl⟩:=h
   exact qoK l τ hg i hi nm d most c4 xy (i+2) nm d false (qyC l τ hg (i+1) (by omega) nm d c5)
  rw [if_neg c5]
  have n93:isM l (i+1) [93]=false:=by cases h:isM l (i+1) [93];rfl;exact absurd h c5
  obtain ⟨m,hm1⟩: ∃ m,n=m+1:=⟨n - 1,by omega⟩
  obtain ⟨a1,a2⟩:=hR m hm1.symm (i+1) nm d [] (by omega) (by omega) (by omega) (by simp) hd
  rw [pa (i+1) nm d m hm1]
  have done:=fun (ks:List Tm) (hk:ks.length≤2^30) (out:Tm) (a:Nat) (nm':List Str) (d':Int) (b:Bool) (st:St) (he:EXr l τ a nm' d' b ks out st) hl=>
   qoK l τ hg i hi nm d most c4 (xm ks out) a nm' d' b (qyA l τ hg (i+1) (by omega) nm d n93 a nm' d' b ks hk out st he hl)
  cases hp:pC l m (i+1) nm d []with
  |none=>
   refine ⟨fun t q i' nm' h=>by simp at h,fun _=> ?_⟩
   obtain ⟨ks,a,nm',d',st,ha,hkl,he,hl⟩:=a1 hp
   exact ⟨_,_,_,⟨a,nm',d',by omega,rfl⟩,done ks (by omega) xy a nm' d' true st he hl⟩
  |some r=>
   obtain ⟨ks,i1,nm1⟩:=r
   obtain ⟨j1,j2,j3,j4⟩:=a2 ks i1 nm1 hp
   have hpa:pA l n (i+1) nm d=some (ks,i1,nm1):=by rw [pa (i+1) nm d m hm1,hp]
   have adv:=(jY l n).2.2.2.1 _ _ _ _ _ _ hpa
   have nl:=(Zx l n).2.2.2.1 _ _ _ _ _ _ hpa
   simp only
   cases hb:isM l i1 [124]with
   |true=>
    have hlt1:=(yh hb).1
    rw [if_pos rfl]
    obtain ⟨t1,t2⟩:=hT (i1+1) nm1 d 999 (by omega) (by omega) (by omega) hd
    cases hp2:pT l n (i1+1) nm1 d 999 with
    |none=>
     refine ⟨fun t q i' nm' h=>by simp at h,fun _=> ?_⟩
     obtain ⟨g,cs,⟨a,nm2,d1,ha,rfl⟩,hc2⟩:=t2 hp2
     obtain ⟨st,he,hl⟩:=j3 hb g a nm2 d1 true a true hc2 (JJ l τ hlen a (by omega) nm2 d1 true [93] (by decide) rfl)
     exact ⟨_,_,_,⟨a,nm2,d1,by omega,rfl⟩,done ks (by omega) g a nm2 d1 true st he hl⟩
    |some r2=>
     obtain ⟨r,i2,nm2⟩:=r2
     have adv2:=(jY l n).1 _ _ _ _ _ _ _ hp2
     simp only
     by_cases hm:isM l i2 [93]=true
     ·rw [if_pos hm]
      refine ⟨fun t q i' nm' h=> ?_,fun h=>by simp at h⟩
      simp only [Option.some.injEq,Prod.mk.injEq]at h
      obtain ⟨rfl,rfl,rfl,rfl⟩:=h
      obtain ⟨st,he,hl⟩:=j3 hb r i2 nm2 d false (i2+1) false (t1 _ _ _ hp2) (qfy l τ hlen i2 (by omega) nm2 d [93] (by decide) hm)
      exact done ks (by omega) r (i2+1) nm2 d false st he hl
     ·rw [if_neg hm]
      have hf:isM l i2 [93]=false:=by cases h:isM l i2 [93];rfl;exact absurd h hm
      obtain ⟨st,he,hl⟩:=j3 hb r i2 nm2 d false i2 true (t1 _ _ _ hp2) (JJ l τ hlen i2 (by omega) nm2 d false [93] (by decide) (by rw [hf];rfl))
      exact ⟨fun t q i' nm' h=>by simp at h,fun _=>⟨_,_,_,⟨i2,nm2,d,by omega,rfl⟩,done ks (by omega) r i2 nm2 d true st he hl⟩⟩
   |false=>
    rw [if_neg (by decide)]
    by_cases hm:isM l i1 [93]=true
    ·rw [if_pos hm]
     refine ⟨fun t q i' nm' h=> ?_,fun h=>by simp at h⟩
     simp only [Option.some.injEq,Prod.mk.injEq]at h
     obtain ⟨rfl,rfl,rfl,rfl⟩:=h
     obtain ⟨st,he,hl⟩:=j2 hm
     exact done ks (by omega) xy (i1+1) nm1 d false st he hl
    ·rw [if_neg hm]
     have hf:isM l i1 [93]=false:=by cases h:isM l i1 [93];rfl;exact absurd h hm
     obtain ⟨st,he,hl⟩:=j4 hf hb
     exact ⟨fun t q i' nm' h=>by simp at h,fun _=>⟨_,_,_,⟨i1,nm1,d,by omega,rfl⟩,done ks (by omega) xy i1 nm1 d true st he hl⟩⟩
 rw [if_neg c4]
 have n91:isM l i [91]=false:=by cases h:isM l i [91];rfl;exact absurd h c4
 by_cases c6:(sgD l i).kind=3
 ·rw [if_pos c6]
  refine ⟨fun t q i' nm' h=> ?_,fun h=>by simp at h⟩
  simp only [Option.some.injEq,Prod.mk.injEq]at h
  obtain ⟨rfl,rfl,rfl,rfl⟩:=h
  exact qzY l τ hg i hi nm d most c6
 rw [if_neg c6]
 by_cases c7:(sgD l i).kind=2
 ·rw [if_pos c7]
  refine ⟨fun t q i' nm' h=> ?_,fun h=>by simp at h⟩
  simp only [Option.some.injEq,Prod.mk.injEq]at h
  obtain ⟨rfl,rfl,rfl,rfl⟩:=h
  exact qzZ l τ hg i hi nm d most c7 (by omega)
 rw [if_neg c7]
 by_cases k1:(sgD l i).kind=1
 ·have hnr:(sgD l i).near=false:=by
   cases h:(sgD l i).near with
   |true=>exact absurd ⟨k1,h⟩ c1
   |false=>rfl
  have wrap:=fun (t:Tm) (q:Int) (a:Nat) (nm':List Str) (d':Int) (b:Bool) h=>qoJ l τ hg i hi nm d most k1 t q a nm' d' b h
  by_cases c8:(sgD l i).kind=1∧(sgD l i).text=[45]∧(sgD l (i+1)).kind=3∧(sgD l (i+1)).at_=(sgD l i).at_+1
  ·rw [if_pos c8]
   refine ⟨fun t q i' nm' h=> ?_,fun h=>by simp at h⟩
   simp only [Option.some.injEq,Prod.mk.injEq]at h
   obtain ⟨rfl,rfl,rfl,rfl⟩:=h
   exact wrap _ _ _ _ _ _ (qzk l τ hg i hi nm d most k1 hnr c8.2.1 (by unfold jp;rw [decide_eq_true c8.2.2.1,decide_eq_true c8.2.2.2];rfl))
  rw [if_neg c8]
  have hneg:(decide ((sgD l i).text=[45])&&jp l i)=false:=by
   cases h:(decide ((sgD l i).text=[45])&&jp l i)with
   |false=>rfl
   |true=>
    unfold jp at h
    simp only [Bool.and_eq_true,decide_eq_true_eq]at h
    exact absurd ⟨k1,h.1,h.2.1,h.2.2⟩ c8
  have hlt:i < l.length:=yS (by rw [k1];decide)
  by_cases hp0:(zH (sgD l i).text).prio=0
  ·rw [if_neg fun h=>h.2.1 hp0]
   by_cases hq0:(qD (sgD l i).text).prio=0
   ·rw [if_pos ⟨k1,hp0,hq0⟩]
    refine ⟨fun t q i' nm' h=> ?_,fun h=>by simp at h⟩
    simp only [Option.some.injEq,Prod.mk.injEq]at h
    obtain ⟨rfl,rfl,rfl,rfl⟩:=h
    exact wrap _ _ _ _ _ _ (qzg l τ hg i hi nm d most k1 hnr hneg hp0 hq0)
   ·rw [if_neg fun h=>hq0 h.2.2]
    exact ⟨fun t q i' nm' h=>by simp at h,fun _=>⟨_,_,_,⟨i,nm,d,by omega,rfl⟩,wrap _ _ _ _ _ _ (qzi l τ hg i hi nm d most k1 hnr hneg hp0 hq0)⟩⟩
  ·by_cases hm:(zH (sgD l i).text).prio≤most
   ·rw [if_pos ⟨k1,hp0,hm⟩]
    obtain ⟨t1,t2⟩:=hT (i+1) nm d (zH (sgD l i).text).right (by omega) (by omega) (by omega) hd
    cases hp:pT l n (i+1) nm d (zH (sgD l i).text).right with
    |none=>
     refine ⟨fun t q i' nm' h=>by simp at h,fun _=> ?_⟩
     obtain ⟨g,cs,⟨a,nm1,d1,ha,rfl⟩,hc⟩:=t2 hp
     exact ⟨_,_,_,⟨a,nm1,d1,by omega,rfl⟩,wrap _ _ _ _ _ _ (qoo l τ hg i hi nm d most k1 hnr hneg hp0 hm g a nm1 d1 true hc)⟩
    |some r=>
     obtain ⟨x,i1,nm1⟩:=r
     refine ⟨fun t q i' nm' h=> ?_,fun h=>by simp at h⟩
     simp only [Option.some.injEq,Prod.mk.injEq]at h
     obtain ⟨rfl,rfl,rfl,rfl⟩:=h
     exact wrap _ _ _ _ _ _ (qoo l τ hg i hi nm d most k1 hnr hneg hp0 hm x i1 nm1 d false (t1 _ _ _ hp))
   ·rw [if_neg fun h=>hm h.2.2,if_neg fun h=>hp0 h.2.1]
    exact ⟨fun t q i' nm' h=>by simp at h,fun _=>⟨_,_,_,⟨i,nm,d,by omega,rfl⟩,wrap _ _ _ _ _ _ (qzh l τ hg i hi nm d most k1 hnr hneg hp0 hm)⟩⟩
 ·rw [if_neg fun h=>k1 h.1,if_neg fun h=>k1 h.1,if_neg fun h=>k1 h.1]
  exact ⟨fun t q i' nm' h=>by simp at h,fun _=>⟨_,_,_,⟨i,nm,d,by omega,rfl⟩,qzX l τ hg i hi nm d most k1 c7 c6 n40 n91⟩⟩
theorem qjX(l:List Sg) (τ:Bool) (hg:GoodL l): ∀ n:Nat,n≤2^20→ST l τ n∧SL l τ n∧SP l τ n∧(∀ m,m+1=n→SS l τ m)∧(∀ m,m+1=n→SR l τ m)
 |0,_=>⟨fun i nm d most h=>by omega,fun i nm d most t q h=>by omega,fun i nm d most h=>by omega,fun m h=>by omega,fun m h=>by omega⟩
 |n+1,hn=>by
  obtain ⟨hT,hL,hP,hS,hR⟩:=qjX l τ hg n (by omega)
  refine ⟨qpQ l τ n hP hL,qpM l τ hg n hT hL,qpN l τ hg n (by omega) hT hS hR,fun m h=> ?_,fun m h=> ?_⟩
  ·obtain rfl:m=n:=by omega
   exact qpP l τ hg m (by omega) hT hS
  ·obtain rfl:m=n:=by omega
   exact qpO l τ hg m (by omega) hT hR
theorem qzR(l:List Sg) (τ:Bool) (hg:GoodL l) (i:Nat) (hi:i≤l.length):
 (∀ t i' nm',pT l 20000 i [] 0 1200=some (t,i',nm')→cw qg z6 [.b (.a [.i τ (l.map Sg.v),I i,B false,I ((0:Nat)),.o 1 (List.map S [])]),I 1200]=some (oT t,[.b (.a [.i τ (l.map Sg.v),I i',B false,I ((0:Nat)),.o 1 (List.map S nm')]),I 1200]))∧
 (pT l 20000 i [] 0 1200=none→ ∃ g cs,qfO l τ (2^20) cs∧cw qg z6 [.b (.a [.i τ (l.map Sg.v),I i,B false,I ((0:Nat)),.o 1 (List.map S [])]),I 1200]=some (oT g,[.b (.a cs),I 1200])):=by
 have hlen:=hg.len
 obtain ⟨h1,h2⟩:=(qjX l τ hg 20000 (by omega)).1 i [] 0 1200 (by omega) hi (by simp) (by omega)
 refine ⟨h1,fun h=> ?_⟩
 obtain ⟨g,cs,⟨a,nm,d,ha,rfl⟩,hc⟩:=h2 h
 exact ⟨g,_,⟨a,nm,d,by omega,rfl⟩,hc⟩
end Go.Vm
namespace Go.Vm
end Go.Vm
namespace Go.Vm
end Go.Vm
namespace Go.Vm
def bhd:List Sg→Nat→Nat
 |[],i=>i
 |x::r,i=>if x.kind=5 then i+1 else bhd r (i+1)
def jP(l:List Sg) (n:Int):Nat:=if (max n 0).toNat < l.length then bhd (l.drop (max n 0).toNat) (max n 0).toNat else l.length
def kI(l:List Sg) (n:Int):Tm × List Str × Nat × Bool:=
 if 0≤n∧n≤(l.length:Int) - 1 then
  match pT l 20000 n.toNat [] 0 1200 with
  |some (t,i',nm')=>if (sgD l i').kind=5∧zb t=true then (t,nm',i'+1,true)else (.mk 0 [] 0 [],[],jP l n,false)
  |none=>(.mk 0 [] 0 [],[],jP l n,false)
 else (.mk 0 [] 0 [],[],jP l n,false)
theorem qkr(l:List Sg) (τ:Bool) (hl:l.length≤3000): ∀ (r:List Sg) (k:Nat),l.drop k=r→k+r.length=l.length→
 lw qg KV ⟨[(0,.i τ (l.map Sg.v)),(1,I k)],[]⟩=(if ∃ x ∈ r,x.kind=5 then some (.ret,⟨[(4,I (bhd r k:Nat))],[]⟩)else some (.exit 0,⟨[(0,.i τ (l.map Sg.v))],[]⟩))
 |[],k,h,hk=>by
  have h1: ¬ (k:Int) < (l.length:Int):=by simp only [List.length_nil]at hk;omega
  rw [if_neg (by simp),qr]
  simp only [go_sem,qa,qb,qc,qd,qe,qf,reduceCtorEq,K0,List.length_map,h1]
 |x::r,k,h,hk=>by
  simp only [List.length_cons]at hk
  have hx:l[k]? =some x:=by
   have:=congrArg (fun z=>z[0]?) h
   simpa using this
  have hd:l.drop (k+1)=r:=by
   have:=congrArg (fun z=>z.drop 1) h
   simpa [List.drop_drop,Nat.add_comm]using this
  have h1:(k:Int) < (l.length:Int):=by omega
  have e1:w64 ((k:Int)+1)=((k+1:Nat):Int):=by rw [qp]<;>omega
  have e2:w64 (((k+1:Nat):Int) - 1)=(k:Int):=by rw [qp]<;>omega
  have g:=yb (f:=Sg.v) hx
  have a1:=fun T=>zy (τ:=τ) (T:=T) (e:=5) g rfl
  rw [Sg.v]at g
  by_cases h5:x.kind=5
  ·have d5:decide (x.kind=5)=true:=decide_eq_true h5
   rw [if_pos ⟨x,List.mem_cons_self,h5⟩]
   simp only [bhd,if_pos h5]
   rw [qr]
   simp only [go_sem,qa,qb,qc,qd,qe,qf,reduceCtorEq,K0,List.length_map,h1,e1,e2,g,a1,d5]
  ·have d5:decide (x.kind=5)=false:=decide_eq_false h5
   have ih:=qkr l τ hl r (k+1) hd (by omega)
   have ex:(∃ y ∈ x::r,y.kind=5)↔(∃ y ∈ r,y.kind=5):=by
    simp only [List.mem_cons,exists_eq_or_imp,h5,false_or]
   simp only [bhd,if_neg h5,ex]
   rw [← ih,qr]
   simp only [go_sem,qa,qb,qc,qd,qe,qf,reduceCtorEq,K0,List.length_map,h1,e1,e2,g,a1,d5]
theorem qks: ∀ (r:List Sg) (i:Nat),(¬ ∃ x ∈ r,x.kind=5)→bhd r i=i+r.length
 |[],i,h=>rfl
 |x::r,i,h=>by
  have h5: ¬ x.kind=5:=fun e=>h ⟨x,List.mem_cons_self,e⟩
  have:=qks r (i+1) (fun ⟨y,hy,e⟩=>h ⟨y,List.mem_cons_of_mem _ hy,e⟩)
  simp only [bhd,if_neg h5,this,List.length_cons];omega
theorem qcl(l:List Sg) (τ:Bool) (hl:l.length≤3000) (n:Int) (hn:n≤2^40):
 cr qg qgp [.i τ (l.map Sg.v),I n]=some (I (jP l n:Nat)):=by
 rw [qn qxn rfl]
 have core: ∀ k:Nat,(max n 0).toNat=k→ ∃ st,lw qg KV ⟨[(0,.i τ (l.map Sg.v)),(1,I k)],[]⟩=some st∧(st=(.ret,⟨[(4,I (jP l n:Nat))],[]⟩)∨(jP l n=l.length∧st=(.exit 0,⟨[(0,.i τ (l.map Sg.v))],[]⟩))):=by
  intro k hk
  unfold jP
  rw [hk]
  by_cases h:k < l.length
  ·have lp:=qkr l τ hl (l.drop k) k rfl (by rw [List.length_drop];omega)
   rw [if_pos h]
   by_cases hx: ∃ x ∈ l.drop k,x.kind=5
   ·rw [if_pos hx]at lp
    exact ⟨_,lp,.inl rfl⟩
   ·rw [if_neg hx]at lp
    refine ⟨_,lp,.inr ⟨?_,rfl⟩⟩
    rw [qks _ _ hx,List.length_drop];omega
  ·rw [if_neg h]
   refine ⟨_, ?_,.inr ⟨rfl,rfl⟩⟩
   have h1: ¬ (k:Int) < (l.length:Int):=by omega
   rw [qr]
   simp only [go_sem,qa,qb,qc,qd,qe,qf,reduceCtorEq,K0,List.length_map,h1]
 by_cases hn0:n < 0
 ·have hk:(max n 0).toNat=0:=by omega
  obtain ⟨st,lp,hst⟩:=core 0 hk
  simp only [Int.natCast_zero]at lp
  rcases hst with rfl|⟨hb,rfl⟩
  ·simp only [go_sem,qa,qb,qc,qd,qe,qf,reduceCtorEq,Q4,hn0,lp]
  ·simp only [go_sem,qa,qb,qc,qd,qe,qf,reduceCtorEq,Q4,hn0,lp,List.length_map,hb]
 ·obtain ⟨k,rfl⟩: ∃ k:Nat,n=k:=⟨n.toNat,by omega⟩
  obtain ⟨st,lp,hst⟩:=core k (by omega)
  rcases hst with rfl|⟨hb,rfl⟩
  ·simp only [go_sem,qa,qb,qc,qd,qe,qf,reduceCtorEq,Q4,hn0,lp]
  ·simp only [go_sem,qa,qb,qc,qd,qe,qf,reduceCtorEq,Q4,hn0,lp,List.length_map,hb]
end Go.Vm
namespace Go.Vm
theorem Z5 {k:Int} {s:Str} {n:Int} (hk:inI k) (hs:s.length≤Lm) (hn:inI n):WT (.mk k s n []):=xH hk hs hn (Nat.zero_le _) (fun t h=>by cases h)
theorem qhu:inI 0:=by unfold inI;omega
theorem qgP: ∀ (ks:List Tm) (r:Tm),(∀ t ∈ ks,WT t)→WT r→WT (xm ks r)
 |[],r,_,h=>h
 |t::ks,r,h,hr=>by
  refine xH (by unfold inI;omega) (by simp [Lm]) qhu (by simp [Lm]) fun u hu=> ?_
  simp only [List.mem_cons,List.not_mem_nil,or_false]at hu
  rcases hu with rfl|rfl
  ·exact h _ List.mem_cons_self
  ·exact qgP ks r (fun v hv=>h v (List.mem_cons_of_mem _ hv)) hr
theorem qpW {s:Str} {t y:Tm} (hs:s.length≤3000) (ht:WT t) (hy:WT y):WT (.mk 4 s 0 [t,y]):=
 xH (by unfold inI;omega) (by unfold Lm;omega) qhu (by simp [Lm]) fun u hu=>by
  simp only [List.mem_cons,List.not_mem_nil,or_false]at hu
  rcases hu with rfl|rfl<;>assumption
theorem qpX {nm:List Str} {s:Str} (h:nm.length≤2^30):WT (QW nm s).1:=by
 unfold QW
 split
 ·rename_i hm
  have:=(qlF s nm 0).1 hm.1
  exact Z5 (by unfold inI;omega) (by simp [Lm]) (by unfold inI;omega)
 ·exact Z5 (by unfold inI;omega) (by simp [Lm]) (by unfold inI;omega)
theorem qnb(l:List Sg) (hg:GoodL l): ∀ n:Nat,
 (∀ i nm d most t i' nm',nm.length≤i→i≤l.length→pT l n i nm d most=some (t,i',nm')→WT t)∧
 (∀ i nm d most t q t' i' nm',nm.length≤i→i≤l.length→WT t→pL l n i nm d most t q=some (t',i',nm')→WT t')∧
 (∀ i nm d most t q i' nm',nm.length≤i→i≤l.length→pP l n i nm d most=some (t,q,i',nm')→WT t)∧
 (∀ i nm d ks i' nm',nm.length≤i→i≤l.length→pA l n i nm d=some (ks,i',nm')→ ∀ t ∈ ks,WT t)∧
 (∀ i nm d acc ks i' nm',nm.length≤i→i≤l.length→(∀ t ∈ acc,WT t)→pB l n i nm d acc=some (ks,i',nm')→ ∀ t ∈ ks,WT t):=by
 have hlen:=hg.len
 have h0:inI 0:=qhu
 intro n
 induction n with
 |zero=>refine ⟨?_, ?_, ?_, ?_, ?_⟩<;>intros<;>simp_all [pT,pL,pP,pA,pB]
 |succ n ih=>
  obtain ⟨hT,hL,hP,hA,hB⟩:=ih
  have ad:=jY l n
  have nl:=Zx l n
  refine ⟨?_, ?_, ?_, ?_, ?_⟩
  ·intro i nm d most t i' nm' hn hi h
   simp only [pT]at h
   split at h
   ·cases h
   split at h
   ·cases h
   ·rename_i t1 q1 i1 nm1 h1
    have a:=ad.2.2.1 _ _ _ _ _ _ _ _ h1
    have b:=nl.2.2.1 _ _ _ _ _ _ _ _ h1
    exact hL _ _ _ _ _ _ _ _ _ (by omega) a.2 (hP _ _ _ _ _ _ _ _ hn hi h1) h
  ·intro i nm d most t q t' i' nm' hn hi ht h
   simp only [pL]at h
   split at h
   ·rename_i hgo
    have:=qhk hgo
    split at h
    ·cases h
    ·rename_i y i1 nm1 h1
     have a:=ad.1 _ _ _ _ _ _ _ h1
     have b:=nl.1 _ _ _ _ _ _ _ h1
     exact hL _ _ _ _ _ _ _ _ _ (by omega) a.2 (qpW (hg.text i) ht (hT _ _ _ _ _ _ _ (by omega) (by omega) h1)) h
   ·cases h;exact ht
  ·intro i nm d most t q i' nm' hn hi h
   have tx:=hg.text i
   simp only [pP]at h
   split at h
   ·rename_i hk
    have h40:=yh (hg.near i hk.2)
    split at h
    ·cases h
    ·rename_i ks i1 nm1 h1
     split at h
     ·rename_i hm
      cases h
      exact xH (by unfold inI;omega) (by unfold Lm;omega) h0 (by unfold Lm;omega) (hA _ _ _ _ _ _ (by omega) (by omega) h1)
     ·cases h
   split at h
   ·rename_i hk
    have:=yh hk
    split at h
    ·have:=hg.text (i+1)
     cases h
     exact Z5 (by unfold inI;omega) (by unfold Lm;omega) h0
    ·split at h
     ·cases h
     ·rename_i t1 i1 nm1 h1
      split at h
      ·cases h
       exact hT _ _ _ _ _ _ _ (by omega) (by omega) h1
      ·cases h
   split at h
   ·rename_i hk
    have:=yh hk
    split at h
    ·cases h
     exact Z5 (by unfold inI;omega) (by simp [Lm]) h0
    ·split at h
     ·cases h
     ·rename_i ks i1 nm1 h1
      have a:=ad.2.2.2.1 _ _ _ _ _ _ h1
      have b:=nl.2.2.2.1 _ _ _ _ _ _ h1
      have hks:=hA _ _ _ _ _ _ (by omega) (by omega) h1
      split at h
      ·rename_i hb
       have:=yh hb
       split at h
       ·cases h
       ·rename_i r i2 nm2 h2
        split at h
        ·cases h
         exact qgP _ _ hks (hT _ _ _ _ _ _ _ (by omega) (by omega) h2)
        ·cases h
      ·split at h
       ·cases h
        exact qgP _ _ hks (Z5 (by unfold inI;omega) (by simp [Lm]) h0)
       ·cases h
   split at h
   ·cases h
    have:=hg.num i
    exact Z5 (by unfold inI;omega) (by simp [Lm]) (by unfold inI;omega)
   split at h
   ·cases h
    exact qpX (by omega)
   split at h
   ·cases h
    have:=hg.num (i+1)
    exact Z5 (by unfold inI;omega) (by simp [Lm]) (by unfold inI;omega)
   split at h
   ·rename_i hk
    have hlt:i < l.length:=yS (by rw [hk.1];decide)
    split at h
    ·cases h
    ·rename_i x i1 nm1 h1
     cases h
     refine xH (by unfold inI;omega) (by unfold Lm;omega) h0 (by simp [Lm]) fun u hu=> ?_
     simp only [List.mem_cons,List.not_mem_nil,or_false]at hu
     subst hu
     exact hT _ _ _ _ _ _ _ (by omega) (by omega) h1
   split at h
   ·cases h
    exact Z5 (by unfold inI;omega) (by unfold Lm;omega) h0
   ·cases h
  ·intro i nm d ks i' nm' hn hi h
   simp only [pA]at h
   split at h
   ·cases h
   ·rename_i t i1 nm1 h1
    have a:=ad.1 _ _ _ _ _ _ _ h1
    have b:=nl.1 _ _ _ _ _ _ _ h1
    exact hB _ _ _ _ _ _ _ (by omega) a.2 (fun u hu=>by
     simp only [List.mem_cons,List.not_mem_nil,or_false]at hu
     subst hu
     exact hT _ _ _ _ _ _ _ hn hi h1) h
  ·intro i nm d acc ks i' nm' hn hi hacc h
   simp only [pB]at h
   split at h
   ·rename_i hm
    have:=yh hm
    split at h
    ·cases h
    ·rename_i t i1 nm1 h1
     have a:=ad.1 _ _ _ _ _ _ _ h1
     have b:=nl.1 _ _ _ _ _ _ _ h1
     exact hB _ _ _ _ _ _ _ (by omega) a.2 (fun u hu=>by
      rcases List.mem_append.1 hu with hu|hu
      ·exact hacc u hu
      ·simp only [List.mem_cons,List.not_mem_nil,or_false]at hu
       subst hu
       exact hT _ _ _ _ _ _ _ (by omega) (by omega) h1) h
   ·cases h;exact hacc
end Go.Vm
namespace Go.Vm
def rV(r:Tm × List Str × Nat × Bool):V:= .t [oT r.1,.o 1 (r.2.1.map S),I (r.2.2.1:Nat),B r.2.2.2]
end Go.Vm
namespace Go.Vm
theorem qzQ(l:List Sg) (τ:Bool) (hg:GoodL l) (n:Int) (hn:n≤2^40) (ho: ¬ (0≤n∧n≤(l.length:Int) - 1)):
 cr qg ZV [.i τ (l.map Sg.v),I n]=some (.t [oT (.mk 0 [] 0 []),.o 1 [],I (jP l n:Nat),B false]):=by
 have hlen:=hg.len
 have bh:=qcl l τ hlen n hn
 have e1:w64 ((l.length:Int) - 1)=(l.length:Int) - 1:=by rw [qp]<;>omega
 have wi:=Zq n 0 ((l.length:Int) - 1)
 rw [decide_eq_false ho]at wi
 rw [qn qb0 rfl,za]
 simp only [go_sem,qa,qb,qc,qd,qe,qf,reduceCtorEq,Qf,List.length_map,bh,e1,wi]
theorem qzM(l:List Sg) (τ:Bool) (hg:GoodL l) (k:Nat) (hk:k < l.length) (g:Tm) (a:Nat) (ha:a≤2^30) (nm':List Str) (d':Int)
 (hp:cw qg z6 [.b (.a [.i τ (l.map Sg.v),I k,B false,I ((0:Nat)),.o 1 (List.map S ([]:List Str))]),I 1200]=some (oT g,[.b (.a [.i τ (l.map Sg.v),I a,B true,I (d'),.o 1 (List.map S nm')]),I 1200])):
 cr qg ZV [.i τ (l.map Sg.v),I k]=some (.t [oT (.mk 0 [] 0 []),.o 1 [],I (jP l k:Nat),B false]):=by
 have hlen:=hg.len
 have bh:=qcl l τ hlen k (by omega)
 have e1:w64 ((l.length:Int) - 1)=(l.length:Int) - 1:=by rw [qp]<;>omega
 have wi:=Zq k 0 ((l.length:Int) - 1)
 rw [decide_eq_true ⟨by omega,by omega⟩]at wi
 simp only [List.map_nil,Int.natCast_zero]at hp
 have tk: ∀ x:Tm,(x.kids.map oT).take x.kids.length=x.kids.map oT:=fun x=>List.take_of_length_le (by simp)
 rw [qv]at hp
 have i5:=zL l τ hlen a (by omega) (.i true (nm'.map S)) d' true 5 []
 rw [qn qb0 rfl,za]
 simp only [go_sem,qa,qb,qc,qd,qe,qf,reduceCtorEq,Qf,List.length_map,bh,e1,wi,hp,tk,i5,Bool.not_true,Bool.false_and]
theorem qzO(l:List Sg) (τ:Bool) (hg:GoodL l) (k:Nat) (hk:k < l.length) (t:Tm) (i':Nat) (hi:i'≤l.length) (nm':List Str) (hw:WT t)
 (hp:cw qg z6 [.b (.a [.i τ (l.map Sg.v),I k,B false,I ((0:Nat)),.o 1 (List.map S ([]:List Str))]),I 1200]=some (oT t,[.b (.a [.i τ (l.map Sg.v),I i',B false,I ((0:Nat)),.o 1 (List.map S nm')]),I 1200])) (h5:(sgD l i').kind ≠ 5):
 cr qg ZV [.i τ (l.map Sg.v),I k]=some (.t [oT (.mk 0 [] 0 []),.o 1 [],I (jP l k:Nat),B false]):=by
 have hlen:=hg.len
 have bh:=qcl l τ hlen k (by omega)
 have e1:w64 ((l.length:Int) - 1)=(l.length:Int) - 1:=by rw [qp]<;>omega
 have wi:=Zq k 0 ((l.length:Int) - 1)
 rw [decide_eq_true ⟨by omega,by omega⟩]at wi
 simp only [List.map_nil,Int.natCast_zero]at hp
 have tk: ∀ x:Tm,(x.kids.map oT).take x.kids.length=x.kids.map oT:=fun x=>List.take_of_length_le (by simp)
 rw [qv]at hp
 have i5:=zL l τ hlen i' (by omega) (.i true (nm'.map S)) (0:Nat) false 5 []
 rw [yg l i' 5 (by decide)]at i5
 simp only [Int.natCast_zero]at i5
 rw [decide_eq_false h5]at i5
 rw [qn qb0 rfl,za]
 simp only [go_sem,qa,qb,qc,qd,qe,qf,reduceCtorEq,Qf,List.length_map,bh,e1,wi,hp,tk,i5,Bool.not_false,Bool.true_and]
theorem qzP(l:List Sg) (τ:Bool) (hg:GoodL l) (k:Nat) (hk:k < l.length) (t:Tm) (i':Nat) (hi:i'≤l.length) (nm':List Str) (hw:WT t)
 (hp:cw qg z6 [.b (.a [.i τ (l.map Sg.v),I k,B false,I ((0:Nat)),.o 1 (List.map S ([]:List Str))]),I 1200]=some (oT t,[.b (.a [.i τ (l.map Sg.v),I i',B false,I ((0:Nat)),.o 1 (List.map S nm')]),I 1200])) (h5:(sgD l i').kind=5) (hok:zb t=false):
 cr qg ZV [.i τ (l.map Sg.v),I k]=some (.t [oT (.mk 0 [] 0 []),.o 1 [],I (jP l k:Nat),B false]):=by
 have hlen:=hg.len
 have bh:=qcl l τ hlen k (by omega)
 have e1:w64 ((l.length:Int) - 1)=(l.length:Int) - 1:=by rw [qp]<;>omega
 have wi:=Zq k 0 ((l.length:Int) - 1)
 rw [decide_eq_true ⟨by omega,by omega⟩]at wi
 simp only [List.map_nil,Int.natCast_zero]at hp
 have tk: ∀ x:Tm,(x.kids.map oT).take x.kids.length=x.kids.map oT:=fun x=>List.take_of_length_le (by simp)
 rw [qv]at hp
 have i5:=zL l τ hlen i' (by omega) (.i true (nm'.map S)) (0:Nat) false 5 []
 rw [yg l i' 5 (by decide)]at i5
 simp only [Int.natCast_zero]at i5
 rw [decide_eq_true h5]at i5
 have ok:=k9 t hw (iT true t) (yY true t)
 rw [hok]at ok
 rw [ym]at ok
 rw [qn qb0 rfl,za]
 simp only [go_sem,qa,qb,qc,qd,qe,qf,reduceCtorEq,Qf,List.length_map,bh,e1,wi,hp,tk,i5,ok,Bool.not_false,Bool.true_and]
theorem qzN(l:List Sg) (τ:Bool) (hg:GoodL l) (k:Nat) (hk:k < l.length) (t:Tm) (i':Nat) (hi:i'≤l.length) (nm':List Str) (hw:WT t)
 (hp:cw qg z6 [.b (.a [.i τ (l.map Sg.v),I k,B false,I ((0:Nat)),.o 1 (List.map S ([]:List Str))]),I 1200]=some (oT t,[.b (.a [.i τ (l.map Sg.v),I i',B false,I ((0:Nat)),.o 1 (List.map S nm')]),I 1200])) (hn:nm'.length≤2^30) (h5:(sgD l i').kind=5) (hok:zb t=true):
 cr qg ZV [.i τ (l.map Sg.v),I k]=some (.t [oT t,.o 1 (nm'.map S),I ((i'+1:Nat):Int),B true]):=by
 have hlen:=hg.len
 have bh:=qcl l τ hlen k (by omega)
 have e1:w64 ((l.length:Int) - 1)=(l.length:Int) - 1:=by rw [qp]<;>omega
 have wi:=Zq k 0 ((l.length:Int) - 1)
 rw [decide_eq_true ⟨by omega,by omega⟩]at wi
 simp only [List.map_nil,Int.natCast_zero]at hp
 have tk: ∀ x:Tm,(x.kids.map oT).take x.kids.length=x.kids.map oT:=fun x=>List.take_of_length_le (by simp)
 rw [qv]at hp
 have i5:=zL l τ hlen i' (by omega) (.i true (nm'.map S)) (0:Nat) false 5 []
 rw [yg l i' 5 (by decide)]at i5
 simp only [Int.natCast_zero]at i5
 rw [decide_eq_true h5]at i5
 have ok:=k9 t hw (iT true t) (yY true t)
 rw [hok]at ok
 rw [ym]at ok
 have e2:w64 ((i':Int)+1)=((i'+1:Nat):Int):=by rw [qp]<;>omega
 have z1:yk (nm'.map S)=true:=qfM (f:=S) (fun _=>rfl) nm'
 have z2:kO 1 (nm'.map S)=true:=qex (f:=S) (fun _=>⟨rfl,rfl⟩) nm'
 have l1:decide (nm'.length*16≤lim)=true:=decide_eq_true (by rw [ze];omega)
 have l2:decide (nm'.length≤lim)=true:=decide_eq_true (by rw [ze];omega)
 have tk2:(nm'.map S).take nm'.length=nm'.map S:=List.take_of_length_le (by simp)
 rw [qn qb0 rfl,qv]
 simp only [go_sem,qa,qb,qc,qd,qe,qf,reduceCtorEq,Qf,List.length_map,bh,e1,wi,hp,tk,i5,ok,e2,l1,l2,z1,z2,tk2,Bool.not_false,Bool.true_and,Nat.zero_add,List.nil_append,List.length_nil]
theorem qoE(l:List Sg) (τ:Bool) (hg:GoodL l) (n:Int) (hn:n≤2^40):
 cr qg ZV [.i τ (l.map Sg.v),I n]=some (rV (kI l n)):=by
 have hlen:=hg.len
 unfold kI
 by_cases ho:0≤n∧n≤(l.length:Int) - 1
 ·rw [if_pos ho]
  obtain ⟨k,rfl⟩: ∃ k:Nat,n=k:=⟨n.toNat,by omega⟩
  have hk:k < l.length:=by omega
  obtain ⟨h1,h2⟩:=qzR l τ hg k (by omega)
  simp only [Int.toNat_natCast]
  cases hp:pT l 20000 k [] 0 1200 with
  |none=>
   obtain ⟨g,cs,⟨a,nm,d,ha,rfl⟩,hc⟩:=h2 hp
   exact qzM l τ hg k hk g a (by omega) nm d hc
  |some r=>
   obtain ⟨t,i',nm'⟩:=r
   have hc:=h1 _ _ _ hp
   have adv:=(jY l 20000).1 _ _ _ _ _ _ _ hp
   have nl:=(Zx l 20000).1 _ _ _ _ _ _ _ hp
   simp only [List.length_nil]at nl
   have hw:=(qnb l hg 20000).1 _ _ _ _ _ _ _ (by simp) (by omega) hp
   simp only
   by_cases h5:(sgD l i').kind=5
   ·cases hok:zb t with
    |true=>
     rw [if_pos ⟨h5,rfl⟩]
     exact qzN l τ hg k hk t i' adv.2 nm' hw hc (by omega) h5 hok
    |false=>
     rw [if_neg (fun h=>by cases h.2)]
     exact qzP l τ hg k hk t i' adv.2 nm' hw hc h5 hok
   ·rw [if_neg (fun h=>h5 h.1)]
    exact qzO l τ hg k hk t i' adv.2 nm' hw hc h5
 ·rw [if_neg ho]
  exact qzQ l τ hg n hn ho
end Go.Vm
namespace Go.Vm
theorem qq4:GoodL []:=⟨by simp,fun i h=>by simp [sgD,sg0]at h,fun i h=>by simp [sgD,sg0]at h,fun i=>by simp [sgD,sg0],fun i=>by simp [sgD,sg0],fun i=>by simp [sgD,sg0]⟩
def Yo(s:Str):Bool:=decide (s.length≤3000)&&(kI (xa s) 0).2.2.2&&decide ((kI (xa s) 0).2.2.1=(xa s).length)
def zR(s:Str):Tm:=if Yo s=true then (kI (xa s) 0).1 else .mk 0 [] 0 []
def qnO(s:Str):List Str:=if Yo s=true then (kI (xa s) 0).2.1 else []
theorem qyg {l:List Sg} (hg:GoodL l) (n:Int):WT (kI l n).1:=by
 have h0:WT (.mk 0 [] 0 []):=xH (by unfold inI;omega) (by simp [Lm]) (by unfold inI;omega) (by simp [Lm]) (fun u hu=>by cases hu)
 unfold kI
 split
 ·split
  ·rename_i hb _ t i' nm' hp
   split
   ·exact (qnb l hg 20000).1 _ _ _ _ _ _ _ (by simp) (by have:=hb.1;have:=hb.2;omega) hp
   ·exact h0
  ·exact h0
 ·exact h0
theorem qyh {l:List Sg} {n:Int} (h:(kI l n).2.2.2=true):zb (kI l n).1=true:=by
 revert h
 unfold kI
 split
 ·split
  ·split
   ·rename_i hk;exact fun _=>hk.2
   ·intro h;cases h
  ·intro h;cases h
 ·intro h;cases h
theorem qb6(s:Str):Dr 400 (zR s):=by
 unfold zR
 split
 ·rename_i h
  unfold Yo at h
  simp only [Bool.and_eq_true,decide_eq_true_eq]at h
  refine ⟨qyg (qlx h.1.1) 0, ?_⟩
  have:=qyh h.1.2
  unfold zb at this
  simp only [Bool.and_eq_true,decide_eq_true_eq]at this
  exact this.1
 ·exact zJ (Qk (by omega) (by simp) (by omega)) (by decide)
theorem qeu(s:Str):cr qg qay [S s]=some (.t [oT (zR s),.o 1 ((qnO s).map S),B (Yo s)]):=by
 have sg:=qoF s
 unfold XC at sg
 unfold zR qnO
 rw [qn qwT rfl]
 by_cases hl:s.length≤3000
 ·rw [if_pos hl]at sg
  have hg:=qlx hl
  have hb:=hg.len
  have rd:=qoE (xa s) true hg 0 (by decide)
  unfold rV at rd
  unfold Yo
  rw [decide_eq_true hl,Bool.true_and]
  generalize hr:kI (xa s) 0=r at rd ⊢
  obtain ⟨t,nm,i,ok⟩:=r
  have tk:(t.kids.map oT).take t.kids.length=t.kids.map oT:=List.take_of_length_le (by simp)
  have tkn:(nm.map S).take nm.length=nm.map S:=List.take_of_length_le (by simp)
  simp only at rd ⊢
  rw [qv t]at rd
  cases ok with
  |false=>
   simp only [Bool.false_and,Bool.false_eq_true,if_false,List.map_nil]
   rw [za]
   simp only [go_sem,qa,qb,qc,qd,qe,qf,reduceCtorEq,Q2,sg,rd,tk,tkn,List.length_map,Bool.not_false]
  |true=>
   by_cases he:i=(xa s).length
   ·have d1:decide ((i:Int) ≠ ((xa s).length:Int))=false:=decide_eq_false (by omega)
    simp only [Bool.true_and,decide_eq_true he,if_true]
    rw [qv t]
    simp only [go_sem,qa,qb,qc,qd,qe,qf,reduceCtorEq,Q2,sg,rd,tk,tkn,List.length_map,d1,Bool.not_true]
   ·have d1:decide ((i:Int) ≠ ((xa s).length:Int))=true:=decide_eq_true (by omega)
    simp only [Bool.true_and,decide_eq_false he,Bool.false_eq_true,if_false,List.map_nil]
    rw [za]
    simp only [go_sem,qa,qb,qc,qd,qe,qf,reduceCtorEq,Q2,sg,rd,tk,tkn,List.length_map,d1,Bool.not_true]
 ·rw [if_neg hl]at sg
  have rd:=qoE [] true qq4 0 (by decide)
  unfold rV at rd
  have e0:kI [] 0=(.mk 0 [] 0 [],[],0,false):=by
   unfold kI
   rw [if_neg (by simp)]
   rfl
  rw [e0]at rd
  unfold Yo
  simp only [decide_eq_false hl,Bool.false_and,Bool.false_eq_true,if_false]
  simp only [za,List.map_nil]at rd ⊢
  simp only [go_sem,qa,qb,qc,qd,qe,qf,reduceCtorEq,Q2,sg,rd,Bool.not_false]
end Go.Vm
namespace Go.Vm
def Yf(t:Tm):Bool:=decide (Jw t ≠ [])&& !zO (Jw t)
def Xc(c:Cl):Bool:=(zb c.head&&zb c.body)&&Yf c.head
def qbH(x:Db):Bool:=x.clauses.all Xc&&(decide (x.clauses.length≤120)&&decide (x.opn.length≤40))
theorem qhD(t:Tm) (hw:WT t) (v:V) (hb:BT t v):cr qg qdN [v]=some (B (Yf t)):=by
 have p:=qzF t hw v hb
 have k:=qzC (Jw t)
 obtain ⟨τ,vs,rfl,hv⟩:=qy hb
 rw [qn qxB rfl]
 unfold Yf
 cases hp:decide (Jw t ≠ [])with
 |false=>simp only [go_sem,qa,qb,qc,qd,qe,qf,reduceCtorEq,YX,p,hp,Bool.false_and]
 |true=>simp only [go_sem,qa,qb,qc,qd,qe,qf,reduceCtorEq,YX,p,hp,k,Bool.true_and]
theorem qva(c:Cl) (hh:WT c.head) (hbd:WT c.body) (v:V) (h:bCl c v):cr qg qgx [v]=some (B (Xc c)):=by
 obtain ⟨τ0,vs0,τ1,vs1,rfl,h0,h1⟩:=h
 have a:=k9 c.head hh _ (yH (τ:=τ0) h0)
 have b:=k9 c.body hbd _ (yH (τ:=τ1) h1)
 have d:=qhD c.head hh _ (yH (τ:=τ0) h0)
 rw [qn qxx rfl]
 unfold Xc
 cases h1:zb c.head with
 |false=>
  rw [h1]at a
  simp only [go_sem,qa,qb,qc,qd,qe,qf,reduceCtorEq,ZQ,a,Bool.false_and]
 |true=>
  rw [h1]at a
  cases h2:zb c.body with
  |false=>
   rw [h2]at b
   simp only [go_sem,qa,qb,qc,qd,qe,qf,reduceCtorEq,ZQ,a,b,Bool.false_and,Bool.true_and]
  |true=>
   rw [h2]at b
   simp only [go_sem,qa,qb,qc,qd,qe,qf,reduceCtorEq,ZQ,a,b,d,Bool.true_and]
theorem qkm {c:Cl} {v:V} (h:bCl c v):v.cells.length=9:=by
 obtain ⟨τ0,vs0,τ1,vs1,rfl,-⟩:=h;rfl
theorem qo9(τ σ:Bool) (vs:List V) (cs:List Cl) (ss:List Str) (n:Nat) (hl:cs.length=n) (hv:RL bCl cs vs) (hlim:n≤Lm)
 (hw: ∀ c ∈ cs,WT c.head∧WT c.body) (m:Nat): ∀ (i:Nat),i+m=n→
 lw qg qaR ⟨[(1,.p (100000,0) 0 0),(3,I i)],[((100000,0),2,[.a [.i τ vs,.i σ (ss.map S)]])]⟩=
  if (cs.drop i).all Xc=true then some (.exit 0,⟨[(1,.p (100000,0) 0 0)],[((100000,0),2,[.a [.i τ vs,.i σ (ss.map S)]])]⟩)else some (.ret,⟨[(2,B false)],[((100000,0),2,[.a [.i τ vs,.i σ (ss.map S)]])]⟩):=by
 have hn:vs.length=n:=by rw [zk hv,hl]
 unfold Lm at hlim
 induction m with
 |zero=>
  intro i hi
  obtain rfl:i=n:=by omega
  have h1: ¬ (i:Int) < (i:Int):=by omega
  rw [List.drop_of_length_le (by omega),List.all_nil,if_pos rfl,qr]
  simp only [go_sem,qa,qb,qc,qd,qe,qf,reduceCtorEq,qbf,hn,h1]
 |succ m ih=>
  intro i hi
  have hlt:(i:Int) < (n:Int):=by omega
  obtain ⟨c,hc⟩:=zm (l:=cs) (i:=i) (by omega)
  obtain ⟨v,gv,hbt⟩:=xZ hv hc
  obtain ⟨w1,w2⟩:=hw c (List.mem_of_getElem? hc)
  have ok:=qva c w1 w2 v hbt
  have a1:=fun T=>zy (τ:=τ) (T:=T) gv (qkm hbt)
  have e1:w64 ((i:Int)+1)=((i+1:Nat):Int):=by rw [qp]<;>omega
  have i1:=ih (i+1) (by omega)
  rw [y1 hc,List.all_cons]
  obtain ⟨τ0,vs0,τ1,vs1,rfl,-⟩:=hbt
  cases hk:Xc c with
  |true=>
   rw [hk]at ok
   simp only [Bool.true_and]
   rw [← i1,qr]
   simp only [go_sem,qa,qb,qc,qd,qe,qf,reduceCtorEq,qbf,hn,hlt,a1,gv,ok,e1]
  |false=>
   rw [hk]at ok
   simp only [Bool.false_and,Bool.false_eq_true,if_false]
   rw [qr]
   simp only [go_sem,qa,qb,qc,qd,qe,qf,reduceCtorEq,qbf,hn,hlt,a1,gv,ok,e1]
theorem qpa(x:Db) (hl:x.clauses.length≤Lm) (hw: ∀ c ∈ x.clauses,WT c.head∧WT c.body) (v:V) (h:bDb x v):cr qg qf4 [v]=some (B (qbH x)):=by
 obtain ⟨τ0,vs0,τ1,rfl,h0⟩:=h
 have lp:=qo9 τ0 τ1 vs0 x.clauses x.opn x.clauses.length rfl h0 hl hw x.clauses.length 0 (by omega)
 rw [List.drop_zero]at lp
 simp only [Int.natCast_zero]at lp
 have ln:=zk h0
 rw [qn qwG rfl]
 unfold qbH
 cases ha:x.clauses.all Xc with
 |false=>
  rw [ha]at lp
  simp only [Bool.false_eq_true,if_false]at lp
  simp only [go_sem,qa,qb,qc,qd,qe,qf,reduceCtorEq,ZG,lp,Bool.false_and]
 |true=>
  rw [ha,if_pos rfl]at lp
  by_cases h1:x.clauses.length≤120
  ·have d1:(x.clauses.length:Int)≤120:=by omega
   have d2:decide ((x.opn.length:Int)≤40)=decide (x.opn.length≤40):=by simp only [decide_eq_decide];omega
   rw [decide_eq_true h1]
   simp only [Bool.true_and]
   simp only [go_sem,qa,qb,qc,qd,qe,qf,reduceCtorEq,ZG,lp,ln,d1,d2,List.length_map]
  ·have d1: ¬ (x.clauses.length:Int)≤120:=by omega
   rw [decide_eq_false h1]
   simp only [Bool.true_and,Bool.false_and]
   simp only [go_sem,qa,qb,qc,qd,qe,qf,reduceCtorEq,ZG,lp,ln,d1,List.length_map]
def jc:Tm:= .mk 2 [116,114,117,101] 0 []
def zT:Tm:= .mk 0 [] 0 []
def zCl:Cl:=⟨zT,zT,[]⟩
def jk(t:Tm):Tm:= .mk 4 [99,97,108,108] 0 [t]
def zK(t:Tm) (file:Str):Cl:=
 if zj t [58,45] 2=true then
  match t.kids with
  |[a,b]=>⟨a,if b.kind=1 then jk b else b,file⟩
  |_=>⟨t,jc,file⟩
 else ⟨t,jc,file⟩
def Yc(t:Tm):Bool:=zb t&&(Yf (zK t []).head&&zb (zK t []).body)
def yJ(t:Tm) (file:Str):Cl:=if Yc t=true then zK t file else zCl
theorem qni(t:Tm) (f:Str):zK t f=⟨(zK t []).head,(zK t []).body,f⟩:=by
 unfold zK
 split
 ·split<;>rfl
 ·rfl
theorem qgQ:WT jc:=xH (by unfold inI;omega) (by unfold Lm;simp) (by unfold inI;omega) (by unfold Lm;simp) (fun u hu=>by cases hu)
theorem qj6:WT zT:=xH (by unfold inI;omega) (by unfold Lm;simp) (by unfold inI;omega) (by unfold Lm;simp) (fun u hu=>by cases hu)
theorem qgO {t:Tm} (h:WT t):WT (jk t):=xH (by unfold inI;omega) (by unfold Lm;simp) (by unfold inI;omega) (by unfold Lm;simp) (fun u hu=>by simp only [List.mem_singleton]at hu;subst hu;exact h)
theorem qlR {t:Tm} {s:Str} (h:zj t s 2=true):t.kind=4∧t.name=s∧ ∃ a b,t.kids=[a,b]:=by
 unfold zj at h
 simp only [Bool.and_eq_true,decide_eq_true_eq]at h
 refine ⟨h.1,h.2.1, ?_⟩
 match hk:t.kids,h.2.2 with
 |[a,b],_=>exact ⟨a,b,rfl⟩
theorem qxZ {t:Tm} (h:WT t) (f:Str):WT (zK t f).head∧WT (zK t f).body:=by
 unfold zK
 split
 ·split
  ·rename_i a b hk
   have ha:=zp h a (by rw [hk];simp)
   have hb:=zp h b (by rw [hk];simp)
   refine ⟨ha, ?_⟩
   show WT (if b.kind=1 then jk b else b)
   split
   ·exact qgO hb
   ·exact hb
  ·exact ⟨h,qgQ⟩
 ·exact ⟨h,qgQ⟩
def qid(t:Tm) (f:Str):V:=
 if Yc t=true then
  if zj t [58,45] 2=true then
   match t.kids with
   |[a,b]=>if b.kind=1 then .a [I a.kind,S a.name,I a.num,.i false (a.kids.map (iT false)),I 4,S [99,97,108,108],I 0,.o 4 [iT false b],S f]
    else .a [I a.kind,S a.name,I a.num,.i false (a.kids.map (iT false)),I b.kind,S b.name,I b.num,.i false (b.kids.map (iT false)),S f]
   |_=> .d
  else .a [I t.kind,S t.name,I t.num,.i false (t.kids.map (iT false)),I 2,S [116,114,117,101],I 0,.o 4 [],S f]
 else .a [I 0,S [],I 0,.o 4 [],I 0,S [],I 0,.o 4 [],S []]
theorem qo8(t:Tm) (hw:WT t) (f:Str):cr qg qgy [iT false t,S f]=some (.t [qid t f,B (Yc t)]):=by
 have ok:=k9 t hw (iT false t) (yY false t)
 have is:=Jn t (iT false t) (yY false t) [58,45] 2
 have at1:=Yt [116,114,117,101]
 rw [za]at at1
 rw [ym]at ok is
 rw [qn qxy rfl]
 rw [ym]
 unfold qid Yc
 cases h1:zb t with
 |false=>
  rw [h1]at ok
  simp only [Bool.false_and,Bool.false_eq_true,if_false]
  simp only [go_sem,qa,qb,qc,qd,qe,qf,reduceCtorEq,ku,ok,Bool.not_false]
 |true=>
 rw [h1]at ok
 simp only [Bool.true_and]
 cases h2:zj t [58,45] 2 with
 |false=>
  rw [h2]at is
  have e:zK t []=⟨t,jc,[]⟩:=by unfold zK;rw [h2];rfl
  simp only [e,Bool.false_eq_true,if_false]
  have hd:=qhD t hw (iT false t) (yY false t)
  have bo:=k9 jc qgQ (iT true jc) (yY true jc)
  rw [ym]at hd bo
  simp only [jc,yq,yr,yC,z8,List.map_nil]at bo
  cases h3:Yf t with
  |false=>
   rw [h3]at hd
   simp only [Bool.false_and,Bool.false_eq_true,if_false]
   simp only [go_sem,qa,qb,qc,qd,qe,qf,reduceCtorEq,ku,ok,is,at1,hd,Bool.not_true,Bool.not_false]
  |true=>
   rw [h3]at hd
   have ht:zb jc=true:=rfl
   simp only [ht,Bool.true_and,if_true]
   rw [show zb (Tm.mk 2 [116,114,117,101] 0 [])=true from rfl]at bo
   simp only [go_sem,qa,qb,qc,qd,qe,qf,reduceCtorEq,ku,ok,is,at1,hd,bo,Bool.not_true]
 |true=>
  rw [h2]at is
  obtain ⟨k4,knm,a,b,hk⟩:=qlR h2
  have wa:=zp hw a (by rw [hk];simp)
  have wb:=zp hw b (by rw [hk];simp)
  have ha:=qhD a wa (iT false a) (yY false a)
  rw [hk]at ok is ⊢
  simp only [List.map_cons,List.map_nil]at ok is ⊢
  rw [ym _ a]at ha
  rw [ym _ a,ym _ b]at ok is ⊢
  by_cases hb1:b.kind=1
  ·have d1:decide (b.kind=1)=true:=decide_eq_true hb1
   have e:zK t []=⟨a,jk b,[]⟩:=by unfold zK;rw [h2,if_pos rfl,hk];simp only [if_pos hb1]
   have bo:=k9 (jk b) (qgO wb) (.a [I 4,S [99,97,108,108],I 0,.i true [iT false b]]) (KE.2 ⟨true,_,rfl,by simp only [RL];exact ⟨_,_,rfl,yY false b,rfl⟩⟩)
   rw [ym _ b]at bo
   simp only [e,if_pos hb1,if_true]
   cases h3:Yf a with
   |false=>
    rw [h3]at ha
    simp only [Bool.false_and,Bool.false_eq_true,if_false]
    simp only [go_sem,qa,qb,qc,qd,qe,qf,reduceCtorEq,ku,ok,is,at1,ha,d1,Bool.not_true,Bool.not_false]
   |true=>
    rw [h3]at ha
    simp only [Bool.true_and]
    cases h4:zb (jk b)with
    |false=>
     rw [h4]at bo
     simp only [Bool.false_eq_true,if_false]
     simp only [go_sem,qa,qb,qc,qd,qe,qf,reduceCtorEq,ku,ok,is,at1,ha,d1,bo,Bool.not_true,Bool.not_false]
    |true=>
     rw [h4]at bo
     simp only [if_true]
     simp only [go_sem,qa,qb,qc,qd,qe,qf,reduceCtorEq,ku,ok,is,at1,ha,d1,bo,Bool.not_true,Bool.not_false]
  ·have d1:decide (b.kind=1)=false:=decide_eq_false hb1
   have e:zK t []=⟨a,b,[]⟩:=by unfold zK;rw [h2,if_pos rfl,hk];simp only [if_neg hb1]
   have bo:=k9 b wb (iT false b) (yY false b)
   rw [ym _ b]at bo
   simp only [e,if_neg hb1,if_true]
   cases h3:Yf a with
   |false=>
    rw [h3]at ha
    simp only [Bool.false_and,Bool.false_eq_true,if_false]
    simp only [go_sem,qa,qb,qc,qd,qe,qf,reduceCtorEq,ku,ok,is,at1,ha,d1,Bool.not_true,Bool.not_false]
   |true=>
    rw [h3]at ha
    simp only [Bool.true_and]
    cases h4:zb b with
    |false=>
     rw [h4]at bo
     simp only [Bool.false_eq_true,if_false]
     simp only [go_sem,qa,qb,qc,qd,qe,qf,reduceCtorEq,ku,ok,is,at1,ha,d1,bo,Bool.not_true,Bool.not_false]
    |true=>
     rw [h4]at bo
     simp only [if_true]
     simp only [go_sem,qa,qb,qc,qd,qe,qf,reduceCtorEq,ku,ok,is,at1,ha,d1,bo,Bool.not_true,Bool.not_false]
theorem qme(c:Cl) (hh:WT c.head) (hbd:WT c.body) (v:V) (h:bCl c v):cr qg qdO [v]=some (oCl c):=by
 obtain ⟨τ0,vs0,τ1,vs1,rfl,h0,h1⟩:=h
 have a:=qhF c.head hh _ (yH (τ:=τ0) h0)
 have b:=qhF c.body hbd _ (yH (τ:=τ1) h1)
 rw [qv]at a b
 have tk:=fun t:Tm=>List.take_of_length_le (l:=t.kids.map oT) (i:=t.kids.length) (by simp)
 rw [qn qxI rfl]
 unfold oCl
 simp only [go_sem,qa,qb,qc,qd,qe,qf,reduceCtorEq,Ky,a,b,tk,List.length_map]
theorem qqp {t:Tm} (h:WT t) (f:Str):WT (yJ t f).head∧WT (yJ t f).body:=by
 unfold yJ
 split
 ·exact qxZ h f
 ·exact ⟨qj6,qj6⟩
theorem qfP(t:Tm) (hw:WT t) (f:Str):cr qg qdC [iT false t,S f]=some (.t [oCl (yJ t f),B (Yc t)]):=by
 have raw:=qo8 t hw f
 obtain ⟨w1,w2⟩:=qqp hw f
 have cp:=fun v=>qme (yJ t f) w1 w2 v
 have tk:=fun t:Tm=>List.take_of_length_le (l:=t.kids.map oT) (i:=t.kids.length) (by simp)
 rw [ym]at raw ⊢
 rw [qn qwD rfl]
 unfold qid yJ at*
 unfold oCl at*
 cases hk:Yc t with
 |false=>
  simp only [hk,Bool.false_eq_true,if_false]at raw cp ⊢
  have c0:=cp (.a [I 0,S [],I 0,.i true [],I 0,S [],I 0,.i true [],S []]) ⟨true,[],true,[],rfl,rfl,rfl⟩
  simp only [zCl,zT,yq,yr,yC,z8,List.map_nil]at c0 ⊢
  simp only [go_sem,qa,qb,qc,qd,qe,qf,reduceCtorEq,QZ,raw,c0,List.length_map]
 |true=>
  simp only [hk,if_true]at raw cp ⊢
  cases h2:zj t [58,45] 2 with
  |false=>
   have e:zK t f=⟨t,jc,f⟩:=by unfold zK;rw [h2];rfl
   simp only [h2,e,Bool.false_eq_true,if_false]at raw cp ⊢
   have c0:=cp (.a [I t.kind,S t.name,I t.num,.i false (t.kids.map (iT false)),I 2,S [116,114,117,101],I 0,.i true [],S f]) ⟨false,_,true,[],rfl,Qu false _,rfl⟩
   simp only [jc,yq,yr,yC,z8,List.map_nil]at c0 ⊢
   simp only [go_sem,qa,qb,qc,qd,qe,qf,reduceCtorEq,QZ,raw,c0,tk,List.length_map]
  |true=>
   obtain ⟨k4,knm,a,b,hk2⟩:=qlR h2
   by_cases hb1:b.kind=1
   ·have e:zK t f=⟨a,jk b,f⟩:=by unfold zK;rw [h2,if_pos rfl,hk2];simp only [if_pos hb1]
    simp only [h2,hk2,e,if_true,if_pos hb1]at raw cp ⊢
    have c0:=cp (.a [I a.kind,S a.name,I a.num,.i false (a.kids.map (iT false)),I 4,S [99,97,108,108],I 0,.i true [iT false b],S f]) ⟨false,_,true,_,rfl,Qu false _,by simp only [jk,z8,RL];exact ⟨_,_,rfl,yY false b,rfl⟩⟩
    simp only [jk,yq,yr,yC,z8,List.map_nil,List.map_cons,ym _ b]at c0 raw ⊢
    rw [qv b]at c0 ⊢
    simp only [go_sem,qa,qb,qc,qd,qe,qf,reduceCtorEq,QZ,raw,c0,tk,List.length_map]
   ·have e:zK t f=⟨a,b,f⟩:=by unfold zK;rw [h2,if_pos rfl,hk2];simp only [if_neg hb1]
    simp only [h2,hk2,e,if_true,if_neg hb1]at raw cp ⊢
    have c0:=cp (.a [I a.kind,S a.name,I a.num,.i false (a.kids.map (iT false)),I b.kind,S b.name,I b.num,.i false (b.kids.map (iT false)),S f]) ⟨false,_,false,_,rfl,Qu false _,Qu false _⟩
    simp only [List.map_nil,List.map_cons]at raw ⊢
    simp only [go_sem,qa,qb,qc,qd,qe,qf,reduceCtorEq,QZ,raw,c0,tk,List.length_map]
end Go.Vm
namespace Go.Vm
theorem qbZ(x:Cl):oCl x= .a [I x.head.kind,S x.head.name,I x.head.num,.o 4 (x.head.kids.map oT),I x.body.kind,S x.body.name,I x.body.num,.o 4 (x.body.kids.map oT),S x.file]:=rfl
def jd(c:Cl):Prop:=WT c.head∧WT c.body
theorem qvk(τ:Bool) (vs:List V) (cs:List Cl) (n:Nat) (hl:cs.length=n) (hv:RL bCl cs vs) (hlim:n≤Lm)
 (hw: ∀ c ∈ cs,jd c) (m:Nat): ∀ (i:Nat),i+m=n→
 lw qg qba ⟨[(0,.i τ vs),(3,.s (100000,0) 0 i),(4,I i)],[((100000,0),9,(cs.take i).map oCl)]⟩=some (.exit 0,⟨[(3,.s (100000,0) 0 n)],[((100000,0),9,cs.map oCl)]⟩):=by
 have hn:vs.length=n:=by rw [zk hv,hl]
 unfold Lm at hlim
 induction m with
 |zero=>
  intro i hi
  obtain rfl:i=n:=by omega
  have h1: ¬ (i:Int) < (i:Int):=by omega
  rw [qr,List.take_of_length_le (Nat.le_of_eq hl)]
  simp only [go_sem,qa,qb,qc,qd,qe,qf,reduceCtorEq,qep,hn,h1]
 |succ m ih=>
  intro i hi
  rw [qr]
  have hlt:(i:Int) < (n:Int):=by omega
  obtain ⟨t,ht⟩:=zm (l:=cs) (i:=i) (by omega)
  obtain ⟨v,gv,hbt⟩:=xZ hv ht
  obtain ⟨w1,w2⟩:=hw t (List.mem_of_getElem? ht)
  have hcc:=qme t w1 w2 v hbt
  have a1:=fun T=>zy (τ:=τ) (T:=T) gv (qkm hbt)
  have e1:w64 ((i:Int)+1)=((i+1:Nat):Int):=by rw [qp]<;>omega
  have i1:=ih (i+1) (by omega)
  obtain ⟨τ0,vs0,τ1,vs1,rfl,-⟩:=hbt
  have b1:decide ((i+1)*128≤lim)=true:=decide_eq_true (by rw [ze];omega)
  have b2:decide (i+1≤lim)=true:=decide_eq_true (by rw [ze];omega)
  have ln:(cs.take i).length=i:=by simp;omega
  have tk2:((cs.take i).map oCl).take i=(cs.take i).map oCl:=List.take_of_length_le (by rw [List.length_map,ln];omega)
  have r4:(cs.take i).map oCl++[oCl t]=(cs.take (i+1)).map oCl:=qmn oCl ht
  have rp:=fun k' ob (y:V) (ys:List V)=>j0 k' ob ((cs.take i).map oCl) (y::ys) (qgZ _)
  have tk:=fun t:Tm=>List.take_of_length_le (l:=t.kids.map oT) (i:=t.kids.length) (by simp)
  rw [← i1, ← r4]
  rw [qbZ t]at hcc ⊢
  simp only [go_sem,qa,qb,qc,qd,qe,qf,reduceCtorEq,qep,hn,hlt,a1,gv,hcc,e1,tk2,b1,b2,ln,rp,tk,List.length_map]
theorem qvl(τ:Bool) (vs:List V) (cs:List Cl) (hv:RL bCl cs vs) (hlim:cs.length≤Lm) (hw: ∀ c ∈ cs,jd c):cr qg qgF [.i τ vs]=some (.o 9 (cs.map oCl)):=by
 have lp:=qvk τ vs cs cs.length rfl hv hlim hw cs.length 0 (by omega)
 simp only [Int.natCast_zero,List.take_zero,List.map_nil]at lp
 rw [qn qxJ rfl]
 simp only [go_sem,qa,qb,qc,qd,qe,qf,reduceCtorEq,Kz,lp]
theorem qvm(τ:Bool) (ss:List Str) (hlim:ss.length≤Lm):cr qg qgG [.i τ (ss.map S)]=some (.o 1 (ss.map S)):=by
 unfold Lm at hlim
 have b1:decide (ss.length*16≤lim)=true:=decide_eq_true (by rw [ze];omega)
 have b2:decide (ss.length≤lim)=true:=decide_eq_true (by rw [ze];omega)
 have al:kO 1 (ss.map S)=true:=qex (f:=S) (e:=1) (fun _=>⟨rfl,rfl⟩) ss
 have zs:yk (ss.map S)=true:=qfM (f:=S) (fun _=>rfl) ss
 rw [qn qxL rfl]
 simp only [go_sem,qa,qb,qc,qd,qe,qf,reduceCtorEq,KB,b1,b2,al,zs,List.length_map,List.length_nil,List.nil_append]
theorem qmf(x:Db) (hl:x.clauses.length≤Lm) (hl2:x.opn.length≤Lm) (hw: ∀ c ∈ x.clauses,jd c) (v:V) (h:bDb x v):cr qg qdP [v]=some (oDb x):=by
 obtain ⟨τ0,vs0,τ1,rfl,h0⟩:=h
 have a:=qvl τ0 vs0 x.clauses h0 hl hw
 have b:=qvm τ1 x.opn hl2
 have tk:=List.take_of_length_le (l:=x.clauses.map oCl) (i:=x.clauses.length) (by simp)
 have tk2:=List.take_of_length_le (l:=x.opn.map S) (i:=x.opn.length) (by simp)
 rw [qn qxK rfl]
 unfold oDb
 simp only [go_sem,qa,qb,qc,qd,qe,qf,reduceCtorEq,KA,a,b,tk,tk2,List.length_map]
theorem qp5 {c:Cl} {v:V} (h:bCl c v):zf v=true:=by
 obtain ⟨τ0,vs0,τ1,vs1,rfl,-⟩:=h;rfl
theorem qes: ∀ {cs:List Cl} {vs:List V},RL bCl cs vs→kO 9 vs=true
 |[],vs,h=>by simp only [RL]at h;subst h;rfl
 |c::cs,vs,h=>by
  simp only [RL]at h
  obtain ⟨v,vs',rfl,h1,h2⟩:=h
  obtain ⟨τ0,vs0,τ1,vs1,rfl,-⟩:=h1
  have:=qes h2
  simp only [kO,this];rfl
theorem qbs: ∀ {cs:List Cl} {vs:List V},RL bCl cs vs→yk vs=true
 |[],vs,h=>by simp only [RL]at h;subst h;rfl
 |c::cs,vs,h=>by
  simp only [RL]at h
  obtain ⟨v,vs',rfl,h1,h2⟩:=h
  simp only [yk,qp5 h1,qbs h2,Bool.and_self]
theorem qbr: ∀ {cs:List Cl} {vs:List V},RL bCl cs vs→qF vs=true
 |[],vs,h=>by simp only [RL]at h;subst h;rfl
 |c::cs,vs,h=>by
  simp only [RL]at h
  obtain ⟨v,vs',rfl,h1,h2⟩:=h
  obtain ⟨τ0,vs0,τ1,vs1,rfl,-⟩:=h1
  have:=qbr h2
  simp only [qF,this];rfl
theorem qet(ρ:Bool): ∀ {cs:List Cl} {vs:List V},RL bCl cs vs→qU ρ vs=vs
 |[],vs,h=>by simp only [RL]at h;subst h;rfl
 |c::cs,vs,h=>by
  simp only [RL]at h
  obtain ⟨v,vs',rfl,h1,h2⟩:=h
  obtain ⟨τ0,vs0,τ1,vs1,rfl,-⟩:=h1
  simp only [qU,qet ρ h2];rfl
theorem qhC(x:Db) (hl:x.clauses.length≤Lm) (hl2:x.opn.length≤Lm) (τ σ:Bool) (vs:List V) (h0:RL bCl x.clauses vs) (hn:qJ vs=true):
 cr qg KL [.a [.i τ vs,.i σ (x.opn.map S)]]=some (.a [.o 9 vs,.o 1 (x.opn.map S)]):=by
 unfold Lm at hl hl2
 have ln:=zk h0
 have b1:decide (x.clauses.length*128≤lim)=true:=decide_eq_true (by rw [ze];omega)
 have b2:decide (x.clauses.length≤lim)=true:=decide_eq_true (by rw [ze];omega)
 have b3:decide (x.opn.length*16≤lim)=true:=decide_eq_true (by rw [ze];omega)
 have b4:decide (x.opn.length≤lim)=true:=decide_eq_true (by rw [ze];omega)
 have al:kO 1 (x.opn.map S)=true:=qex (f:=S) (e:=1) (fun _=>⟨rfl,rfl⟩) x.opn
 have al2:=qes h0
 have z:=qbs h0
 have ce:=qbr h0
 have zs:yk (x.opn.map S)=true:=qfM (f:=S) (fun _=>rfl) x.opn
 have kl: ∀ d,qE d vs=vs:=fun d=>Zp d vs ce
 have tkv:vs.take x.clauses.length=vs:=List.take_of_length_le (by omega)
 rw [qn qxA rfl]
 simp only [go_sem,qa,qb,qc,qd,qe,qf,reduceCtorEq,Ku,b1,b2,b3,b4,al,al2,zs,kl,tkv,z,ce,hn,ln,List.length_map,List.length_nil,List.nil_append]
def Z6(x:Db) (c:Cl):Db:=⟨x.clauses++[c],x.opn⟩
def Qy(x:Db) (c:Cl):Bool:=qbH (Z6 x c)
def yU(x:Db) (c:Cl):Db:=if Qy x c=true then Z6 x c else x
theorem qo6(x:Db) (c:Cl) (hl:x.clauses.length≤1000) (hl2:x.opn.length≤1000) (hw: ∀ c ∈ x.clauses,jd c) (hc:jd c) (τ σ:Bool) (vs:List V) (h0:RL bCl x.clauses vs) (hn:qJ vs=true)
 (v0 v1:List V) (k0:RL BT c.head.kids v0) (k1:RL BT c.body.kids v1) (n0:qJ v0=true) (n1:qJ v1=true):
 cr qg qgv [.a [.i τ vs,.i σ (x.opn.map S)],.a [I c.head.kind,S c.head.name,I c.head.num,.i false v0,I c.body.kind,S c.body.name,I c.body.num,.i false v1,S c.file]]=
  some (.t [.a [.o 9 (if Qy x c=true then vs++[.a [I c.head.kind,S c.head.name,I c.head.num,.i false v0,I c.body.kind,S c.body.name,I c.body.num,.i false v1,S c.file]]else vs),.o 1 (x.opn.map S)],B (Qy x c)]):=by
 have ln:=zk h0
 have cp:=qhC x (by unfold Lm;omega) (by unfold Lm;omega) τ σ vs h0 hn
 have hb:bCl c (.a [I c.head.kind,S c.head.name,I c.head.num,.i false v0,I c.body.kind,S c.body.name,I c.body.num,.i false v1,S c.file]):=⟨false,v0,false,v1,rfl,k0,k1⟩
 have ok:=fun ρ π=>qpa (Z6 x c) (by simp only [Z6,List.length_append,List.length_cons,List.length_nil];unfold Lm;omega) (fun y hy=>by
  rcases List.mem_append.1 hy with hy|hy
  ·exact hw y hy
  ·simp only [List.mem_singleton]at hy;subst hy;exact hc) (.a [.i ρ (vs++[.a [I c.head.kind,S c.head.name,I c.head.num,.i false v0,I c.body.kind,S c.body.name,I c.body.num,.i false v1,S c.file]]),.i π (x.opn.map S)]) ⟨ρ,_,π,rfl,qgJ h0 ⟨_,_,rfl,hb,rfl⟩⟩
 have b1:decide ((x.clauses.length+1)*128≤lim)=true:=decide_eq_true (by rw [ze];omega)
 have b2:decide (x.clauses.length+1≤lim)=true:=decide_eq_true (by rw [ze];omega)
 have al2:=qes h0
 have z:=qbs h0
 have ce:=qbr h0
 have kl: ∀ d,qE d vs=vs:=fun d=>Zp d vs ce
 have tkv:vs.take x.clauses.length=vs:=List.take_of_length_le (by omega)
 have tkv2: ∀ w:V,(vs++[w]).take (x.clauses.length+1)=vs++[w]:=fun w=>List.take_of_length_le (by simp;omega)
 have tks:=List.take_of_length_le (l:=x.opn.map S) (i:=x.opn.length) (by simp)
 have me: ∀ m T,qB (zd m) T vs=(vs,T):=fun m T=>x9 m T _ ce
 have rpz: ∀ k ob,zB k ob vs=none:=fun k ob=>jB k ob _ ce
 have cv: ∀ ρ,qU ρ vs=vs:=fun ρ=>qet ρ h0
 rw [qn qxw rfl]
 unfold Qy
 cases hk:qbH (Z6 x c)with
 |true=>
  simp only [hk,if_true]at ok ⊢
  simp only [go_sem,qa,qb,qc,qd,qe,qf,reduceCtorEq,YV,cp,ok,b1,b2,al2,z,ce,kl,ln,tkv,tkv2,tks,hn,n0,n1,me,rpz,cv,List.length_map,List.length_append]
 |false=>
  simp only [hk,Bool.false_eq_true,if_false]at ok ⊢
  simp only [go_sem,qa,qb,qc,qd,qe,qf,reduceCtorEq,YV,cp,ok,b1,b2,al2,z,ce,kl,ln,tkv,tkv2,tks,hn,n0,n1,me,rpz,cv,List.length_map,List.length_append]
theorem qpZ {x:Db} {c:Cl} (hw: ∀ c ∈ x.clauses,jd c) (hc:jd c): ∀ y ∈ (yU x c).clauses,jd y:=by
 unfold yU
 split
 ·intro y hy
  rcases List.mem_append.1 hy with hy|hy
  ·exact hw y hy
  ·simp only [List.mem_singleton]at hy;subst hy;exact hc
 ·exact hw
theorem qby(x:Db) (c:Cl):x.clauses.length≤(yU x c).clauses.length∧(yU x c).clauses.length≤x.clauses.length+1∧(yU x c).opn=x.opn:=by
 unfold yU Z6
 split<;>simp
theorem qmE: ∀ (xs ys:List V),qJ (xs++ys)=(qJ xs&&qJ ys)
 |[],ys=>rfl
 |x::xs,ys=>by simp only [List.cons_append,qJ,qmE xs ys,Bool.and_assoc]
theorem qjc(x:Db) (c:Cl) (hl:x.clauses.length≤1000) (hl2:x.opn.length≤1000) (hw: ∀ c ∈ x.clauses,jd c) (hc:jd c) (τ σ:Bool) (vs:List V) (h0:RL bCl x.clauses vs) (hn:qJ vs=true)
 (v0 v1:List V) (k0:RL BT c.head.kids v0) (k1:RL BT c.body.kids v1) (n0:qJ v0=true) (n1:qJ v1=true):
 cr qg qaw [.a [.i τ vs,.i σ (x.opn.map S)],.a [I c.head.kind,S c.head.name,I c.head.num,.i false v0,I c.body.kind,S c.body.name,I c.body.num,.i false v1,S c.file]]=
  some (.t [oDb (yU x c),B (Qy x c)]):=by
 have ln:=zk h0
 have raw:=qo6 x c hl hl2 hw hc τ σ vs h0 hn v0 v1 k0 k1 n0 n1
 have hb:bCl c (.a [I c.head.kind,S c.head.name,I c.head.num,.i false v0,I c.body.kind,S c.body.name,I c.body.num,.i false v1,S c.file]):=⟨false,v0,false,v1,rfl,k0,k1⟩
 obtain ⟨q1,q2,q3⟩:=qby x c
 have cp:=qmf (yU x c) (by unfold Lm;omega) (by rw [q3];unfold Lm;omega) (qpZ hw hc)
 have al2:=qes h0
 have z:=qbs h0
 have ce:=qbr h0
 have kl: ∀ d,qE d vs=vs:=fun d=>Zp d vs ce
 have cv: ∀ ρ,qU ρ vs=vs:=fun ρ=>qet ρ h0
 have me: ∀ m T,qB (zd m) T vs=(vs,T):=fun m T=>x9 m T _ ce
 have rpz: ∀ k ob,zB k ob vs=none:=fun k ob=>jB k ob _ ce
 have tkv:vs.take x.clauses.length=vs:=List.take_of_length_le (by omega)
 have tkv2: ∀ w:V,(vs++[w]).take (x.clauses.length+1)=vs++[w]:=fun w=>List.take_of_length_le (by simp;omega)
 have tks:=List.take_of_length_le (l:=x.opn.map S) (i:=x.opn.length) (by simp)
 have tk:=fun t:Db=>List.take_of_length_le (l:=t.clauses.map oCl) (i:=t.clauses.length) (by simp)
 have tk2:=fun t:Db=>List.take_of_length_le (l:=t.opn.map S) (i:=t.opn.length) (by simp)
 rw [qn qwB rfl]
 unfold yU at*
 unfold oDb at*
 cases hk:Qy x c with
 |true=>
  simp only [hk,if_true]at raw cp ⊢
  have c0:=cp (.a [.i true (vs++[.a [I c.head.kind,S c.head.name,I c.head.num,.i false v0,I c.body.kind,S c.body.name,I c.body.num,.i false v1,S c.file]]),.i true (x.opn.map S)]) ⟨true,_,true,rfl,qgJ h0 ⟨_,_,rfl,hb,rfl⟩⟩
  simp only [Z6]at c0 ⊢
  have tk3:((x.clauses++[c]).map oCl).take (x.clauses.length+1)=(x.clauses++[c]).map oCl:=List.take_of_length_le (by simp)
  have nt:qJ (vs++[.a [I c.head.kind,S c.head.name,I c.head.num,.i false v0,I c.body.kind,S c.body.name,I c.body.num,.i false v1,S c.file]])=true:=by
   rw [qmE,hn];simp only [qJ,qW,n0,n1,Bool.and_true,Bool.not_false];rfl
  simp only [go_sem,qa,qb,qc,qd,qe,qf,reduceCtorEq,YG,raw,c0,z,ce,kl,ln,tkv,tkv2,tks,tk3,nt,hn,n0,n1,me,rpz,cv,tk,tk2,List.length_map,List.length_append]
 |false=>
  simp only [hk,Bool.false_eq_true,if_false]at raw cp ⊢
  have c0:=cp (.a [.i true vs,.i true (x.opn.map S)]) ⟨true,_,true,rfl,h0⟩
  simp only [go_sem,qa,qb,qc,qd,qe,qf,reduceCtorEq,YG,raw,c0,z,ce,kl,ln,tkv,tkv2,tks,hn,n0,n1,me,rpz,cv,tk,tk2,List.length_map,List.length_append]
theorem qpK(cs:List Cl) (p:Str) (hl:cs.length≤1000) (hw: ∀ c ∈ cs,jd c) (τ σ:Bool) (vs:List V) (h0:RL bCl cs vs) (hn:qJ vs=true):
 cr qg qgd [.a [.i τ vs,.i σ []],S p]=some (oDb ⟨cs,[p]⟩):=by
 have ln:=zk h0
 have cp:=qhC ⟨cs,[]⟩ (by simp only;unfold Lm;omega) (by simp only [List.length_nil];unfold Lm;omega) τ σ vs h0 hn
 simp only [List.map_nil]at cp
 have z:=qbs h0
 have ce:=qbr h0
 have kl: ∀ d,qE d vs=vs:=fun d=>Zp d vs ce
 have cv: ∀ ρ,qU ρ vs=vs:=fun ρ=>qet ρ h0
 have me: ∀ m T,qB (zd m) T vs=(vs,T):=fun m T=>x9 m T _ ce
 have rpz: ∀ k ob,zB k ob vs=none:=fun k ob=>jB k ob _ ce
 have tkv:vs.take cs.length=vs:=List.take_of_length_le (by omega)
 have raw:cr qg qgB [.a [.i τ vs,.i σ []],S p]=some (.a [.o 9 vs,.o 1 [S p]]):=by
  have h00: ¬ (0:Int) < 0:=by decide
  have h40:(0:Int) < 40:=by decide
  have l1:decide (16≤lim)=true:=by decide
  have l2:decide (1≤lim)=true:=by decide
  have lp:lw qg qa8 ⟨[(1,S p),(2,.p (100000,0) 0 0),(4,.p (100000,1) 0 0),(5,.p (100000,2) 0 0),(6,I 0)],[((100000,0),2,[.a [.i τ vs,.i σ []]]),((100000,1),2,[.a [.s (100000,3) 0 0,.s (100000,4) 0 0]]),((100000,2),2,[.a [.s (100000,5) 0 cs.length,.s (100000,6) 0 0]]),((100000,3),9,[]),((100000,4),1,[]),((100000,5),9,vs),((100000,6),1,[])]⟩=some (.exit 0,⟨[(1,S p),(4,.p (100000,1) 0 0),(5,.p (100000,2) 0 0)],[((100000,0),2,[.a [.i τ vs,.i σ []]]),((100000,1),2,[.a [.s (100000,3) 0 0,.s (100000,4) 0 0]]),((100000,2),2,[.a [.s (100000,5) 0 cs.length,.s (100000,6) 0 0]]),((100000,3),9,[]),((100000,4),1,[]),((100000,5),9,vs),((100000,6),1,[])]⟩):=by
   rw [qr]
   simp only [go_sem,qa,qb,qc,qd,qe,qf,reduceCtorEq,qgI,h00,ce,kl,me,rpz,ln]
  rw [qn qxD rfl]
  simp only [go_sem,qa,qb,qc,qd,qe,qf,reduceCtorEq,Kw,cp,lp,h40,l1,l2,z,ce,kl,ln,tkv,hn,me,rpz,cv,List.length_map,List.length_nil]
 have c0:=qmf ⟨cs,[p]⟩ (by simp only;unfold Lm;omega) (by simp only [List.length_cons,List.length_nil];unfold Lm;omega) hw (.a [.i true vs,.i true [S p]]) ⟨true,_,true,rfl,h0⟩
 rw [qn qwN rfl]
 unfold oDb at*
 simp only [List.map_cons,List.map_nil]at c0 ⊢
 have tk3:=List.take_of_length_le (l:=cs.map oCl) (i:=cs.length) (by simp)
 simp only [go_sem,qa,qb,qc,qd,qe,qf,reduceCtorEq,X8,raw,c0,z,ce,kl,ln,tkv,tk3,hn,me,rpz,cv,List.length_map]
end Go.Vm
namespace Go.Vm
theorem qjm {m:Nat} {t u:Tm} (h:Dr m t) (hu:u ∈ t.kids):Dr m u:=by
 refine ⟨zp h.1 u hu, ?_⟩
 have h2:=h.2
 have e:nT t=nTs t.kids+1:=by cases t;rfl
 have:=Xq hu
 omega
theorem qpc:Dr 1 jc:=Qk (by omega) (by simp) (by omega)
theorem qjo:Dr 1 zT:=Qk (by omega) (by simp) (by omega)
theorem qpb {m:Nat} {t:Tm} (h:Dr m t):Dr (m+1) (jk t):=⟨qgO h.1,by have:=h.2;simp only [jk,nT,nTs];omega⟩
theorem qvF(t:Tm):1≤nT t:=by cases t;simp only [nT];omega
theorem qxY {m:Nat} {t:Tm} (h:Dr m t) (f:Str):Dr (m+1) (zK t f).head∧Dr (m+1) (zK t f).body:=by
 have h1:1≤m:=Nat.le_trans (qvF t) h.2
 have ht:Dr (m+1) jc:=zJ qpc (by omega)
 unfold zK
 split
 ·split
  ·rename_i a b hk
   have ha:=qjm h (u:=a) (by rw [hk];simp)
   have hb:=qjm h (u:=b) (by rw [hk];simp)
   refine ⟨zJ ha (by omega), ?_⟩
   show Dr (m+1) (if b.kind=1 then jk b else b)
   split
   ·exact qpb hb
   ·exact zJ hb (by omega)
  ·exact ⟨zJ h (by omega),ht⟩
 ·exact ⟨zJ h (by omega),ht⟩
theorem qkV {m:Nat} {t:Tm} (h:Dr m t) (f:Str):Dr (m+1) (yJ t f).head∧Dr (m+1) (yJ t f).body:=by
 unfold yJ
 split
 ·exact qxY h f
 ·exact ⟨zJ qjo (by omega),zJ qjo (by omega)⟩
theorem qkW(t:Tm) (f:Str):(yJ t f).file.length≤f.length:=by
 unfold yJ
 split
 ·rw [qni];exact Nat.le_refl _
 ·simp [zCl]
structure DC (c:Cl):Prop where
 h:Dr 500 c.head
 b:Dr 500 c.body
 f:c.file.length≤20
theorem DC.wd {c:Cl} (h:DC c):jd c:=⟨h.h.1,h.b.1⟩
theorem qjh(s f:Str) (hf:f.length≤20):DC (yJ (zR s) f):=by
 have:=qkV (qb6 s) f
 exact ⟨zJ this.1 (by decide),zJ this.2 (by decide),Nat.le_trans (qkW _ _) hf⟩
structure DD (n:Nat) (x:Db):Prop where
 c: ∀ c ∈ x.clauses,DC c
 l:x.clauses.length≤n
 o:x.opn.length≤41∧ ∀ s ∈ x.opn,s.length≤20
theorem DD.wd {n:Nat} {x:Db} (h:DD n x): ∀ c ∈ x.clauses,jd c:=fun c hc=>(h.c c hc).wd
theorem qji {n:Nat} {x:Db} {c:Cl} (h:DD n x) (hc:DC c):DD (n+1) (yU x c):=by
 obtain ⟨q1,q2,q3⟩:=qby x c
 have:=h.l
 refine ⟨?_,by omega,by rw [q3];exact h.o⟩
 unfold yU
 split
 ·intro y hy
  rcases List.mem_append.1 hy with hy|hy
  ·exact h.c y hy
  ·simp only [List.mem_singleton]at hy;subst hy;exact hc
 ·exact h.c
theorem qjj {n m:Nat} {x:Db} (h:DD n x) (hm:n≤m):DD m x:=⟨h.c,Nat.le_trans h.l hm,h.o⟩
def y0(s:Str):Str:=s++[32,46]
theorem qqV:Yo (y0 [112,40,97,41])=true:=by decide+kernel
theorem qln:Yc (zR (y0 [112,40,97,41]))=true:=by decide+kernel
theorem qqU(f:Str):Qy ⟨[],[]⟩ (yJ (zR (y0 [112,40,97,41])) f)=true:=by
 have e:yJ (zR (y0 [112,40,97,41])) f=⟨(zK (zR (y0 [112,40,97,41])) []).head,(zK (zR (y0 [112,40,97,41])) []).body,f⟩:=by
  unfold yJ
  rw [if_pos qln,qni]
 have h1:zb (zK (zR (y0 [112,40,97,41])) []).head=true:=by decide+kernel
 have h2:zb (zK (zR (y0 [112,40,97,41])) []).body=true:=by decide+kernel
 have h3:Yf (zK (zR (y0 [112,40,97,41])) []).head=true:=by decide+kernel
 rw [e]
 unfold Qy Z6 qbH Xc
 simp only [List.nil_append,List.all_cons,List.all_nil,h1,h2,h3,Bool.and_self,Bool.true_and,List.length_cons,List.length_nil]
 rfl
def qlg:List Str:=[[111,110,101],[116,119,111],[]]
theorem qo7(x:Db) (c:Cl) (n:Nat) (hn:n≤1000) (hx:DD n x) (hc:DC c):cr qg qaw [.a [.i false ((x).clauses.map (iCl false)),.i false ((x).opn.map S)],iCl false c]=some (.t [.a [.o 9 ((yU x c).clauses.map oCl),.o 1 ((yU x c).opn.map S)],B (Qy x c)]):=
 qjc x c (by have:=hx.l;omega) (by have:=hx.o.1;omega) hx.wd hc.wd false false _ (K2 (K6 false) _) (Zs _) _ _ (Qu false _) (Qu false _) (qeO _) (qeO _)
theorem qve(bs:List UInt8) (ci:Nat) (ch sk:Int) (x:Db) (i:Nat) (hi:i < 29) (hx:DD i x):
 ∃ x',lw qg Zg ⟨[(0,.p (0,0) 0 0),(2,.p (100000,0) 0 0),(3,.p (100000,1) 0 0),(4,.s (100000,2) 0 29),(5,I sk),(6,I (i:Int))],[((0,0),3,[.a [.i false (bs.map qY),I ci,I ch]]),((100000,0),2,[.a [.s (100000,3) 0 0,.s (100000,4) 0 0]]),((100000,1),2,[.a [.i false ((x).clauses.map (iCl false)),.i false ((x).opn.map S)]]),((100000,2),1,yO.map S),((100000,3),9,[]),((100000,4),1,[])]⟩=lw qg Zg ⟨[(0,.p (0,0) 0 0),(2,.p (100000,0) 0 0),(3,.p (100000,1) 0 0),(4,.s (100000,2) 0 29),(5,I sk),(6,I ((i+1:Nat):Int))],[((0,0),3,[.a [.i false (bs.map qY),I ci,I ch]]),((100000,0),2,[.a [.s (100000,3) 0 0,.s (100000,4) 0 0]]),((100000,1),2,[.a [.i false ((x').clauses.map (iCl false)),.i false ((x').opn.map S)]]),((100000,2),1,yO.map S),((100000,3),9,[]),((100000,4),1,[])]⟩∧DD (i+1) x'∧x.clauses.length≤x'.clauses.length∧x'.opn=x.opn:=by
 obtain ⟨s,hs⟩:=zm (l:=yO) (i:=i) hi
 have ls:=qmh s (List.mem_of_getElem? hs)
 have g:=yb (f:=S) hs
 have ix:=jq (k:=(100000,2)) (e:=1) (xs:=yO.map S) (i:=i) (len:=29) hi (by simp [yO])
 have a1:=qw (x:=s) (y:=[32,46]) (by simp only [List.length_cons,List.length_nil];omega)
 have rt:=qeu (y0 s)
 have hlt:(i:Int) < ((29:Nat):Int):=by omega
 have e1:w64 ((i:Int)+1)=((i+1:Nat):Int):=by rw [qp]<;>omega
 have b3:=Z8 (a:=(i:Int)) (b:=3) (by decide)
 have b7:=Z8 (a:=(i:Int)) (b:=7) (by decide)
 obtain ⟨j3,e3,u3⟩:=qco (i:Int) 3 (by omega) (by decide)
 rw [show (i:Int).tmod 3=(j3:Int)from e3]at b3
 obtain ⟨f,gf,lf⟩:=qmi qlg j3 u3 20 (by decide)
 have dc:=qjh (y0 s) f lf
 have co:=qfP (zR (y0 s)) (qb6 (y0 s)).1 f
 have ad:=qo7 x _ i (by omega) hx dc
 simp only [qlg,List.map_cons,List.map_nil]at gf
 have ix3:=jq (k:=(34,0)) (e:=1) (xs:=[S [111,110,101],S [116,119,111],S []]) (i:=j3) (len:=3) (by omega) (by simp)
 unfold y0 at*
 have keep:(∀ x':Db,x'=x→DD (i+1) x'∧x.clauses.length≤x'.clauses.length∧x'.opn=x.opn):=by
  rintro x' rfl;exact ⟨qjj hx (by omega),Nat.le_refl _,rfl⟩
 cases h1:Yo (s++[32,46])with
 |false=>
  rw [h1]at rt
  refine ⟨x, ?_,keep x rfl⟩
  rw [qr]
  simp only [go_sem,qa,qb,qc,qd,qe,qf,reduceCtorEq,Qt,hlt,e1,g,ix,a1,rt,b3,gf,ix3,co]
 |true=>
 rw [h1]at rt
 obtain ⟨j7,e7,u7⟩:=qco (i:Int) 7 (by omega) (by decide)
 rw [show (i:Int).tmod 7=(j7:Int)from e7]at b7
 have yes:DD (i+1) (yU x (yJ (zR (s++[32,46])) f))∧x.clauses.length≤(yU x (yJ (zR (s++[32,46])) f)).clauses.length∧(yU x (yJ (zR (s++[32,46])) f)).opn=x.opn:=
  ⟨qji hx dc,(qby _ _).1,(qby _ _).2.2⟩
 cases h2:Yc (zR (s++[32,46]))with
 |false=>
  rw [h2]at co
  refine ⟨x, ?_,keep x rfl⟩
  rw [qr]
  simp only [go_sem,qa,qb,qc,qd,qe,qf,reduceCtorEq,Qt,hlt,e1,g,ix,a1,rt,b3,gf,ix3,co]
 |true=>
 rw [h2]at co
 cases h3:decide (sk=0)with
 |true=>
  refine ⟨_, ?_,yes⟩
  rw [qr]
  simp only [go_sem,qa,qb,qc,qd,qe,qf,reduceCtorEq,Qt,hlt,e1,g,ix,a1,rt,b3,b7,gf,ix3,co,ad,h3]
 |false=>
 cases h4:decide ((j7:Int) ≠ sk)with
 |true=>
  refine ⟨_, ?_,yes⟩
  rw [qr]
  simp only [go_sem,qa,qb,qc,qd,qe,qf,reduceCtorEq,Qt,hlt,e1,g,ix,a1,rt,b3,b7,gf,ix3,co,ad,h3,h4]
 |false=>
  refine ⟨x, ?_,keep x rfl⟩
  rw [qr]
  simp only [go_sem,qa,qb,qc,qd,qe,qf,reduceCtorEq,Qt,hlt,e1,g,ix,a1,rt,b3,b7,gf,ix3,co,ad,h3,h4]
theorem qvb(bs:List UInt8) (ci:Nat) (ch sk:Int):
 ∃ x',lw qg Zg ⟨[(0,.p (0,0) 0 0),(2,.p (100000,0) 0 0),(3,.p (100000,1) 0 0),(4,.s (100000,2) 0 29),(5,I sk),(6,I 0)],[((0,0),3,[.a [.i false (bs.map qY),I ci,I ch]]),((100000,0),2,[.a [.s (100000,3) 0 0,.s (100000,4) 0 0]]),((100000,1),2,[.a [.s (100000,5) 0 0,.s (100000,6) 0 0]]),((100000,2),1,yO.map S),((100000,3),9,[]),((100000,4),1,[]),((100000,5),9,[]),((100000,6),1,[])]⟩=
  lw qg Zg ⟨[(0,.p (0,0) 0 0),(2,.p (100000,0) 0 0),(3,.p (100000,1) 0 0),(4,.s (100000,2) 0 29),(5,I sk),(6,I 1)],[((0,0),3,[.a [.i false (bs.map qY),I ci,I ch]]),((100000,0),2,[.a [.s (100000,3) 0 0,.s (100000,4) 0 0]]),((100000,1),2,[.a [.i false ((x').clauses.map (iCl false)),.i false ((x').opn.map S)]]),((100000,2),1,yO.map S),((100000,3),9,[]),((100000,4),1,[])]⟩∧DD 1 x'∧x'.clauses.length=1∧x'.opn=[]:=by
 have g:(yO.map S)[0]? =some (S [112,40,97,41]):=rfl
 have ix:ixO (100000,2) 0 29 1 (0:Int) (some (1,yO.map S))=some (.p (100000,2) 0 0):=jq (k:=(100000,2)) (e:=1) (xs:=yO.map S) (i:=0) (len:=29) (by decide) (by simp [yO])
 have a1:=qw (x:=[112,40,97,41]) (y:=[32,46]) (by decide)
 have rt:=qeu (y0 [112,40,97,41])
 rw [qqV]at rt
 have hlt:(0:Int) < ((29:Nat):Int):=by decide
 have e1:w64 (0+1)=1:=rfl
 have b3:qo .rem (I 0) (I 3)=some (I 0):=rfl
 have b7:qo .rem (I 0) (I 7)=some (I 0):=rfl
 have dc:=qjh (y0 [112,40,97,41]) [111,110,101] (by decide)
 have fa:=qqU [111,110,101]
 have co:=qfP (zR (y0 [112,40,97,41])) (qb6 _).1 [111,110,101]
 rw [qln]at co
 generalize yJ (zR (y0 [112,40,97,41])) [111,110,101]=c at co dc fa
 have d0:DD 0 ⟨[],[]⟩:=⟨fun c hc=>(by cases hc),Nat.le_refl _,by simp⟩
 have ad:cr qg qaw [.a [.i true [],.i true []],iCl false c]=some (.t [.a [.o 9 ((yU ⟨[],[]⟩ c).clauses.map oCl),.o 1 ((yU ⟨[],[]⟩ c).opn.map S)],B (Qy ⟨[],[]⟩ c)]):=
  qjc ⟨[],[]⟩ c (by simp) (by simp) d0.wd dc.wd true true [] rfl rfl _ _ (Qu false _) (Qu false _) (qeO _) (qeO _)
 refine ⟨yU ⟨[],[]⟩ c, ?_,qji d0 dc, ?_,(qby _ _).2.2⟩
 ·simp only [show y0 [112,40,97,41]=[112,40,97,41,32,46]from rfl]at rt co
  generalize zR [112,40,97,41,32,46]=t at rt co
  cases h3:decide (sk=0)with
  |true=>
   rw [qr]
   simp only [go_sem,qa,qb,qc,qd,qe,qf,reduceCtorEq,Qt,hlt,e1,g,ix,a1,rt,b3,b7,co,ad,h3]
  |false=>
   have h4:decide ((0:Int) ≠ sk)=true:=decide_eq_true (fun h=>by rw [← h]at h3;simp at h3)
   rw [qr]
   simp only [go_sem,qa,qb,qc,qd,qe,qf,reduceCtorEq,Qt,hlt,e1,g,ix,a1,rt,b3,b7,co,ad,h3,h4]
 ·unfold yU;rw [if_pos fa];rfl
theorem qvc(bs:List UInt8) (ci:Nat) (ch sk:Int) (m:Nat): ∀ (i:Nat) (x:Db),i+m=29→DD i x→
 ∃ x',lw qg Zg ⟨[(0,.p (0,0) 0 0),(2,.p (100000,0) 0 0),(3,.p (100000,1) 0 0),(4,.s (100000,2) 0 29),(5,I sk),(6,I (i:Int))],[((0,0),3,[.a [.i false (bs.map qY),I ci,I ch]]),((100000,0),2,[.a [.s (100000,3) 0 0,.s (100000,4) 0 0]]),((100000,1),2,[.a [.i false ((x).clauses.map (iCl false)),.i false ((x).opn.map S)]]),((100000,2),1,yO.map S),((100000,3),9,[]),((100000,4),1,[])]⟩=some (.exit 0,⟨[(0,.p (0,0) 0 0),(2,.p (100000,0) 0 0),(3,.p (100000,1) 0 0)],[((0,0),3,[.a [.i false (bs.map qY),I ci,I ch]]),((100000,0),2,[.a [.s (100000,3) 0 0,.s (100000,4) 0 0]]),((100000,1),2,[.a [.i false ((x').clauses.map (iCl false)),.i false ((x').opn.map S)]]),((100000,2),1,yO.map S),((100000,3),9,[]),((100000,4),1,[])]⟩)∧DD 29 x'∧x.clauses.length≤x'.clauses.length∧x'.opn=x.opn:=by
 induction m with
 |zero=>
  intro i x hi hx
  have hlt: ¬ (i:Int) < ((29:Nat):Int):=by omega
  obtain rfl:i=29:=by omega
  refine ⟨x, ?_,hx,Nat.le_refl _,rfl⟩
  rw [qr]
  simp only [go_sem,qa,qb,qc,qd,qe,qf,reduceCtorEq,Qt,hlt]
 |succ m ih=>
  intro i x hi hx
  obtain ⟨x1,s1,d1,l1,o1⟩:=qve bs ci ch sk x i (by omega) hx
  obtain ⟨x2,s2,d2,l2,o2⟩:=ih (i+1) x1 (by omega) d1
  exact ⟨x2,by rw [s1,s2],d2,by omega,by rw [o2,o1]⟩
theorem qvd(bs:List UInt8) (hl:bs.length≤2^40) (i:Nat) (h:Int) (hi:i≤bs.length):
 ∃ (i':Nat) (h':Int) (x:Db),cw qg qgA [CU bs i h]=some (iDb false x,[CU bs i' h'])∧i'≤bs.length∧DD 29 x∧1≤x.clauses.length:=by
 obtain ⟨i1,h1,sk,b1,p1,q1,r1⟩:=xN bs hl i h hi 7 (by decide) (by decide)
 have ll:=qmb
 obtain ⟨x1,s1,d1,l1,o1⟩:=qvb bs i1 h1 sk
 obtain ⟨x2,s2,d2,l2,o2⟩:=qvc bs i1 h1 sk 28 1 x1 (by omega) d1
 simp only [Int.natCast_one]at s2
 rw [s2]at s1
 have o3:x2.opn=[]:=by rw [o2,o1]
 obtain ⟨i3,h3,c3,b3,p3⟩:=qeM bs hl i1 h1 p1 2 (by decide) (by decide)
 have ln:(yO.map S).length=29:=rfl
 unfold CU at b1 b3
 rw [o3]at s1
 simp only [List.map_nil]at s1
 cases c3 with
 |false=>
  refine ⟨i3,h3,x2, ?_,p3,d2,by omega⟩
  rw [qK qm9 rfl]
  unfold CU iDb
  rw [o3]
  simp only [List.map_nil]
  simp only [go_sem,qa,qb,qc,qd,qe,qf,reduceCtorEq,YW,qC,b1,b3,ll,ln,s1]
 |true=>
  have op:=qpK x2.clauses [117,110,107,110,111,119,110,47,49] (by have:=d2.l;omega) d2.wd false false _ (K2 (K6 false) _) (Zs _)
  unfold oDb at op
  simp only [List.map_cons,List.map_nil]at op
  refine ⟨i3,h3,⟨x2.clauses,[[117,110,107,110,111,119,110,47,49]]⟩, ?_,p3,⟨d2.c,d2.l,by simp⟩,by simp only;omega⟩
  rw [qK qm9 rfl]
  unfold CU iDb
  simp only [List.map_cons,List.map_nil]
  simp only [go_sem,qa,qb,qc,qd,qe,qf,reduceCtorEq,YW,qC,b1,b3,ll,ln,s1,op]
end Go.Vm
set_option maxHeartbeats 8000000
namespace Go.Vm
open Go.Lib (itoa join joinTail decDigits)
def Rt(t:Tm):Prop:= ∃ d,xo d t=true
theorem z7 {t:Tm} (h:Rt t): ∀ u ∈ t.kids,Rt u:=by
 obtain ⟨d,h⟩:=h
 exact fun u hu=>⟨d+1,(qir h).2 u hu⟩
theorem qbt {t:Tm} (h:Rt t):jX t=true:=by obtain ⟨d,h⟩:=h;exact (qir h).1
theorem Qv(p:Bool) {t:Tm} (h:Rt t):(wr p t).length+10≤60*nT t∧(wrR p t).length≤60*nT t:=by
 obtain ⟨d,h⟩:=h;exact qAr p t d h
theorem yL(p:Bool) (m:Int) {t:Tm} (h:Rt t):(held p m t).length+8≤60*nT t:=by
 have h1:=(Qv p h).1
 have h2:=Xi p m (zh t) (wr p t)
 unfold held
 omega
theorem jW {t:Tm} {s:Str} (h:zj t s 2=true):t.kind=4∧t.name=s∧ ∃ a b,t.kids=[a,b]:=by
 unfold zj at h
 simp only [Bool.and_eq_true,decide_eq_true_eq]at h
 refine ⟨h.1,h.2.1, ?_⟩
 have h2:t.kids.length=2:=by omega
 rcases hk:t.kids with _|⟨x,_|⟨y,_|⟨z,r⟩⟩⟩<;>rw [hk]at h2<;>simp at h2
 exact ⟨x,y,rfl⟩
theorem qlQ {t a b:Tm} {s:Str} (h1:t.kind=4) (h2:t.name=s) (h3:t.kids=[a,b]):zj t s 2=true:=by
 unfold zj;rw [decide_eq_true h1,decide_eq_true h2,h3];rfl
theorem js {t a b:Tm} (h:t.kids=[a,b]):nT t=nT a+nT b+1:=by
 have:=Jp t
 rw [h]at this
 simp only [nTs]at this
 omega
theorem qbP(p:Bool) (m:Int) (t:Tm):held p m t=zr p m (wk p t).prio (wk p t).raw:=by unfold held wr;rw [qAp]
theorem qfK(p:Bool) {t:Tm} (h:t.kind=1):wr p t=[95]++itoa t.num:=by rw [XJ];unfold QO;rw [if_pos h]
theorem qfJ(p:Bool) {t:Tm} (h:t.kind=3):wr p t=itoa t.num:=by rw [XJ];unfold QO;rw [if_neg (by omega),if_pos h]
theorem qfI(p:Bool) {t:Tm} (h:t.kind=2):wr p t=if t.name=[91,93]then [91,93]else if Yj t.name=true then [40]++zN t.name++[41]else zN t.name:=by
 rw [XJ];unfold QO;rw [if_neg (by omega),if_neg (by omega),if_pos h]
theorem qjb(p:Bool) {t a b:Tm} (h:zj t [46] 2=true) (hk:t.kids=[a,b]):wr p t=[91]++held p 999 a++wrR p b:=by
 obtain ⟨h1,h2,-⟩:=jW h
 rw [XJ,hk,qbP]
 unfold QO
 rw [if_neg (by omega),if_neg (by omega),if_neg (by omega)]
 simp only [List.map_cons,List.map_nil]
 rw [if_pos h2]
 rfl
theorem qja(p:Bool) {t a b:Tm} (h:t.kind=4) (hk:t.kids=[a,b]) (hi:(qD t.name).prio ≠ 0):wr p t=Yi p t.name (wk p a) (wk p b):=by
 rw [XJ,hk]
 unfold QO
 rw [if_neg (by omega),if_neg (by omega),if_neg (by omega)]
 simp only [List.map_cons,List.map_nil]
 rw [if_neg (by intro e;rw [e]at hi;exact hi rfl),if_pos hi]
theorem qq0(p:Bool) (s:Str) (ks:List Tm):Jh p s (ks.map (wk p))=zN s++[40]++join (ks.map (held p 999)) [44]++[41]:=by
 unfold Jh
 rw [List.map_map]
 have:((fun k:Kd=>zr p 999 k.prio k.raw) ∘ wk p)=held p 999:=by funext t;rw [qbP];rfl
 rw [this]
theorem qi9(p:Bool) {t:Tm} (h:t.kind=4) (h1:zj t [46] 2=false) (h2:zh t=0):wr p t=zN t.name++[40]++join (t.kids.map (held p 999)) [44]++[41]:=by
 rw [XJ, ← qq0]
 unfold QO
 rw [if_neg (by omega),if_neg (by omega),if_neg (by omega)]
 rcases hk:t.kids with _|⟨x,_|⟨y,_|⟨z,r⟩⟩⟩<;>simp only [List.map_cons,List.map_nil]
 have hn: ¬ t.name=[46]:=fun e=>by rw [qlQ h e hk]at h1;cases h1
 have hp: ¬ (qD t.name).prio ≠ 0:=by
  unfold zh at h2
  rw [if_pos ⟨h,by rw [hk];rfl⟩]at h2
  exact fun e=>e h2
 rw [if_neg hn,if_neg hp]
theorem qi8(p:Bool) {t a b:Tm} (h:zj t [46] 2=true) (hk:t.kids=[a,b]):wrR p t=[44]++held p 999 a++wrR p b:=by
 obtain ⟨h1,h2,-⟩:=jW h
 rw [qfH,hk,qbP]
 unfold JG
 rw [if_neg (by omega)]
 simp only [List.map_cons,List.map_nil]
 rw [if_pos ⟨h1,h2⟩]
 rfl
theorem qi7(p:Bool) {t:Tm} (h:yM t [91,93]=true):wrR p t=[93]:=by
 unfold yM at h
 simp only [Bool.and_eq_true,decide_eq_true_eq]at h
 rw [qfH]
 unfold JG
 rw [if_pos h]
theorem qi6(p:Bool) {t:Tm} (h:yM t [91,93]=false) (h1:zj t [46] 2=false):wrR p t=[124]++held p 999 t++[93]:=by
 have hn: ¬ (t.kind=2∧t.name=[91,93]):=fun ⟨e1,e2⟩=>by unfold yM at h;rw [decide_eq_true e1,decide_eq_true e2]at h;cases h
 rw [qfH]
 unfold JG
 rw [if_neg hn]
 rcases hk:t.kids with _|⟨x,_|⟨y,_|⟨z,r⟩⟩⟩<;>simp only [List.map_cons,List.map_nil]<;>try rfl
 rw [if_neg fun e=>by rw [qlQ e.1 e.2 hk]at h1;cases h1]
 rfl
theorem qrm {n:Int} (h:n < 0):itoa n=[45]++itoa (0 - n):=by
 unfold itoa
 rw [if_pos h,if_neg (by omega),show (0 - n).toNat=n.natAbs by omega]
 rfl
theorem qlV(x:Str) (r:List Str):join (x::r) [44]=x++joinTail [44] r:=Go.Lib.join_cons x r [44]
theorem qlT(x:Str) (r:List Str):joinTail [44] (x::r)=[44]++x++joinTail [44] r:=by simp [joinTail]
theorem x3 {R:Tm→V→Prop} {a b:Tm} {vs:List V} (h:RL R [a,b] vs): ∃ va vb,vs=[va,vb]∧R a va∧R b vb:=by
 simp only [RL]at h
 obtain ⟨va,r,rfl,h1,vb,r',rfl,h2,rfl⟩:=h
 exact ⟨va,vb,rfl,h1,h2⟩
end Go.Vm
namespace Go.Vm
open Go.Lib (itoa join joinTail)
theorem qu5(N:Nat) (hN:N≤401) (hW: ∀ u,nT u < N→Rt u→WT u→ ∀ v,BT u v→cr qg xt [v]=some (S (held false 999 u))):
 ∀ (n:Nat) (b:Tm),nT b≤n→nT b < N→Rt b→WT b→ ∀ (t a:Tm) (v:V),BT t v→t.kids=[a,b]→ ∀ acc:Str,acc.length+60*nT b≤2^40→
 ∃ t' v' a' b' acc',BT t' v'∧t'.kids=[a',b']∧zj b' [46] 2=false∧nT b'≤nT b∧Rt b'∧WT b'∧acc'++wrR false b'=acc++wrR false b∧acc'.length+60*nT b'≤2^40∧
  lw qg qa6 ⟨[(1,.p (100000,0) 0 0),(3,S acc)],[((100000,0),4,[v])]⟩=some (.exit 0,⟨[(1,.p (100000,0) 0 0),(3,S acc')],[((100000,0),4,[v'])]⟩):=by
 intro n
 induction n with
 |zero=>intro b hn;have:=ye b;omega
 |succ n ih=>
  intro b hn hbN hr hw t a v hb hk acc hacc
  obtain ⟨τ,vs,rfl,hv⟩:=qy hb
  rw [hk]at hv
  obtain ⟨va,vb,rfl,ha,hb'⟩:=x3 hv
  have is:=Jn b vb hb' [46] 2
  have ca:=kw ha
  have cb:=kw hb'
  cases h2:zj b [46] 2 with
  |false=>
   refine ⟨t,_,a,b,acc,hb,hk,h2,Nat.le_refl _,hr,hw,rfl,hacc, ?_⟩
   rw [h2]at is
   obtain ⟨τb,vsb,rfl,-⟩:=qy hb'
   rw [qr]
   simp only [go_sem,qa,qb,qc,qd,qe,qf,reduceCtorEq,qem,is]
  |true=>
   rw [h2]at is
   obtain ⟨-,-,a2,b2,hk2⟩:=jW h2
   have hnt:=js hk2
   have ra:=z7 hr a2 (by rw [hk2];simp)
   have rb:=z7 hr b2 (by rw [hk2];simp)
   have wa:=zp hw a2 (by rw [hk2];simp)
   have wb:=zp hw b2 (by rw [hk2];simp)
   have hl:=yL false 999 ra
   obtain ⟨t',v',a',b',acc',g1,g2,g3,g4,g5,g6,g7,g8,g9⟩:=ih b2 (by have:=ye a2;omega) (by omega) rb wb b a2 vb hb' hk2 (acc++[44]++held false 999 a2) (by simp only [List.length_append,List.length_cons,List.length_nil];omega)
   refine ⟨t',v',a',b',acc',g1,g2,g3,by omega,g5,g6, ?_,g8, ?_⟩
   ·rw [g7,qi8 false h2 hk2];simp only [List.append_assoc]
   ·obtain ⟨τb,vsb,rfl,hvb⟩:=qy hb'
    rw [hk2]at hvb
    obtain ⟨va2,vb2,rfl,ha2,hb2⟩:=x3 hvb
    have cw2:=hW a2 (by omega) ra wa va2 ha2
    have s1:qo .add (S acc) (S [44])=_:=qw (by simp only [List.length_cons,List.length_nil];omega)
    have s2:qo .add (S (acc++[44])) (S (held false 999 a2))=_:=qw (by simp only [List.length_append,List.length_cons,List.length_nil];omega)
    obtain ⟨τa,vsa,rfl,-⟩:=qy ha2
    obtain ⟨τ2,vs2,rfl,-⟩:=qy hb2
    rw [qr]
    simp only [go_sem,qa,qb,qc,qd,qe,qf,reduceCtorEq,qem,is,cw2,s1,s2]
    exact g9
theorem qu6(t:Tm) (h2:zj t [46] 2=true) (hN:nT t≤400) (hr:Rt t) (hw:WT t) (hW: ∀ u,nT u < nT t→Rt u→WT u→ ∀ v,BT u v→cr qg xt [v]=some (S (held false 999 u))) (v:V) (hb:BT t v):
 cr qg qgu [v]=some (S (wr false t)):=by
 obtain ⟨-,-,a,b,hk⟩:=jW h2
 have hnt:=js hk
 have ra:=z7 hr a (by rw [hk];simp)
 have rb:=z7 hr b (by rw [hk];simp)
 have wa:=zp hw a (by rw [hk];simp)
 have wb:=zp hw b (by rw [hk];simp)
 have hl:=yL false 999 ra
 have hpa:=ye a
 obtain ⟨t',v',a',b',acc',g1,g2,g3,g4,g5,g6,g7,g8,g9⟩:=qu5 (nT t) (by omega) hW (nT b) b (Nat.le_refl _) (by omega) rb wb t a v hb hk ([91]++held false 999 a) (by simp only [List.length_append,List.length_cons,List.length_nil];omega)
 have hl':=yL false 999 g5
 rw [qjb false h2 hk, ← g7]
 obtain ⟨τ,vs,rfl,hv⟩:=qy hb
 rw [hk]at hv
 obtain ⟨va,vb,rfl,ha,hb'⟩:=x3 hv
 obtain ⟨τ',vs',rfl,hv'⟩:=qy g1
 rw [g2]at hv'
 obtain ⟨va',vb',rfl,ha',hb2⟩:=x3 hv'
 have cw1:=hW a (by omega) ra wa va ha
 have cw2:=hW b' (by omega) g5 g6 vb' hb2
 have s1:qo .add (S [91]) (S (held false 999 a))=_:=qw (by simp only [List.length_cons,List.length_nil];omega)
 obtain ⟨τa,vsa,rfl,-⟩:=qy ha
 obtain ⟨τb,vsb,rfl,-⟩:=qy hb'
 obtain ⟨τc,vsc,rfl,-⟩:=qy ha'
 obtain ⟨τd,vsd,rfl,-⟩:=qy hb2
 rw [qn qxu rfl]
 simp only [List.cons_append,List.nil_append]at g9 s1
 cases hn:yM b' [91,93]with
 |true=>
  have s2:qo .add (S acc') (S [93])=_:=qw (by simp only [List.length_cons,List.length_nil];omega)
  rw [qi7 false hn]
  unfold yM at hn
  rw [Bool.and_eq_true]at hn
  simp only [go_sem,qa,qb,qc,qd,qe,qf,reduceCtorEq,ZP,cw1,s1,g9,hn.1,hn.2,s2]
 |false=>
  have s2:qo .add (S acc') (S [124])=_:=qw (by simp only [List.length_cons,List.length_nil];omega)
  have s3:qo .add (S (acc'++[124])) (S (held false 999 b'))=_:=qw (by simp only [List.length_append,List.length_cons,List.length_nil];omega)
  have s4:qo .add (S (acc'++[124]++held false 999 b')) (S [93])=_:=qw (by simp only [List.length_append,List.length_cons,List.length_nil];omega)
  have he:acc'++([124]++held false 999 b'++[93])=acc'++[124]++held false 999 b'++[93]:=by simp only [List.append_assoc]
  rw [qi6 false hn g3,he]
  unfold yM at hn
  cases d2:decide (b'.kind=2)with
  |false=>simp only [go_sem,qa,qb,qc,qd,qe,qf,reduceCtorEq,ZP,cw1,s1,g9,d2,s2,cw2,s3,s4]
  |true=>
   rw [d2,Bool.true_and]at hn
   simp only [go_sem,qa,qb,qc,qd,qe,qf,reduceCtorEq,ZP,cw1,s1,g9,d2,hn,s2,cw2,s3,s4]
theorem qu3(t:Tm) (τ:Bool) (vs:List V) (hv:RL BT t.kids vs) (hlim:t.kids.length≤5) (hks: ∀ u ∈ t.kids,∀ v,BT u v→cr qg xt [v]=some (S (held false 999 u))) (hbd: ∀ u ∈ t.kids,(held false 999 u).length≤30000) (m:Nat):
 ∀ (i:Nat) (acc:Str),i+m=t.kids.length→1≤i→acc.length+m*30001≤2^40→
 lw qg KW ⟨[(1,.p (100000,0) 0 0),(6,S acc),(7,I i)],[((100000,0),4,[.a [I t.kind,S t.name,I t.num,.i τ vs]])]⟩=
  some (.exit 1,⟨[(6,S (acc++joinTail [44] ((t.kids.drop i).map (held false 999))))],[((100000,0),4,[.a [I t.kind,S t.name,I t.num,.i τ vs]])]⟩):=by
 have hn:=zk hv
 induction m with
 |zero=>
  intro i acc hi h1 h2
  have h: ¬ (i:Int) < t.kids.length:=by omega
  rw [List.drop_eq_nil_of_le (by omega),qr]
  simp only [go_sem,qa,qb,qc,qd,qe,qf,reduceCtorEq,qbp,hn,h,List.map_nil,joinTail,List.flatten_nil,List.append_nil]
 |succ m ih=>
  intro i acc hi h1 h2
  have h:(i:Int) < t.kids.length:=by omega
  have h0:(0:Int) < i:=by omega
  obtain ⟨u,hu⟩:=zm (l:=t.kids) (i:=i) (by omega)
  have hm:=List.mem_of_getElem? hu
  obtain ⟨v,gv,hbt⟩:=xZ hv hu
  have a1:=fun T=>zy (τ:=τ) (T:=T) gv (kw hbt)
  have cc:=hks u hm v hbt
  have hl:=hbd u hm
  have e1:w64 ((i:Int)+1)=((i+1:Nat):Int):=by rw [qp]<;>omega
  have s1:qo .add (S acc) (S [44])=_:=qw (by simp only [List.length_cons,List.length_nil];omega)
  have s2:qo .add (S (acc++[44])) (S (held false 999 u))=_:=qw (by simp only [List.length_append,List.length_cons,List.length_nil];omega)
  have i1:=ih (i+1) (acc++[44]++held false 999 u) (by omega) (by omega) (by simp only [List.length_append,List.length_cons,List.length_nil];omega)
  have he:acc++([44]++held false 999 u++joinTail [44] ((t.kids.drop (i+1)).map (held false 999)))=acc++[44]++held false 999 u++joinTail [44] ((t.kids.drop (i+1)).map (held false 999)):=by simp only [List.append_assoc]
  rw [y1 hu,List.map_cons,qlT,he]
  obtain ⟨σ1,ws,rfl,-⟩:=qy hbt
  rw [qr]
  simp only [go_sem,qa,qb,qc,qd,qe,qf,reduceCtorEq,qbp,hn,h,h0,a1,gv,cc,e1,s1,s2]
  exact i1
theorem qu2(t:Tm) (τ:Bool) (vs:List V) (hv:RL BT t.kids vs) (hlim:t.kids.length≤5) (h1:1≤t.kids.length) (hks: ∀ u ∈ t.kids,∀ v,BT u v→cr qg xt [v]=some (S (held false 999 u))) (hbd: ∀ u ∈ t.kids,(held false 999 u).length≤30000) (acc:Str) (hacc:acc.length≤100000):
 lw qg KW ⟨[(1,.p (100000,0) 0 0),(6,S acc),(7,I 0)],[((100000,0),4,[.a [I t.kind,S t.name,I t.num,.i τ vs]])]⟩=
  some (.exit 1,⟨[(6,S (acc++join (t.kids.map (held false 999)) [44]))],[((100000,0),4,[.a [I t.kind,S t.name,I t.num,.i τ vs]])]⟩):=by
 have hn:=zk hv
 have h:(0:Int) < t.kids.length:=by omega
 obtain ⟨u,hu⟩:=zm (l:=t.kids) (i:=0) (by omega)
 have hm:=List.mem_of_getElem? hu
 obtain ⟨v,gv,hbt⟩:=xZ hv hu
 have a1:=fun T=>zy (τ:=τ) (T:=T) gv (kw hbt)
 have cc:=hks u hm v hbt
 have hl:=hbd u hm
 have e1:w64 ((0:Int)+1)=((1:Nat):Int):=rfl
 have s2:qo .add (S acc) (S (held false 999 u))=_:=qw (by omega)
 have i1:=qu3 t τ vs hv hlim hks hbd (t.kids.length - 1) 1 (acc++held false 999 u) (by omega) (by omega) (by simp only [List.length_append];omega)
 have hd:=y1 hu
 rw [List.drop_zero]at hd
 have hj:join (t.kids.map (held false 999)) [44]=held false 999 u++joinTail [44] ((t.kids.drop 1).map (held false 999)):=by
  conv => lhs;rw [hd]
  rw [List.map_cons,qlV]
 rw [hj, ← List.append_assoc]
 simp only [Int.natCast_zero]at a1
 obtain ⟨σ1,ws,rfl,-⟩:=qy hbt
 rw [qr]
 simp only [go_sem,qa,qb,qc,qd,qe,qf,reduceCtorEq,qbp,hn,h,a1,gv,cc,e1,s2]
 exact i1
theorem qvi(N:Nat) (hN:N≤401) (hW: ∀ u,nT u < N→Rt u→WT u→ ∀ v,BT u v→cr qg xd [v,I 999]=some (S (held true 999 u))):
 ∀ (n:Nat) (b:Tm),nT b≤n→nT b < N→Rt b→WT b→ ∀ (t a:Tm) (v:V),BT t v→t.kids=[a,b]→ ∀ acc:Str,acc.length+60*nT b≤2^40→
 ∃ t' v' a' b' acc',BT t' v'∧t'.kids=[a',b']∧zj b' [46] 2=false∧nT b'≤nT b∧Rt b'∧WT b'∧acc'++wrR true b'=acc++wrR true b∧acc'.length+60*nT b'≤2^40∧
  lw qg qa9 ⟨[(1,.p (100000,0) 0 0),(3,S acc)],[((100000,0),4,[v])]⟩=some (.exit 0,⟨[(1,.p (100000,0) 0 0),(3,S acc')],[((100000,0),4,[v'])]⟩):=by
 intro n
 induction n with
 |zero=>intro b hn;have:=ye b;omega
 |succ n ih=>
  intro b hn hbN hr hw t a v hb hk acc hacc
  obtain ⟨τ,vs,rfl,hv⟩:=qy hb
  rw [hk]at hv
  obtain ⟨va,vb,rfl,ha,hb'⟩:=x3 hv
  have is:=Jn b vb hb' [46] 2
  have ca:=kw ha
  have cb:=kw hb'
  cases h2:zj b [46] 2 with
  |false=>
   refine ⟨t,_,a,b,acc,hb,hk,h2,Nat.le_refl _,hr,hw,rfl,hacc, ?_⟩
   rw [h2]at is
   obtain ⟨τb,vsb,rfl,-⟩:=qy hb'
   rw [qr]
   simp only [go_sem,qa,qb,qc,qd,qe,qf,reduceCtorEq,qeo,is]
  |true=>
   rw [h2]at is
   obtain ⟨-,-,a2,b2,hk2⟩:=jW h2
   have hnt:=js hk2
   have ra:=z7 hr a2 (by rw [hk2];simp)
   have rb:=z7 hr b2 (by rw [hk2];simp)
   have wa:=zp hw a2 (by rw [hk2];simp)
   have wb:=zp hw b2 (by rw [hk2];simp)
   have hl:=yL true 999 ra
   obtain ⟨t',v',a',b',acc',g1,g2,g3,g4,g5,g6,g7,g8,g9⟩:=ih b2 (by have:=ye a2;omega) (by omega) rb wb b a2 vb hb' hk2 (acc++[44]++held true 999 a2) (by simp only [List.length_append,List.length_cons,List.length_nil];omega)
   refine ⟨t',v',a',b',acc',g1,g2,g3,by omega,g5,g6, ?_,g8, ?_⟩
   ·rw [g7,qi8 true h2 hk2];simp only [List.append_assoc]
   ·obtain ⟨τb,vsb,rfl,hvb⟩:=qy hb'
    rw [hk2]at hvb
    obtain ⟨va2,vb2,rfl,ha2,hb2⟩:=x3 hvb
    have cw2:=hW a2 (by omega) ra wa va2 ha2
    have s1:qo .add (S acc) (S [44])=_:=qw (by simp only [List.length_cons,List.length_nil];omega)
    have s2:qo .add (S (acc++[44])) (S (held true 999 a2))=_:=qw (by simp only [List.length_append,List.length_cons,List.length_nil];omega)
    obtain ⟨τa,vsa,rfl,-⟩:=qy ha2
    obtain ⟨τ2,vs2,rfl,-⟩:=qy hb2
    rw [qr]
    simp only [go_sem,qa,qb,qc,qd,qe,qf,reduceCtorEq,qeo,is,cw2,s1,s2]
    exact g9
theorem qvj(t:Tm) (h2:zj t [46] 2=true) (hN:nT t≤400) (hr:Rt t) (hw:WT t) (hW: ∀ u,nT u < nT t→Rt u→WT u→ ∀ v,BT u v→cr qg xd [v,I 999]=some (S (held true 999 u))) (v:V) (hb:BT t v):
 cr qg qgE [v]=some (S (wr true t)):=by
 obtain ⟨-,-,a,b,hk⟩:=jW h2
 have hnt:=js hk
 have ra:=z7 hr a (by rw [hk];simp)
 have rb:=z7 hr b (by rw [hk];simp)
 have wa:=zp hw a (by rw [hk];simp)
 have wb:=zp hw b (by rw [hk];simp)
 have hl:=yL true 999 ra
 have hpa:=ye a
 obtain ⟨t',v',a',b',acc',g1,g2,g3,g4,g5,g6,g7,g8,g9⟩:=qvi (nT t) (by omega) hW (nT b) b (Nat.le_refl _) (by omega) rb wb t a v hb hk ([91]++held true 999 a) (by simp only [List.length_append,List.length_cons,List.length_nil];omega)
 have hl':=yL true 999 g5
 rw [qjb true h2 hk, ← g7]
 obtain ⟨τ,vs,rfl,hv⟩:=qy hb
 rw [hk]at hv
 obtain ⟨va,vb,rfl,ha,hb'⟩:=x3 hv
 obtain ⟨τ',vs',rfl,hv'⟩:=qy g1
 rw [g2]at hv'
 obtain ⟨va',vb',rfl,ha',hb2⟩:=x3 hv'
 have cw1:=hW a (by omega) ra wa va ha
 have cw2:=hW b' (by omega) g5 g6 vb' hb2
 have s1:qo .add (S [91]) (S (held true 999 a))=_:=qw (by simp only [List.length_cons,List.length_nil];omega)
 obtain ⟨τa,vsa,rfl,-⟩:=qy ha
 obtain ⟨τb,vsb,rfl,-⟩:=qy hb'
 obtain ⟨τc,vsc,rfl,-⟩:=qy ha'
 obtain ⟨τd,vsd,rfl,-⟩:=qy hb2
 rw [qn qxG rfl]
 simp only [List.cons_append,List.nil_append]at g9 s1
 cases hn:yM b' [91,93]with
 |true=>
  have s2:qo .add (S acc') (S [93])=_:=qw (by simp only [List.length_cons,List.length_nil];omega)
  rw [qi7 true hn]
  unfold yM at hn
  rw [Bool.and_eq_true]at hn
  simp only [go_sem,qa,qb,qc,qd,qe,qf,reduceCtorEq,ZR,cw1,s1,g9,hn.1,hn.2,s2]
 |false=>
  have s2:qo .add (S acc') (S [124])=_:=qw (by simp only [List.length_cons,List.length_nil];omega)
  have s3:qo .add (S (acc'++[124])) (S (held true 999 b'))=_:=qw (by simp only [List.length_append,List.length_cons,List.length_nil];omega)
  have s4:qo .add (S (acc'++[124]++held true 999 b')) (S [93])=_:=qw (by simp only [List.length_append,List.length_cons,List.length_nil];omega)
  have he:acc'++([124]++held true 999 b'++[93])=acc'++[124]++held true 999 b'++[93]:=by simp only [List.append_assoc]
  rw [qi6 true hn g3,he]
  unfold yM at hn
  cases d2:decide (b'.kind=2)with
  |false=>simp only [go_sem,qa,qb,qc,qd,qe,qf,reduceCtorEq,ZR,cw1,s1,g9,d2,s2,cw2,s3,s4]
  |true=>
   rw [d2,Bool.true_and]at hn
   simp only [go_sem,qa,qb,qc,qd,qe,qf,reduceCtorEq,ZR,cw1,s1,g9,d2,hn,s2,cw2,s3,s4]
theorem qvh(t:Tm) (τ:Bool) (vs:List V) (hv:RL BT t.kids vs) (hlim:t.kids.length≤5) (hks: ∀ u ∈ t.kids,∀ v,BT u v→cr qg xd [v,I 999]=some (S (held true 999 u))) (hbd: ∀ u ∈ t.kids,(held true 999 u).length≤30000) (m:Nat):
 ∀ (i:Nat) (acc:Str),i+m=t.kids.length→1≤i→acc.length+m*30001≤2^40→
 lw qg KX ⟨[(1,.p (100000,0) 0 0),(6,S acc),(7,I i)],[((100000,0),4,[.a [I t.kind,S t.name,I t.num,.i τ vs]])]⟩=
  some (.exit 0,⟨[(6,S (acc++joinTail [44] ((t.kids.drop i).map (held true 999))))],[((100000,0),4,[.a [I t.kind,S t.name,I t.num,.i τ vs]])]⟩):=by
 have hn:=zk hv
 induction m with
 |zero=>
  intro i acc hi h1 h2
  have h: ¬ (i:Int) < t.kids.length:=by omega
  rw [List.drop_eq_nil_of_le (by omega),qr]
  simp only [go_sem,qa,qb,qc,qd,qe,qf,reduceCtorEq,qbq,hn,h,List.map_nil,joinTail,List.flatten_nil,List.append_nil]
 |succ m ih=>
  intro i acc hi h1 h2
  have h:(i:Int) < t.kids.length:=by omega
  have h0:(0:Int) < i:=by omega
  obtain ⟨u,hu⟩:=zm (l:=t.kids) (i:=i) (by omega)
  have hm:=List.mem_of_getElem? hu
  obtain ⟨v,gv,hbt⟩:=xZ hv hu
  have a1:=fun T=>zy (τ:=τ) (T:=T) gv (kw hbt)
  have cc:=hks u hm v hbt
  have hl:=hbd u hm
  have e1:w64 ((i:Int)+1)=((i+1:Nat):Int):=by rw [qp]<;>omega
  have s1:qo .add (S acc) (S [44])=_:=qw (by simp only [List.length_cons,List.length_nil];omega)
  have s2:qo .add (S (acc++[44])) (S (held true 999 u))=_:=qw (by simp only [List.length_append,List.length_cons,List.length_nil];omega)
  have i1:=ih (i+1) (acc++[44]++held true 999 u) (by omega) (by omega) (by simp only [List.length_append,List.length_cons,List.length_nil];omega)
  have he:acc++([44]++held true 999 u++joinTail [44] ((t.kids.drop (i+1)).map (held true 999)))=acc++[44]++held true 999 u++joinTail [44] ((t.kids.drop (i+1)).map (held true 999)):=by simp only [List.append_assoc]
  rw [y1 hu,List.map_cons,qlT,he]
  obtain ⟨σ1,ws,rfl,-⟩:=qy hbt
  rw [qr]
  simp only [go_sem,qa,qb,qc,qd,qe,qf,reduceCtorEq,qbq,hn,h,h0,a1,gv,cc,e1,s1,s2]
  exact i1
theorem qvg(t:Tm) (τ:Bool) (vs:List V) (hv:RL BT t.kids vs) (hlim:t.kids.length≤5) (h1:1≤t.kids.length) (hks: ∀ u ∈ t.kids,∀ v,BT u v→cr qg xd [v,I 999]=some (S (held true 999 u))) (hbd: ∀ u ∈ t.kids,(held true 999 u).length≤30000) (acc:Str) (hacc:acc.length≤100000):
 lw qg KX ⟨[(1,.p (100000,0) 0 0),(6,S acc),(7,I 0)],[((100000,0),4,[.a [I t.kind,S t.name,I t.num,.i τ vs]])]⟩=
  some (.exit 0,⟨[(6,S (acc++join (t.kids.map (held true 999)) [44]))],[((100000,0),4,[.a [I t.kind,S t.name,I t.num,.i τ vs]])]⟩):=by
 have hn:=zk hv
 have h:(0:Int) < t.kids.length:=by omega
 obtain ⟨u,hu⟩:=zm (l:=t.kids) (i:=0) (by omega)
 have hm:=List.mem_of_getElem? hu
 obtain ⟨v,gv,hbt⟩:=xZ hv hu
 have a1:=fun T=>zy (τ:=τ) (T:=T) gv (kw hbt)
 have cc:=hks u hm v hbt
 have hl:=hbd u hm
 have e1:w64 ((0:Int)+1)=((1:Nat):Int):=rfl
 have s2:qo .add (S acc) (S (held true 999 u))=_:=qw (by omega)
 have i1:=qvh t τ vs hv hlim hks hbd (t.kids.length - 1) 1 (acc++held true 999 u) (by omega) (by omega) (by simp only [List.length_append];omega)
 have hd:=y1 hu
 rw [List.drop_zero]at hd
 have hj:join (t.kids.map (held true 999)) [44]=held true 999 u++joinTail [44] ((t.kids.drop 1).map (held true 999)):=by
  conv => lhs;rw [hd]
  rw [List.map_cons,qlV]
 rw [hj, ← List.append_assoc]
 simp only [Int.natCast_zero]at a1
 obtain ⟨σ1,ws,rfl,-⟩:=qy hbt
 rw [qr]
 simp only [go_sem,qa,qb,qc,qd,qe,qf,reduceCtorEq,qbq,hn,h,a1,gv,cc,e1,s2]
 exact i1
end Go.Vm
namespace Go.Vm
open Go.Lib (itoa join joinTail)
theorem qfF:((2:Nat):Int)=2:=rfl
theorem qh5 {t:Tm}:decide (zh t ≠ 0)=(decide (t.kind=4)&&(decide ((qD t.name).prio ≠ 0)&&decide ((t.kids.length:Int)=2))):=by
 unfold zh
 by_cases h1:t.kind=4<;>by_cases h2:t.kids.length=2
 ·rw [if_pos ⟨h1,h2⟩,decide_eq_true h1,decide_eq_true (show (t.kids.length:Int)=2 by omega),Bool.true_and,Bool.and_true]
 ·rw [if_neg (fun h=>h2 h.2),decide_eq_false (show ¬ (t.kids.length:Int)=2 by omega),Bool.and_false,Bool.and_false];rfl
 ·rw [if_neg (fun h=>h1 h.1),decide_eq_false h1,Bool.false_and];rfl
 ·rw [if_neg (fun h=>h1 h.1),decide_eq_false h1,Bool.false_and];rfl
theorem qi2 {t:Tm} (h:(t.kids.length:Int)=2): ∃ a b,t.kids=[a,b]:=by
 have h2:t.kids.length=2:=by omega
 rcases hk:t.kids with _|⟨x,_|⟨y,_|⟨z,r⟩⟩⟩<;>rw [hk]at h2<;>simp at h2
 exact ⟨x,y,rfl⟩
theorem qu7: ∀ (n:Nat) (t:Tm),nT t≤n→nT t≤400→Rt t→WT t→ ∀ v,BT t v→cr qg xt [v]=some (S (held false 999 t)):=by
 intro n
 induction n with
 |zero=>intro t hn;have:=ye t;omega
 |succ n ih=>
  intro t hn hN hr hw v hb
  rw [qhn]
  have hW: ∀ u,nT u < nT t→Rt u→WT u→ ∀ v,BT u v→cr qg xt [v]=some (S (held false 999 u)):=fun u h1 h2 h3=>ih u (by omega) (by omega) h2 h3
  obtain ⟨hk4,hnm,hnum,hkid,hnok⟩:=Jq (qbt hr)
  have at_:=qoC t.name (by omega)
  have atl:=qbB t.name
  have hrow:=fun h2=>qu6 t h2 hN hr hw hW v hb
  have is:=Jn t v hb [46] 2
  have inf:=kZ t.name
  unfold opV at inf
  have op:=qu4 t.name
  obtain ⟨τ,vs,rfl,hv⟩:=qy hb
  have hl:=zk hv
  rw [qn qxv rfl]
  by_cases k1:t.kind=1
  ·have d1:decide (t.kind=1)=true:=decide_eq_true k1
   have hd:=hnum (.inr k1)
   have dec:=qfw t.num (by omega) (by omega)
   have:=Jj t.num (by omega) (by omega)
   have s1:qo .add (S [95]) (S (itoa t.num))=_:=qw (by simp only [List.length_cons,List.length_nil];omega)
   rw [qfK false k1]
   simp only [go_sem,qa,qb,qc,qd,qe,qf,reduceCtorEq,xE,d1,dec,s1]
  have d1:decide (t.kind=1)=false:=decide_eq_false k1
  by_cases k3:t.kind=3
  ·have d3:decide (t.kind=3)=true:=decide_eq_true k3
   have hd:=hnum (.inl k3)
   rw [qfJ false k3]
   by_cases hneg:t.num < 0
   ·have dec:=qfw (0 - t.num) (by omega) (by omega)
    have:=Jj (0 - t.num) (by omega) (by omega)
    have e0:w64 (0 - t.num)=0 - t.num:=by rw [qp]<;>omega
    have s1:qo .add (S [45]) (S (itoa (0 - t.num)))=_:=qw (by simp only [List.length_cons,List.length_nil];omega)
    rw [qrm hneg]
    simp only [go_sem,qa,qb,qc,qd,qe,qf,reduceCtorEq,xE,d1,d3,hneg,e0,dec,s1]
   ·have dec:=qfw t.num (by omega) (by omega)
    simp only [go_sem,qa,qb,qc,qd,qe,qf,reduceCtorEq,xE,d1,d3,hneg,dec]
  have d3:decide (t.kind=3)=false:=decide_eq_false k3
  by_cases k2:t.kind=2
  ·have d2:decide (t.kind=2)=true:=decide_eq_true k2
   rw [qfI false k2]
   by_cases hnil:t.name=[91,93]
   ·have dn:decide (t.name=[91,93])=true:=decide_eq_true hnil
    rw [if_pos hnil]
    simp only [go_sem,qa,qb,qc,qd,qe,qf,reduceCtorEq,xE,d1,d3,d2,dn]
   have dn:decide (t.name=[91,93])=false:=decide_eq_false hnil
   rw [if_neg hnil]
   cases ho:Yj t.name with
   |true=>
    rw [ho]at op
    have s1:qo .add (S [40]) (S (zN t.name))=_:=qw (by simp only [List.length_cons,List.length_nil];omega)
    have s2:qo .add (S ([40]++zN t.name)) (S [41])=_:=qw (by simp only [List.length_append,List.length_cons,List.length_nil];omega)
    simp only [List.cons_append,List.nil_append]at s1 s2
    rw [if_pos rfl]
    simp only [go_sem,qa,qb,qc,qd,qe,qf,reduceCtorEq,xE,d1,d3,d2,dn,op,at_,s1,s2]
   |false=>
    rw [ho]at op
    rw [if_neg (by decide)]
    simp only [go_sem,qa,qb,qc,qd,qe,qf,reduceCtorEq,xE,d1,d3,d2,dn,op,at_]
  have d2:decide (t.kind=2)=false:=decide_eq_false k2
  have k4:t.kind=4:=by rcases hk4 with h|h|h|h<;>first|exact h|contradiction
  have d4:decide (t.kind=4)=true:=decide_eq_true k4
  cases hp:zj t [46] 2 with
  |true=>
   have hrw:=hrow hp
   rw [hp]at is
   simp only [go_sem,qa,qb,qc,qd,qe,qf,reduceCtorEq,xE,d1,d3,d2,is,hrw]
  |false=>
  rw [hp]at is
  have pi:=qh5 (t:=t)
  rw [d4,Bool.true_and]at pi
  have hkl:=(hkid k4).2
  have h1k:=(hkid k4).1
  have hks: ∀ u ∈ t.kids,∀ v,BT u v→cr qg xt [v]=some (S (held false 999 u)):=fun u hu=>hW u (by have:=Jp t;have:=Xq hu;omega) (z7 hr u hu) (zp hw u hu)
  have hbd: ∀ u ∈ t.kids,(held false 999 u).length≤30000:=fun u hu=>by
   have h1:=yL false 999 (z7 hr u hu)
   have:=Jp t;have:=Xq hu;omega
  have gen:zh t=0→ ∃ acc',join (t.kids.map (held false 999)) [44]=acc'∧acc'.length≤200000∧qo .add (S (zN t.name)) (S [40])=some (S (zN t.name++[40]))∧qo .add (S (zN t.name++[40]++acc')) (S [41])=some (S (wr false t)):=by
   intro h0
   have hw':=qi9 false k4 hp h0
   have hlen:=(Qv false hr).1
   have hL:(join (t.kids.map (held false 999)) [44]).length≤200000:=by
    rw [hw']at hlen
    simp only [List.length_append]at hlen
    omega
   refine ⟨_,rfl,hL,qw (by simp only [List.length_cons,List.length_nil];omega), ?_⟩
   rw [hw']
   exact qw (by simp only [List.length_append,List.length_cons,List.length_nil];omega)
  have first:=qu2 t τ vs hv hkl h1k hks hbd (zN t.name++[40]) (by simp only [List.length_append,List.length_cons,List.length_nil];omega)
  by_cases hi:(qD t.name).prio ≠ 0
  ·have di:decide ((qD t.name).prio ≠ 0)=true:=decide_eq_true hi
   rw [di]at inf pi
   by_cases h2:(t.kids.length:Int)=2
   ·have d22:decide ((t.kids.length:Int)=2)=true:=decide_eq_true h2
    obtain ⟨a,b,hk⟩:=qi2 h2
    have hnt:=js hk
    have ha0:=hks a (by rw [hk];simp)
    have hb0:=hks b (by rw [hk];simp)
    have hla:=hbd a (by rw [hk];simp)
    have hlb:=hbd b (by rw [hk];simp)
    rw [hk]at hv
    obtain ⟨va,vb,rfl,hva,hvb⟩:=x3 hv
    have ca:=ha0 va hva
    have cb:=hb0 vb hvb
    rw [qhn]at ca cb hla hlb
    obtain ⟨τa,vsa,rfl,-⟩:=qy hva
    obtain ⟨τb,vsb,rfl,-⟩:=qy hvb
    rw [qja false k4 hk hi]
    have hst:=qfu t.name
    have s1:qo .add (S [40]) (S (wr false a))=_:=qw (by simp only [List.length_cons,List.length_nil];omega)
    have s2:qo .add (S ([40]++wr false a)) (S [32])=_:=qw (by simp only [List.length_append,List.length_cons,List.length_nil];omega)
    have s3:qo .add (S ([40]++wr false a++[32])) (S (yF t.name))=_:=qw (by simp only [List.length_append,List.length_cons,List.length_nil];omega)
    have s4:qo .add (S ([40]++wr false a++[32]++yF t.name)) (S [32])=_:=qw (by simp only [List.length_append,List.length_cons,List.length_nil];omega)
    have s5:qo .add (S ([40]++wr false a++[32]++yF t.name++[32])) (S (wr false b))=_:=qw (by simp only [List.length_append,List.length_cons,List.length_nil];omega)
    have s6:qo .add (S ([40]++wr false a++[32]++yF t.name++[32]++wr false b)) (S [41])=_:=qw (by simp only [List.length_append,List.length_cons,List.length_nil];omega)
    unfold Yi
    rw [if_neg (by decide)]
    show _=some (S ([40]++wr false a++[32]++yF t.name++[32]++wr false b++[41]))
    have hz: ¬ (qD t.name).prio=0:=hi
    rw [hk]at hl
    by_cases hc:t.name=[44]
    ·have dc:decide (t.name=[44])=true:=decide_eq_true hc
     unfold yF at s3 s4 s5 s6 ⊢
     rw [if_pos hc]at s3 s4 s5 s6 ⊢
     simp only [List.cons_append,List.nil_append]at s1 s2 s3 s4 s5 s6 ⊢
     simp only [go_sem,qa,qb,qc,qd,qe,qf,reduceCtorEq,xE,d1,d3,d2,is,inf,hz,qfF,at_,dc,ca,cb,s1,s2,s3,s4,s5,s6,List.length_cons,List.length_nil]
    ·have dc:decide (t.name=[44])=false:=decide_eq_false hc
     unfold yF at s3 s4 s5 s6 ⊢
     rw [if_neg hc]at s3 s4 s5 s6 ⊢
     simp only [List.cons_append,List.nil_append]at s1 s2 s3 s4 s5 s6 ⊢
     simp only [go_sem,qa,qb,qc,qd,qe,qf,reduceCtorEq,xE,d1,d3,d2,is,inf,hz,qfF,at_,dc,ca,cb,s1,s2,s3,s4,s5,s6,List.length_cons,List.length_nil]
   ·have d22:decide ((t.kids.length:Int)=2)=false:=decide_eq_false h2
    rw [d22]at pi
    have h0:zh t=0:=by simpa using pi
    obtain ⟨acc',g1,g2,g3,g4⟩:=gen h0
    rw [g1]at first
    have hz: ¬ (qD t.name).prio=0:=hi
    simp only [go_sem,qa,qb,qc,qd,qe,qf,reduceCtorEq,xE,d1,d3,d2,is,inf,hz,d22,hl,at_,g3,first,g4]
  ·have di:decide ((qD t.name).prio ≠ 0)=false:=decide_eq_false hi
   rw [di]at inf pi
   have h0:zh t=0:=by simpa using pi
   obtain ⟨acc',g1,g2,g3,g4⟩:=gen h0
   rw [g1]at first
   have hz:(qD t.name).prio=0:=by simpa using hi
   simp only [go_sem,qa,qb,qc,qd,qe,qf,reduceCtorEq,xE,d1,d3,d2,is,inf,hz,hl,at_,g3,first,g4]
theorem qma(t:Tm) (hN:nT t≤400) (hr:Rt t) (hw:WT t) (v:V) (hb:BT t v):cr qg xt [v]=some (S (wr false t)):=by
 rw [qu7 (nT t) t (Nat.le_refl _) hN hr hw v hb,qhn]
end Go.Vm
namespace Go.Vm
open Go.Lib (itoa join joinTail)
theorem qAx(p:Bool) (gk:Nat) (N:Nat) (hN:N≤401) (hW: ∀ u,nT u < N→Rt u→WT u→ ∀ v,BT u v→cr qg gk [v]=some (S (held p 999 u))):
 ∀ (n:Nat) (b:Tm),nT b≤n→nT b < N→Rt b→WT b→ ∀ (v:V),BT b v→ ∀ acc:Str,acc.length+60*nT b≤2^40→
 ∃ b' v' acc',BT b' v'∧zj b' [46] 2=false∧nT b'≤nT b∧Rt b'∧WT b'∧acc'++wrR p b'=acc++wrR p b∧acc'.length+60*nT b'≤2^40∧
  lw qg qaQ ⟨[(1,Fc gk),(7,S acc),(8,.p (100000,0) 0 0)],[((100000,0),4,[v])]⟩=some (.exit 1,⟨[(1,Fc gk),(7,S acc'),(8,.p (100000,0) 0 0)],[((100000,0),4,[v'])]⟩):=by
 intro n
 induction n with
 |zero=>intro b hn;have:=ye b;omega
 |succ n ih=>
  intro b hn hbN hr hw v hb acc hacc
  have is:=qlK b v hb
  cases h2:zj b [46] 2 with
  |false=>
   refine ⟨b,v,acc,hb,h2,Nat.le_refl _,hr,hw,rfl,hacc, ?_⟩
   rw [h2]at is
   obtain ⟨τb,vsb,rfl,-⟩:=qy hb
   rw [qr]
   simp only [go_sem,qa,qb,qc,qd,qe,qf,reduceCtorEq,qeh,is]
  |true=>
   rw [h2]at is
   obtain ⟨-,-,a2,b2,hk2⟩:=jW h2
   have hnt:=js hk2
   have ra:=z7 hr a2 (by rw [hk2];simp)
   have rb:=z7 hr b2 (by rw [hk2];simp)
   have wa:=zp hw a2 (by rw [hk2];simp)
   have wb:=zp hw b2 (by rw [hk2];simp)
   have hl:=yL p 999 ra
   obtain ⟨τb,vsb,rfl,hvb⟩:=qy hb
   rw [hk2]at hvb
   obtain ⟨va2,vb2,rfl,ha2,hb2⟩:=x3 hvb
   obtain ⟨b',v',acc',g1,g3,g4,g5,g6,g7,g8,g9⟩:=ih b2 (by have:=ye a2;omega) (by omega) rb wb vb2 hb2 (acc++([44]++held p 999 a2)) (by simp only [List.length_append,List.length_cons,List.length_nil];omega)
   refine ⟨b',v',acc',g1,g3,by omega,g5,g6, ?_,g8, ?_⟩
   ·rw [g7,qi8 p h2 hk2];simp only [List.append_assoc]
   ·have cw2:=hW a2 (by omega) ra wa va2 ha2
    have s1:qo .add (S [44]) (S (held p 999 a2))=_:=qw (by simp only [List.length_cons,List.length_nil];omega)
    have s2:qo .add (S acc) (S ([44]++held p 999 a2))=_:=qw (by simp only [List.length_append,List.length_cons,List.length_nil];omega)
    simp only [List.cons_append,List.nil_append]at s1 s2 g9
    obtain ⟨τa,vsa,rfl,-⟩:=qy ha2
    obtain ⟨τ2,vs2,rfl,-⟩:=qy hb2
    rw [qr]
    simp only [go_sem,qa,qb,qc,qd,qe,qf,reduceCtorEq,qeh,is,cw2,s1,s2]
    exact g9
theorem qAw(p:Bool) (gk:Nat) (t:Tm) (τ:Bool) (vs:List V) (hv:RL BT t.kids vs) (hlim:t.kids.length≤5) (hks: ∀ u ∈ t.kids,∀ v,BT u v→cr qg gk [v]=some (S (held p 999 u))) (m:Nat):
 ∀ (i:Nat) (acc:List Str),i+m=t.kids.length→acc.length=i→
 lw qg qaP ⟨[(1,Fc gk),(3,.p (100000,0) 0 0),(9,.s (100000,1) 0 acc.length),(98,.i τ vs),(99,I t.kids.length),(100,I i)],[((100000,0),4,[.a [I t.kind,S t.name,I t.num,.i τ vs]]),((100000,1),1,acc.map S)]⟩=
  some (.exit 3,⟨[(3,.p (100000,0) 0 0),(9,.s (100000,1) 0 (acc.length+((t.kids.drop i).map (held p 999)).length))],[((100000,0),4,[.a [I t.kind,S t.name,I t.num,.i τ vs]]),((100000,1),1,(acc++(t.kids.drop i).map (held p 999)).map S)]⟩):=by
 have hn:=zk hv
 induction m with
 |zero=>
  intro i acc hi ha
  have h: ¬ (i:Int) < t.kids.length:=by omega
  rw [List.drop_eq_nil_of_le (by omega),List.map_nil,List.append_nil,List.length_nil,Nat.add_zero,qr]
  simp only [go_sem,qa,qb,qc,qd,qe,qf,reduceCtorEq,qeg,hn,h]
 |succ m ih=>
  intro i acc hi ha
  have h:(i:Int) < t.kids.length:=by omega
  obtain ⟨u,hu⟩:=zm (l:=t.kids) (i:=i) (by omega)
  have hm:=List.mem_of_getElem? hu
  obtain ⟨v,gv,hbt⟩:=xZ hv hu
  have a1:=fun T=>zy (τ:=τ) (T:=T) gv (kw hbt)
  have cc:=hks u hm v hbt
  have e1:w64 ((i:Int)+1)=((i+1:Nat):Int):=by rw [qp]<;>omega
  have l1:decide ((acc.length+1)*16≤lim)=true:=decide_eq_true (by rw [ze];omega)
  have l2:decide (acc.length+1≤lim)=true:=decide_eq_true (by rw [ze];omega)
  have i1:=ih (i+1) (acc++[held p 999 u]) (by omega) (by simp only [List.length_append,List.length_cons,List.length_nil];omega)
  have ea:acc.length+(((t.kids.drop (i+1)).map (held p 999)).length+1)=acc.length+1+((t.kids.drop (i+1)).map (held p 999)).length:=by omega
  rw [List.append_assoc,List.singleton_append,List.length_append,List.length_cons,List.length_nil,Nat.zero_add]at i1
  rw [y1 hu,List.map_cons,List.length_cons,ea]
  obtain ⟨σ1,ws,rfl,-⟩:=qy hbt
  rw [qr]
  simp only [go_sem,qa,qb,qc,qd,qe,qf,reduceCtorEq,qeg,hn,h,a1,gv,cc,e1,l1,l2,List.length_cons,List.length_nil]
  simp only [List.length_map]at i1 ⊢
  exact i1
theorem qAv(p:Bool) (gk gi:Nat) (t:Tm) (hN:nT t≤400) (hr:Rt t) (hw:WT t)
 (hW: ∀ u,nT u < nT t→Rt u→WT u→ ∀ v,BT u v→cr qg gk [v]=some (S (held p 999 u)))
 (hI: ∀ a b,t.kind=4→t.kids=[a,b]→(qD t.name).prio ≠ 0→ ∀ v,BT t v→cr qg gi [v]=some (S (Yi p t.name (wk p a) (wk p b)))) (v:V) (hb:BT t v):
 cr qg qdB [v,Fc gk,Fc gi]=some (S (wr p t)):=by
 obtain ⟨hk4,hnm,hnum,hkid,hnok⟩:=Jq (qbt hr)
 have at_:=qlG t.name (by omega)
 have atl:=qbB t.name
 have ia:=qht t v hb [91,93]
 have is:=qlK t v hb
 have inf:=qlJ t v hb
 have op:=qrd t.name
 have hgi:=fun a b h1 h2 h3=>hI a b h1 h2 h3 v hb
 obtain ⟨τ,vs,rfl,hv⟩:=qy hb
 have hl:=zk hv
 rw [qn qwy rfl]
 by_cases k1:t.kind=1
 ·have d1:decide (t.kind=1)=true:=decide_eq_true k1
  have hd:=hnum (.inr k1)
  have dec:=qlH t.num (by omega) (by omega)
  have:=Jj t.num (by omega) (by omega)
  have s1:qo .add (S [95]) (S (itoa t.num))=_:=qw (by simp only [List.length_cons,List.length_nil];omega)
  rw [qfK p k1]
  simp only [go_sem,qa,qb,qc,qd,qe,qf,reduceCtorEq,kq,d1,dec,s1]
 have d1:decide (t.kind=1)=false:=decide_eq_false k1
 by_cases k3:t.kind=3
 ·have d3:decide (t.kind=3)=true:=decide_eq_true k3
  have hd:=hnum (.inl k3)
  have dec:=qlH t.num (by omega) (by omega)
  rw [qfJ p k3]
  simp only [go_sem,qa,qb,qc,qd,qe,qf,reduceCtorEq,kq,d1,d3,dec]
 have d3:decide (t.kind=3)=false:=decide_eq_false k3
 by_cases k2:t.kind=2
 ·have d2:decide (t.kind=2)=true:=decide_eq_true k2
  unfold yM at ia
  rw [d2,Bool.true_and]at ia
  rw [qfI p k2]
  by_cases hnil:t.name=[91,93]
  ·rw [decide_eq_true hnil]at ia
   rw [if_pos hnil]
   simp only [go_sem,qa,qb,qc,qd,qe,qf,reduceCtorEq,kq,d1,d3,ia]
  rw [decide_eq_false hnil]at ia
  rw [if_neg hnil]
  cases ho:Yj t.name with
  |true=>
   rw [ho]at op
   have s1:qo .add (S [40]) (S (zN t.name))=_:=qw (by simp only [List.length_cons,List.length_nil];omega)
   have s2:qo .add (S ([40]++zN t.name)) (S [41])=_:=qw (by simp only [List.length_append,List.length_cons,List.length_nil];omega)
   simp only [List.cons_append,List.nil_append]at s1 s2
   rw [if_pos rfl]
   simp only [go_sem,qa,qb,qc,qd,qe,qf,reduceCtorEq,kq,d1,d3,ia,d2,op,at_,s1,s2]
  |false=>
   rw [ho]at op
   rw [if_neg (by decide)]
   simp only [go_sem,qa,qb,qc,qd,qe,qf,reduceCtorEq,kq,d1,d3,ia,d2,op,at_]
 have d2:decide (t.kind=2)=false:=decide_eq_false k2
 have k4:t.kind=4:=by rcases hk4 with h|h|h|h<;>first|exact h|contradiction
 have d4:decide (t.kind=4)=true:=decide_eq_true k4
 unfold yM at ia
 rw [d2,Bool.false_and]at ia
 have hlen:=(Qv p hr).1
 cases hp:zj t [46] 2 with
 |true=>
  rw [hp]at is
  obtain ⟨-,-,a,b,hk⟩:=jW hp
  have hnt:=js hk
  have ra:=z7 hr a (by rw [hk];simp)
  have rb:=z7 hr b (by rw [hk];simp)
  have wa:=zp hw a (by rw [hk];simp)
  have wb:=zp hw b (by rw [hk];simp)
  have hla:=yL p 999 ra
  have hpa:=ye a
  rw [hk]at hv
  obtain ⟨va,vb,rfl,ha,hb'⟩:=x3 hv
  obtain ⟨b',v',acc',g1,g3,g4,g5,g6,g7,g8,g9⟩:=qAx p gk (nT t) (by omega) hW (nT b) b (Nat.le_refl _) (by omega) rb wb vb hb' ([91]++held p 999 a) (by simp only [List.length_append,List.length_cons,List.length_nil];omega)
  have hl':=yL p 999 g5
  rw [qjb p hp hk, ← g7]
  have ia2:=qht b' v' g1 [91,93]
  have cw1:=hW a (by omega) ra wa va ha
  have cw2:=hW b' (by omega) g5 g6 v' g1
  have s1:qo .add (S [91]) (S (held p 999 a))=_:=qw (by simp only [List.length_cons,List.length_nil];omega)
  obtain ⟨τa,vsa,rfl,-⟩:=qy ha
  obtain ⟨τb,vsb,rfl,-⟩:=qy hb'
  obtain ⟨τd,vsd,rfl,-⟩:=qy g1
  simp only [List.cons_append,List.nil_append]at g9 s1
  cases hn:yM b' [91,93]with
  |true=>
   have s2:qo .add (S acc') (S [93])=_:=qw (by simp only [List.length_cons,List.length_nil];omega)
   rw [qi7 p hn]
   rw [hn]at ia2
   simp only [go_sem,qa,qb,qc,qd,qe,qf,reduceCtorEq,kq,d1,d3,ia,d2,is,cw1,s1,g9,ia2,s2]
  |false=>
   have s2:qo .add (S [124]) (S (held p 999 b'))=_:=qw (by simp only [List.length_cons,List.length_nil];omega)
   have s3:qo .add (S acc') (S ([124]++held p 999 b'))=_:=qw (by simp only [List.length_append,List.length_cons,List.length_nil];omega)
   have s4:qo .add (S (acc'++([124]++held p 999 b'))) (S [93])=_:=qw (by simp only [List.length_append,List.length_cons,List.length_nil];omega)
   have he:acc'++([124]++held p 999 b'++[93])=acc'++([124]++held p 999 b')++[93]:=by simp only [List.append_assoc]
   rw [qi6 p hn g3,he]
   rw [hn]at ia2
   simp only [List.cons_append,List.nil_append]at s2 s3 s4 ⊢
   simp only [go_sem,qa,qb,qc,qd,qe,qf,reduceCtorEq,kq,d1,d3,ia,d2,is,cw1,s1,g9,ia2,s2,cw2,s3,s4]
 |false=>
 rw [hp]at is
 have pi:=qh5 (t:=t)
 rw [d4,Bool.true_and]at pi
 have hkl:=(hkid k4).2
 have h1k:=(hkid k4).1
 by_cases h0:zh t=0
 ·rw [decide_eq_false (show ¬ zh t ≠ 0 from fun h=>h h0)]at inf
  have hks: ∀ u ∈ t.kids,∀ v,BT u v→cr qg gk [v]=some (S (held p 999 u)):=fun u hu=>hW u (by have:=Jp t;have:=Xq hu;omega) (z7 hr u hu) (zp hw u hu)
  have lp:=qAw p gk t τ vs hv hkl hks t.kids.length 0 [] (by omega) rfl
  simp only [List.drop_zero,List.length_nil,Nat.zero_add,List.map_nil,List.nil_append,Int.natCast_zero]at lp
  have hw':=qi9 p k4 hp h0
  have hL:(join (t.kids.map (held p 999)) [44]).length≤200000:=by
   rw [hw']at hlen
   simp only [List.length_append]at hlen
   omega
  have jn:=qqD qxQ true (t.kids.map (held p 999)) [44] (by rw [List.length_map];omega) (by omega)
  have s1:qo .add (S (zN t.name)) (S [40])=_:=qw (by simp only [List.length_cons,List.length_nil];omega)
  have s2:qo .add (S (zN t.name++[40])) (S (join (t.kids.map (held p 999)) [44]))=_:=qw (by simp only [List.length_append,List.length_cons,List.length_nil];omega)
  have s3:qo .add (S (zN t.name++[40]++join (t.kids.map (held p 999)) [44])) (S [41])=_:=qw (by simp only [List.length_append,List.length_cons,List.length_nil];omega)
  rw [hw']
  simp only [go_sem,qa,qb,qc,qd,qe,qf,reduceCtorEq,kq,d1,d3,ia,d2,is,inf,hl,lp,at_,jn,s1,s2,s3]
 ·rw [decide_eq_true h0]at inf
  have hc:t.kind=4∧t.kids.length=2:=by
   unfold zh at h0
   by_cases hc:t.kind=4∧t.kids.length=2
   ·exact hc
   ·rw [if_neg hc]at h0;exact absurd rfl h0
  obtain ⟨a,b,hk⟩:=qi2 (t:=t) (by omega)
  have hi:(qD t.name).prio ≠ 0:=by unfold zh at h0;rw [if_pos hc]at h0;exact h0
  have g:=hgi a b k4 hk hi
  rw [qja p k4 hk hi]
  simp only [go_sem,qa,qb,qc,qd,qe,qf,reduceCtorEq,kq,d1,d3,ia,d2,is,inf,g]
end Go.Vm
namespace Go.Vm
def xr(p:Bool) (t:Tm):Str:=if zb t=true then wr p t else []
theorem QT {t:Tm} (h:zb t=true):nT t≤400∧Rt t:=by
 unfold zb at h
 simp only [Bool.and_eq_true,decide_eq_true_eq]at h
 exact ⟨h.1,1,h.2⟩
theorem qfL(p:Bool) (t:Tm):(xr p t).length≤24000:=by
 unfold xr
 split
 ·rename_i h
  obtain ⟨h1,h2⟩:=QT h
  have:=(Qv p h2).1
  omega
 ·simp
theorem qzH(t:Tm) (hw:WT t) (v:V) (hb:BT t v):cr qg qgg [v]=some (S (xr false t)):=by
 have ok:=k9 t hw v hb
 have wt:=fun h1 h2=>qma t h1 h2 hw v hb
 obtain ⟨τ,vs,rfl,hv⟩:=qy hb
 rw [qn qwY rfl]
 unfold xr
 cases h:zb t with
 |false=>rw [h]at ok;rw [if_neg (by decide)];simp only [go_sem,qa,qb,qc,qd,qe,qf,reduceCtorEq,YO,ok]
 |true=>
  obtain ⟨h1,h2⟩:=QT h
  have g:=wt h1 h2
  rw [h]at ok
  rw [if_pos rfl]
  simp only [go_sem,qa,qb,qc,qd,qe,qf,reduceCtorEq,YO,ok,g]
def qzs(c:Cl):Str:=(if yM c.body [116,114,117,101]=true then xr false c.head else xr false c.head++([32,58,45,32]++xr false c.body))++[46,10]
end Go.Vm
namespace Go.Vm
def oF(x:Db):V:= .a [.o 9 (x.clauses.map (iCl false)),.o 1 (x.opn.map S)]
theorem Zk(τ:Bool) (l:List Cl):qF (l.map (iCl τ))=true:=jl (qqm τ) l
theorem Jl(d:Nat) (τ:Bool) (l:List Cl):qE d (l.map (iCl τ))=l.map (iCl τ):=Zp d _ (Zk τ l)
theorem Jo(m:Nat) (T:Mem) (τ:Bool) (l:List Cl):qB (zd m) T (l.map (iCl τ))=(l.map (iCl τ),T):=x9 m T _ (Zk τ l)
theorem JC(k:Key) (ob:Ob) (τ:Bool) (l:List Cl):zB k ob (l.map (iCl τ))=none:=jB k ob _ (Zk τ l)
theorem Jc(ρ τ:Bool) (l:List Cl):qU ρ (l.map (iCl τ))=l.map (iCl τ):=jS (qqz ρ τ) l
theorem qu8(bs:List UInt8) (ci:Nat) (ch:Int) (os:List Str) (c:Cl) (m:Nat): ∀ (i:Nat) (cs:List Cl),i+m=120→cs.length≤30+i→cs[0]? =some c→
 lw qg qa7 ⟨[(0,.p (0,0) 0 0),(2,.p (100000,0) 0 0),(4,.p (100000,1) 0 0),(5,I (i:Int))],[((0,0),3,[.a [.i false (bs.map qY),I ci,I ch]]),((100000,0),2,[.a [.s (100000,2) 0 0,.s (100000,3) 0 0]]),((100000,1),2,[.a [.s (100000,4) 0 cs.length,.s (100000,5) 0 os.length]]),((100000,2),9,[]),((100000,3),1,[]),((100000,4),9,cs.map (iCl false)),((100000,5),1,os.map S)]⟩=some (.exit 1,⟨[(0,.p (0,0) 0 0),(2,.p (100000,0) 0 0),(4,.p (100000,1) 0 0)],[((0,0),3,[.a [.i false (bs.map qY),I ci,I ch]]),((100000,0),2,[.a [.s (100000,2) 0 0,.s (100000,3) 0 0]]),((100000,1),2,[.a [.s (100000,4) 0 (cs++List.replicate m c).length,.s (100000,5) 0 os.length]]),((100000,2),9,[]),((100000,3),1,[]),((100000,4),9,(cs++List.replicate m c).map (iCl false)),((100000,5),1,os.map S)]⟩):=by
 induction m with
 |zero=>
  intro i cs hi hl hc
  have hlt: ¬ (i:Int) < 120:=by omega
  simp only [List.replicate_zero,List.append_nil]
  rw [qr]
  simp only [go_sem,qa,qb,qc,qd,qe,qf,reduceCtorEq,qen,hlt,List.length_map]
 |succ m ih=>
  intro i cs hi hl hc
  have hlt:(i:Int) < 120:=by omega
  have e1:w64 ((i:Int)+1)=((i+1:Nat):Int):=by rw [qp]<;>omega
  have h:=ih (i+1) (cs++[c]) (by omega) (by simp;omega) (by rw [List.getElem?_append_left (by have:=(List.getElem?_eq_some_iff.1 hc).1;omega)];exact hc)
  have rr:cs++[c]++List.replicate m c=cs++List.replicate (m+1) c:=by rw [List.append_assoc];rfl
  rw [rr]at h
  rw [← h]
  have hp:1≤cs.length:=(List.getElem?_eq_some_iff.1 hc).1
  have g:(cs.map (iCl false))[0]? =some (iCl false c):=yb (f:=iCl false) hc
  have ix:ixO (100000,4) 0 cs.length 9 (0:Int) (some (9,cs.map (iCl false)))=some (.p (100000,4) 0 0):=by
   have:=jq (k:=(100000,4)) (e:=9) (xs:=cs.map (iCl false)) (i:=0) (len:=cs.length) hp (by simp)
   simpa using this
  have b1:decide ((cs.length+1)*128≤lim)=true:=decide_eq_true (by rw [ze];omega)
  have b2:decide (cs.length+1≤lim)=true:=decide_eq_true (by rw [ze];omega)
  have ln:(cs++[c]).length=cs.length+1:=by simp
  rw [ln,qr]
  simp only [go_sem,qa,qb,qc,qd,qe,qf,reduceCtorEq,qen,hlt,e1,g,ix,b1,b2,Zk,Jl,Jo,JC,List.length_map]
def tA:List Str:=[[97],[112,40,88,44,32,98,41],[113,32,58,45,32,112,40,88,44,32,89,41,44,32,92,43,32,114,40,89,41],[91,97,44,32,66,124,67,93,32,61,32,68],[120,32,45,45,62,32,91,119,93,44,32,121],[45,32,51,32,43,32,45,51,32,42,32,88],[102,40,45,44,32,97,41],[40,43,41],[88,32,105,115,32,49,32,43,32,50,32,45,32,51],[97,32,58,45,32,40,98,32,59,32,99,32,45,62,32,100,41],[39,120,45,121,39,40,90,41],[102,40,97],[91,93],[103,40,95,44,32,95,41],[58,45,32,111,112,101,110,40,47,40,97,44,32,50,41,41],[97,32,98],[45,32,40,49,41]]
def tB:List Str:=[[46,10],[46,32],[46],[32,46,10,37,32,110,111,10]]
theorem qz7: ∀ s ∈ tA,s.length≤40:=by decide
theorem qz8: ∀ s ∈ tB,s.length≤40:=by decide
theorem qu0(bs:List UInt8) (hl:bs.length≤2^40) (m:Nat): ∀ (i:Nat) (s:Str) (ci:Nat) (ch:Int),i+m=4→ci≤bs.length→s.length≤80*i→
 ∃ (ci':Nat) (ch':Int) (s':Str),lw qg qa5 ⟨[(0,.p (0,0) 0 0),(3,S s),(4,I i)],[((0,0),3,[.a [.i false (bs.map qY),I ci,I ch]])]⟩=some (.exit 0,⟨[(0,.p (0,0) 0 0),(3,S s')],[((0,0),3,[.a [.i false (bs.map qY),I ci',I ch']])]⟩)∧ci'≤bs.length∧s'.length≤320:=by
 induction m with
 |zero=>
  intro i s ci ch hi hc hs
  obtain ⟨c1,d1,x1,b1,q1,q2,q3⟩:=xN bs hl ci ch hc 4 (by decide) (by decide)
  have e1:w64 (1+x1)=1+x1:=by rw [qp]<;>omega
  have hlt: ¬ (i:Int) < 1+x1:=by omega
  refine ⟨c1,d1,s, ?_,q1,by omega⟩
  unfold CU at b1
  rw [qr]
  simp only [go_sem,qa,qb,qc,qd,qe,qf,reduceCtorEq,qbo,b1,e1,hlt]
 |succ m ih=>
  intro i s ci ch hi hc hs
  obtain ⟨c1,d1,x1,b1,q1,q2,q3⟩:=xN bs hl ci ch hc 4 (by decide) (by decide)
  have e1:w64 (1+x1)=1+x1:=by rw [qp]<;>omega
  by_cases hlt:(i:Int) < 1+x1
  case neg=>
   refine ⟨c1,d1,s, ?_,q1,by omega⟩
   unfold CU at b1
   rw [qr]
   simp only [go_sem,qa,qb,qc,qd,qe,qf,reduceCtorEq,qbo,b1,e1,hlt]
  obtain ⟨c2,d2,s2,b2,q4,q5⟩:=Xn bs hl c1 d1 q1 1 tA (by decide) (by decide)
  obtain ⟨c3,d3,s3,b3,q6,q7⟩:=Xn bs hl c2 d2 q4 1 tB (by decide) (by decide)
  have l2:=qz7 s2 q5
  have l3:=qz8 s3 q7
  obtain ⟨c4,d4,s4,h4,q8,q9⟩:=ih (i+1) (s++s2++s3) c3 d3 (by omega) q6 (by simp only [List.length_append];omega)
  refine ⟨c4,d4,s4, ?_,q8,q9⟩
  rw [← h4]
  have e2:w64 ((i:Int)+1)=((i+1:Nat):Int):=by rw [qp]<;>omega
  have a1:=qw (x:=s) (y:=s2) (by omega)
  have a2:=qw (x:=s++s2) (y:=s3) (by simp only [List.length_append];omega)
  unfold CU at b1 b2 b3
  simp only [tA,tB,List.map_cons,List.map_nil]at b2 b3
  rw [qr]
  simp only [go_sem,qa,qb,qc,qd,qe,qf,reduceCtorEq,qbo,b1,b2,b3,e1,e2,a1,a2,hlt]
theorem qu1(bs:List UInt8) (hl:bs.length≤2^40) (i:Nat) (h:Int) (hi:i≤bs.length):
 ∃ (i':Nat) (h':Int) (s:Str),cw qg qgs [CU bs i h]=some (S s,[CU bs i' h'])∧i'≤bs.length∧s.length≤320:=by
 obtain ⟨i1,h1,s,lp,p1,p2⟩:=qu0 bs hl 4 0 [] i h (by omega) hi (by simp)
 refine ⟨i1,h1,s, ?_,p1,p2⟩
 simp only [Int.natCast_zero]at lp
 rw [qK qxs rfl]
 unfold CU
 simp only [go_sem,qa,qb,qc,qd,qe,qf,reduceCtorEq,Kr,qC,lp]
theorem qpj(bs:List UInt8) (hl:bs.length≤2^40): ∃ s:Str,cr qg qgb [.i false (bs.map qY)]=some (S s):=by
 obtain ⟨h,n⟩:=Jm bs hl
 obtain ⟨i1,h1,c,b1,p1⟩:=qeM bs hl 0 h (Nat.zero_le _) 2 (by decide) (by decide)
 unfold CU at n b1
 simp only [Int.natCast_zero]at n b1
 cases c with
 |true=>
  obtain ⟨i2,h2,t,b2,p2,w⟩:=Yk bs hl i1 h1 p1
  have wt:=qzH t w.1 (iT true t) (yY true t)
  have ln:=qfL false t
  have a1:=qw (x:=xr false t) (y:=[32,46]) (by simp only [List.length_cons,List.length_nil];omega)
  have tk:(t.kids.map oT).take t.kids.length=t.kids.map oT:=List.take_of_length_le (by simp)
  refine ⟨xr false t++[32,46], ?_⟩
  rw [qn qmZ rfl]
  rw [qv]at b2
  rw [ym]at wt
  unfold CU at b2
  simp only [go_sem,qa,qb,qc,qd,qe,qf,reduceCtorEq,YI,n,b1,b2,wt,a1,tk,List.length_map]
 |false=>
  obtain ⟨i2,h2,s,b2,p2,w⟩:=qu1 bs hl i1 h1 p1
  refine ⟨s, ?_⟩
  rw [qn qmZ rfl]
  unfold CU at b2
  simp only [go_sem,qa,qb,qc,qd,qe,qf,reduceCtorEq,YI,n,b1,b2]
theorem qpk(bs:List UInt8) (hl:bs.length≤2^40): ∃ t:Tm,cr qg qgc [.i false (bs.map qY)]=some (oT t)∧Dr 400 t:=by
 obtain ⟨h,n⟩:=Jm bs hl
 obtain ⟨i1,h1,c,b1,p1⟩:=qeM bs hl 0 h (Nat.zero_le _) 2 (by decide) (by decide)
 unfold CU at n b1
 simp only [Int.natCast_zero]at n b1
 cases c with
 |true=>
  obtain ⟨s,d⟩:=qpj bs hl
  have rt:=qeu s
  have tk:((zR s).kids.map oT).take (zR s).kids.length=(zR s).kids.map oT:=List.take_of_length_le (by simp)
  refine ⟨zR s, ?_,qb6 s⟩
  rw [qn qm0 rfl]
  rw [qv]at rt ⊢
  simp only [go_sem,qa,qb,qc,qd,qe,qf,reduceCtorEq,YJ,n,b1,d,rt,tk,List.length_map]
 |false=>
  obtain ⟨i2,h2,t,b2,p2,w⟩:=Yk bs hl i1 h1 p1
  have tk:(t.kids.map oT).take t.kids.length=t.kids.map oT:=List.take_of_length_le (by simp)
  refine ⟨t, ?_,zJ w (by decide)⟩
  rw [qn qm0 rfl]
  rw [qv]at b2 ⊢
  unfold CU at b2
  simp only [go_sem,qa,qb,qc,qd,qe,qf,reduceCtorEq,YJ,n,b1,b2,tk,List.length_map]
theorem qpd(bs:List UInt8) (hl:bs.length≤2^40): ∃ t:Tm,cr qg qf5 [.i false (bs.map qY)]=some (.t [oT t,S [111,110,101]])∧Dr 400 t:=by
 obtain ⟨h,n⟩:=Jm bs hl
 obtain ⟨i1,h1,k,b1,p1,q1,r1⟩:=xN bs hl 0 h (Nat.zero_le _) 4 (by decide) (by decide)
 have ll:=qmb
 obtain ⟨i2,h2,s,b2,p2,q2⟩:=Xn bs hl i1 h1 p1 1 yO (by decide) (by decide)
 have ls:=qmh s q2
 have a1:=qw (x:=s) (y:=[32,46]) (by simp only [List.length_cons,List.length_nil];omega)
 have rt:=qeu (s++[32,46])
 have tk:((zR (s++[32,46])).kids.map oT).take (zR (s++[32,46])).kids.length=(zR (s++[32,46])).kids.map oT:=List.take_of_length_le (by simp)
 have tkl:(yO.map S).take 29=yO.map S:=List.take_of_length_le (by simp [yO])
 have ln:(yO.map S).length=29:=rfl
 rw [qv]at rt
 unfold CU at n b1 b2
 simp only [Int.natCast_zero]at n b1
 by_cases k0:k=0
 ·have d0:decide (k=0)=true:=decide_eq_true k0
  obtain ⟨i3,h3,t,b3,p3,w⟩:=Yk bs hl i2 h2 p2
  have tk2:(t.kids.map oT).take t.kids.length=t.kids.map oT:=List.take_of_length_le (by simp)
  refine ⟨t, ?_,zJ w (by decide)⟩
  rw [qn qh0 rfl]
  rw [qv]at b3 ⊢
  unfold CU at b3
  simp only [go_sem,qa,qb,qc,qd,qe,qf,reduceCtorEq,ZI,n,b1,b2,b3,ll,ln,a1,rt,tk,tk2,tkl,d0,List.length_map]
 have d0:decide (k=0)=false:=decide_eq_false k0
 by_cases k1:k=1
 ·have d1:decide (k=1)=true:=decide_eq_true k1
  obtain ⟨i3,h3,t,b3,p3,w,-⟩:=ql7 bs hl i2 h2 p2
  obtain ⟨i4,h4,u,b4,p4,w4,-⟩:=ql7 bs hl i3 h3 p3
  have two:=qbT [58,45] t u
  refine ⟨.mk 4 [58,45] 0 [t,u], ?_,⟨xH ⟨by omega,by omega⟩ (by unfold Lm;simp) ⟨by omega,by omega⟩ (by unfold Lm;simp) (fun x hx=>by
   rcases List.mem_cons.1 hx with rfl|hx
   ·exact w.1
   ·simp only [List.mem_singleton]at hx;subst hx;exact w4.1),by have:=w.2;have:=w4.2;simp only [nT,nTs];omega⟩⟩
  rw [qn qh0 rfl]
  rw [Zt,List.map_cons,List.map_cons,List.map_nil]at two ⊢
  rw [qv t]at b3 two ⊢
  rw [qv u]at b4 two ⊢
  unfold CU at b3 b4
  simp only [go_sem,qa,qb,qc,qd,qe,qf,reduceCtorEq,ZI,n,b1,b2,b3,b4,two,dT,ll,ln,a1,rt,tk,tkl,d0,d1,List.length_map]
 have d1:decide (k=1)=false:=decide_eq_false k1
 refine ⟨zR (s++[32,46]), ?_,qb6 _⟩
 rw [qn qh0 rfl]
 rw [qv]
 simp only [go_sem,qa,qb,qc,qd,qe,qf,reduceCtorEq,ZI,n,b1,b2,ll,ln,a1,rt,tk,tkl,d0,d1,List.length_map]
theorem qpe(bs:List UInt8) (hl:bs.length≤2^40): ∃ c:Cl,cr qg qf6 [.i false (bs.map qY)]=some (oCl c)∧DC c:=by
 obtain ⟨t,d,w⟩:=qpd bs hl
 have co:=qfP t w.1 [111,110,101]
 have w2:=qkV w [111,110,101]
 have w3:=qkW t [111,110,101]
 refine ⟨yJ t [111,110,101], ?_,⟨zJ w2.1 (by decide),zJ w2.2 (by decide),by simp only [List.length_cons,List.length_nil]at w3;omega⟩⟩
 generalize yJ t [111,110,101]=c at co ⊢
 rw [qn qwI rfl]
 have tk:=fun t:Tm=>List.take_of_length_le (l:=t.kids.map oT) (i:=t.kids.length) (by simp)
 rw [qbZ]at co ⊢
 simp only [go_sem,qa,qb,qc,qd,qe,qf,reduceCtorEq,X4,d,co,tk,List.length_map]
theorem qpf(bs:List UInt8) (hl:bs.length≤2^40): ∃ c:Cl,cr qg qf7 [.i false (bs.map qY)]=some (oCl c)∧DC c:=by
 obtain ⟨h,n⟩:=Jm bs hl
 obtain ⟨i1,h1,c,b1,p1⟩:=qeM bs hl 0 h (Nat.zero_le _) 4 (by decide) (by decide)
 have tk:=fun t:Tm=>List.take_of_length_le (l:=t.kids.map oT) (i:=t.kids.length) (by simp)
 unfold CU at n b1
 simp only [Int.natCast_zero]at n b1
 cases c with
 |true=>
  obtain ⟨i2,h2,t,b2,p2,w⟩:=Yk bs hl i1 h1 p1
  obtain ⟨i3,h3,u,b3,p3,w3⟩:=Yk bs hl i2 h2 p2
  refine ⟨⟨t,u,[]⟩, ?_,⟨zJ w (by decide),zJ w3 (by decide),by simp⟩⟩
  rw [qn qmY rfl]
  rw [qv]at b2 b3
  rw [qbZ]
  unfold CU at b2 b3
  simp only [go_sem,qa,qb,qc,qd,qe,qf,reduceCtorEq,YH,n,b1,b2,b3,tk,List.length_map]
 |false=>
  obtain ⟨c,d,w⟩:=qpe bs hl
  refine ⟨c, ?_,w⟩
  rw [qn qmY rfl]
  rw [qbZ]at d ⊢
  simp only [go_sem,qa,qb,qc,qd,qe,qf,reduceCtorEq,YH,n,b1,d,tk,List.length_map]
theorem qpg(bs:List UInt8) (hl:bs.length≤2^40): ∃ c:Cl,cr qg qf8 [.i false (bs.map qY)]=some (oCl c)∧DC c:=by
 obtain ⟨c,d,w⟩:=qpf bs hl
 have tk:=fun t:Tm=>List.take_of_length_le (l:=t.kids.map oT) (i:=t.kids.length) (by simp)
 refine ⟨c, ?_,w⟩
 rw [qn qwJ rfl]
 rw [qbZ]at d ⊢
 simp only [go_sem,qa,qb,qc,qd,qe,qf,reduceCtorEq,X5,d,tk,List.length_map]
end Go.Vm
namespace Go.Vm
theorem qqE {f:Nat} {xs:List V} (hs:cr qg f xs=some (B true)): ∃ outs,cw qg f xs=some (B true,outs):=by
 unfold cr at hs
 cases hc:cw qg f xs with
 |none=>rw [hc]at hs;cases hs
 |some r=>rw [hc]at hs;obtain ⟨a,b⟩:=r;simp only [Option.map_some,Option.some.injEq]at hs;subst hs;exact ⟨b,rfl⟩
end Go.Vm
namespace Go.Vm
def qvx:List Str→Str
 |[]=>[]
 |s::ss=>s++[10]++qvx ss
end Go.Vm
namespace Go.Vm
def qzt:List Cl→Str
 |[]=>[]
 |c::cs=>qzs c++qzt cs
end Go.Vm
namespace Go.Vm
open Go.Lib (itoa join joinTail)
theorem qlB {m:Int} {t:Tm}:held true m t=if m < zh t then [40]++wr true t++[41]else wr true t:=by
 unfold held zr
 by_cases h:m < zh t
 ·rw [if_pos ⟨rfl,h⟩,if_pos h]
 ·rw [if_neg (fun e=>h e.2),if_neg h]
theorem qkz(t:Tm) (hN:nT t≤400) (hr:Rt t) (hp: ∀ v,BT t v→cr qg KI [v]=some (S (wr true t))) (m:Int) (v:V) (hb:BT t v):
 cr qg Za [v,I m]=some (S (held true m t)):=by
 have pr:=qho t v hb
 have g:=hp v hb
 have hl:=(Qv true hr).1
 have s1:qo .add (S [40]) (S (wr true t))=_:=qw (by simp only [List.length_cons,List.length_nil];omega)
 have s2:qo .add (S ([40]++wr true t)) (S [41])=_:=qw (by simp only [List.length_append,List.length_cons,List.length_nil];omega)
 obtain ⟨τ,vs,rfl,hv⟩:=qy hb
 rw [qlB,qn qv9 rfl]
 simp only [List.cons_append,List.nil_append]at s1 s2
 by_cases h:m < zh t
 ·rw [if_pos h];simp only [go_sem,qa,qb,qc,qd,qe,qf,reduceCtorEq,YB,pr,h,g,s1,s2]
 ·rw [if_neg h];simp only [go_sem,qa,qb,qc,qd,qe,qf,reduceCtorEq,YB,pr,h,g]
theorem qmc(t:Tm) (hN:nT t≤400) (hr:Rt t) (hp: ∀ v,BT t v→cr qg Y6 [v]=some (S (wr true t))) (m:Int) (v:V) (hb:BT t v):
 cr qg xd [v,I m]=some (S (held true m t)):=by
 have pr:=qiP t v hb
 have g:=hp v hb
 have hl:=(Qv true hr).1
 have s1:qo .add (S [40]) (S (wr true t))=_:=qw (by simp only [List.length_cons,List.length_nil];omega)
 have s2:qo .add (S ([40]++wr true t)) (S [41])=_:=qw (by simp only [List.length_append,List.length_cons,List.length_nil];omega)
 obtain ⟨τ,vs,rfl,hv⟩:=qy hb
 rw [qlB,qn qxF rfl]
 simp only [List.cons_append,List.nil_append]at s1 s2
 by_cases h:m < zh t
 ·rw [if_pos h];simp only [go_sem,qa,qb,qc,qd,qe,qf,reduceCtorEq,YY,pr,h,g,s1,s2]
 ·rw [if_neg h];simp only [go_sem,qa,qb,qc,qd,qe,qf,reduceCtorEq,YY,pr,h,g]
theorem qlP {t a b:Tm}:Yi true t.name (wk true a) (wk true b)=held true (qD t.name).left a++[32]++yF t.name++[32]++held true (qD t.name).right b:=by
 unfold Yi
 rw [if_pos rfl,qbP,qbP]
theorem qlN: ∀ (n:Nat) (t:Tm),nT t≤n→nT t≤400→Rt t→WT t→ ∀ v,BT t v→cr qg KI [v]=some (S (wr true t)):=by
 intro n
 induction n with
 |zero=>intro t hn;have:=ye t;omega
 |succ n ih=>
  intro t hn hN hr hw v hb
  have hB: ∀ u,nT u < nT t→Rt u→WT u→ ∀ m v,BT u v→cr qg Za [v,I m]=some (S (held true m u)):=fun u h1 h2 h3=>qkz u (by omega) h2 (fun v hb=>ih u (by omega) (by omega) h2 h3 v hb)
  have hW: ∀ u,nT u < nT t→Rt u→WT u→ ∀ v,BT u v→cr qg qdv [v]=some (S (held true 999 u)):=by
   intro u h1 h2 h3 v hb
   have g:=hB u h1 h2 h3 999 v hb
   obtain ⟨τ,vs,rfl,hv⟩:=qy hb
   rw [qn qwo rfl]
   simp only [go_sem,qa,qb,qc,qd,qe,qf,reduceCtorEq,XW,g]
  have hI: ∀ a b,t.kind=4→t.kids=[a,b]→(qD t.name).prio ≠ 0→ ∀ v,BT t v→cr qg qdw [v]=some (S (Yi true t.name (wk true a) (wk true b))):=by
   intro a b k4 hk hi v hb
   obtain ⟨-,hnm,-,-,-⟩:=Jq (qbt hr)
   have hnt:=js hk
   have ra:=z7 hr a (by rw [hk];simp)
   have rb:=z7 hr b (by rw [hk];simp)
   have hla:=yL true (qD t.name).left ra
   have hlb:=yL true (qD t.name).right rb
   have hpa:=ye a
   have hpb:=ye b
   have st:=qrh t.name (by omega)
   have hst:=qfu t.name
   have inf:=Yh t.name
   unfold opV at inf
   obtain ⟨τ,vs,rfl,hv⟩:=qy hb
   rw [hk]at hv
   obtain ⟨va,vb,rfl,hva,hvb⟩:=x3 hv
   have ca:=hB a (by omega) ra (zp hw a (by rw [hk];simp)) (qD t.name).left va hva
   have cb:=hB b (by omega) rb (zp hw b (by rw [hk];simp)) (qD t.name).right vb hvb
   obtain ⟨τa,vsa,rfl,-⟩:=qy hva
   obtain ⟨τb,vsb,rfl,-⟩:=qy hvb
   rw [qlP]
   generalize hA:held true (qD t.name).left a=A1 at*
   generalize hB':held true (qD t.name).right b=B1 at*
   have s2:qo .add (S A1) (S [32])=_:=qw (by simp only [List.length_cons,List.length_nil];omega)
   have s3:qo .add (S (A1++[32])) (S (yF t.name))=_:=qw (by simp only [List.length_append,List.length_cons,List.length_nil];omega)
   have s4:qo .add (S (A1++[32]++yF t.name)) (S [32])=_:=qw (by simp only [List.length_append,List.length_cons,List.length_nil];omega)
   have s5:qo .add (S (A1++[32]++yF t.name++[32])) (S B1)=_:=qw (by simp only [List.length_append,List.length_cons,List.length_nil];omega)
   rw [qn qwp rfl]
   simp only [go_sem,qa,qb,qc,qd,qe,qf,reduceCtorEq,XX,inf,ca,cb,st,s2,s3,s4,s5]
  have g:=qAv true qdv qdw t hN hr hw hW hI v hb
  obtain ⟨τ,vs,rfl,hv⟩:=qy hb
  rw [qn qwn rfl]
  simp only [go_sem,qa,qb,qc,qd,qe,qf,reduceCtorEq,XV,g]
theorem qAs {t:Tm} (hr:Rt t) (h:t.kind ≠ 4):wr true t=wr false t:=by
 obtain ⟨hk,-⟩:=Jq (qbt hr)
 rcases hk with h1|h1|h1|h1
 ·rw [qfK true h1,qfK false h1]
 ·rw [qfI true h1,qfI false h1]
 ·rw [qfJ true h1,qfJ false h1]
 ·exact absurd h1 h
theorem qhE: ∀ (n:Nat) (t:Tm),nT t≤n→nT t≤400→Rt t→WT t→ ∀ v,BT t v→cr qg Y6 [v]=some (S (wr true t)):=by
 intro n
 induction n with
 |zero=>intro t hn;have:=ye t;omega
 |succ n ih=>
  intro t hn hN hr hw v hb
  have hB: ∀ u,nT u < nT t→Rt u→WT u→ ∀ m v,BT u v→cr qg xd [v,I m]=some (S (held true m u)):=fun u h1 h2 h3=>qmc u (by omega) h2 (fun v hb=>ih u (by omega) (by omega) h2 h3 v hb)
  have hW: ∀ u,nT u < nT t→Rt u→WT u→ ∀ v,BT u v→cr qg xd [v,I 999]=some (S (held true 999 u)):=fun u h1 h2 h3 v hb=>hB u h1 h2 h3 999 v hb
  obtain ⟨hk4,hnm,hnum,hkid,hnok⟩:=Jq (qbt hr)
  have at_:=qoC t.name (by omega)
  have atl:=qbB t.name
  have hrow:=fun h2=>qvj t h2 hN hr hw hW v hb
  have is:=Jn t v hb [46] 2
  have inf:=kZ t.name
  unfold opV at inf
  have w7:=qma t hN hr hw v hb
  obtain ⟨τ,vs,rfl,hv⟩:=qy hb
  have hl:=zk hv
  rw [qn qxH rfl]
  by_cases k4:t.kind=4
  case neg=>
   have d4:decide (t.kind=4)=false:=decide_eq_false k4
   rw [qAs hr k4]
   simp only [go_sem,qa,qb,qc,qd,qe,qf,reduceCtorEq,jI,d4,w7]
  have d4:decide (t.kind=4)=true:=decide_eq_true k4
  cases hp:zj t [46] 2 with
  |true=>
   have hrw:=hrow hp
   rw [hp]at is
   simp only [go_sem,qa,qb,qc,qd,qe,qf,reduceCtorEq,jI,d4,is,hrw]
  |false=>
  rw [hp]at is
  have pi:=qh5 (t:=t)
  rw [d4,Bool.true_and]at pi
  have hkl:=(hkid k4).2
  have h1k:=(hkid k4).1
  have hks: ∀ u ∈ t.kids,∀ v,BT u v→cr qg xd [v,I 999]=some (S (held true 999 u)):=fun u hu=>hW u (by have:=Jp t;have:=Xq hu;omega) (z7 hr u hu) (zp hw u hu)
  have hbd: ∀ u ∈ t.kids,(held true 999 u).length≤30000:=fun u hu=>by
   have h1:=yL true 999 (z7 hr u hu)
   have:=Jp t;have:=Xq hu;omega
  have gen:zh t=0→ ∃ acc',join (t.kids.map (held true 999)) [44]=acc'∧acc'.length≤200000∧qo .add (S (zN t.name)) (S [40])=some (S (zN t.name++[40]))∧qo .add (S (zN t.name++[40]++acc')) (S [41])=some (S (wr true t)):=by
   intro h0
   have hw':=qi9 true k4 hp h0
   have hlen:=(Qv true hr).1
   have hL:(join (t.kids.map (held true 999)) [44]).length≤200000:=by
    rw [hw']at hlen
    simp only [List.length_append]at hlen
    omega
   refine ⟨_,rfl,hL,qw (by simp only [List.length_cons,List.length_nil];omega), ?_⟩
   rw [hw']
   exact qw (by simp only [List.length_append,List.length_cons,List.length_nil];omega)
  have first:=qvg t τ vs hv hkl h1k hks hbd (zN t.name++[40]) (by simp only [List.length_append,List.length_cons,List.length_nil];omega)
  by_cases hi:(qD t.name).prio ≠ 0
  ·have di:decide ((qD t.name).prio ≠ 0)=true:=decide_eq_true hi
   rw [di]at inf pi
   have hz: ¬ (qD t.name).prio=0:=hi
   by_cases h2:(t.kids.length:Int)=2
   ·obtain ⟨a,b,hk⟩:=qi2 h2
    have hnt:=js hk
    have hpa:=ye a
    have hpb:=ye b
    have ra:=z7 hr a (by rw [hk];simp)
    have rb:=z7 hr b (by rw [hk];simp)
    have hla:=yL true (qD t.name).left ra
    have hlb:=yL true (qD t.name).right rb
    rw [hk]at hv
    obtain ⟨va,vb,rfl,hva,hvb⟩:=x3 hv
    have ca:=hB a (by omega) ra (zp hw a (by rw [hk];simp)) (qD t.name).left va hva
    have cb:=hB b (by omega) rb (zp hw b (by rw [hk];simp)) (qD t.name).right vb hvb
    obtain ⟨τa,vsa,rfl,-⟩:=qy hva
    obtain ⟨τb,vsb,rfl,-⟩:=qy hvb
    rw [qja true k4 hk hi,qlP]
    generalize hA:held true (qD t.name).left a=A1 at*
    generalize hB':held true (qD t.name).right b=B1 at*
    have hst:=qfu t.name
    have s2:qo .add (S A1) (S [32])=_:=qw (by simp only [List.length_cons,List.length_nil];omega)
    have s3:qo .add (S (A1++[32])) (S (yF t.name))=_:=qw (by simp only [List.length_append,List.length_cons,List.length_nil];omega)
    have s4:qo .add (S (A1++[32]++yF t.name)) (S [32])=_:=qw (by simp only [List.length_append,List.length_cons,List.length_nil];omega)
    have s5:qo .add (S (A1++[32]++yF t.name++[32])) (S B1)=_:=qw (by simp only [List.length_append,List.length_cons,List.length_nil];omega)
    by_cases hc:t.name=[44]
    ·have dc:decide (t.name=[44])=true:=decide_eq_true hc
     unfold yF at s3 s4 s5 ⊢
     rw [if_pos hc]at s3 s4 s5 ⊢
     simp only [go_sem,qa,qb,qc,qd,qe,qf,reduceCtorEq,jI,d4,is,inf,hz,qfF,at_,dc,ca,cb,s2,s3,s4,s5,List.length_cons,List.length_nil]
    ·have dc:decide (t.name=[44])=false:=decide_eq_false hc
     unfold yF at s3 s4 s5 ⊢
     rw [if_neg hc]at s3 s4 s5 ⊢
     simp only [go_sem,qa,qb,qc,qd,qe,qf,reduceCtorEq,jI,d4,is,inf,hz,qfF,at_,dc,ca,cb,s2,s3,s4,s5,List.length_cons,List.length_nil]
   ·have d22:decide ((t.kids.length:Int)=2)=false:=decide_eq_false h2
    rw [d22]at pi
    have h0:zh t=0:=by simpa using pi
    obtain ⟨acc',g1,g2,g3,g4⟩:=gen h0
    rw [g1]at first
    simp only [go_sem,qa,qb,qc,qd,qe,qf,reduceCtorEq,jI,d4,is,inf,hz,d22,hl,at_,g3,first,g4]
  ·have di:decide ((qD t.name).prio ≠ 0)=false:=decide_eq_false hi
   rw [di]at inf pi
   have h0:zh t=0:=by simpa using pi
   obtain ⟨acc',g1,g2,g3,g4⟩:=gen h0
   rw [g1]at first
   have hz:(qD t.name).prio=0:=by simpa using hi
   simp only [go_sem,qa,qb,qc,qd,qe,qf,reduceCtorEq,jI,d4,is,inf,hz,hl,at_,g3,first,g4]
theorem qhr(t:Tm) (hw:WT t) (v:V) (hb:BT t v):cr qg qap [v]=some (S (xr true t)):=by
 have ok:=qhq t hw v hb
 have wt:=fun h1 h2=>qlN (nT t) t (Nat.le_refl _) h1 h2 hw v hb
 obtain ⟨τ,vs,rfl,hv⟩:=qy hb
 rw [qn qv8 rfl]
 unfold xr
 cases h:zb t with
 |false=>rw [h]at ok;rw [if_neg (by decide)];simp only [go_sem,qa,qb,qc,qd,qe,qf,reduceCtorEq,YA,ok]
 |true=>
  obtain ⟨h1,h2⟩:=QT h
  have g:=wt h1 h2
  rw [h]at ok
  rw [if_pos rfl]
  simp only [go_sem,qa,qb,qc,qd,qe,qf,reduceCtorEq,YA,ok,g]
theorem qoG(t:Tm) (hw:WT t) (v:V) (hb:BT t v):cr qg qdH [v]=some (S (xr true t)):=by
 have ok:=k9 t hw v hb
 have wt:=fun h1 h2=>qhE (nT t) t (Nat.le_refl _) h1 h2 hw v hb
 obtain ⟨τ,vs,rfl,hv⟩:=qy hb
 rw [qn qwX rfl]
 unfold xr
 cases h:zb t with
 |false=>rw [h]at ok;rw [if_neg (by decide)];simp only [go_sem,qa,qb,qc,qd,qe,qf,reduceCtorEq,YN,ok]
 |true=>
  obtain ⟨h1,h2⟩:=QT h
  have g:=wt h1 h2
  rw [h]at ok
  rw [if_pos rfl]
  simp only [go_sem,qa,qb,qc,qd,qe,qf,reduceCtorEq,YN,ok,g]
theorem qkA(t:Tm) (hN:nT t≤400) (hr:Rt t) (hw:WT t) (m:Int) (v:V) (hb:BT t v):cr qg Za [v,I m]=some (S (held true m t)):=
 qkz t hN hr (fun v hb=>qlN (nT t) t (Nat.le_refl _) hN hr hw v hb) m v hb
theorem qmd(t:Tm) (hN:nT t≤400) (hr:Rt t) (hw:WT t) (m:Int) (v:V) (hb:BT t v):cr qg xd [v,I m]=some (S (held true m t)):=
 qmc t hN hr (fun v hb=>qhE (nT t) t (Nat.le_refl _) hN hr hw v hb) m v hb
end Go.Vm
